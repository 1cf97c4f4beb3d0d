/- What each of these functions comes to on the abstract machine, one equation a function and one a loop.
Conditions: none. -/
import Derived.Test.YtjmkbglnjklbcaaTb
set_option linter.unusedVariables false
set_option maxRecDepth 100000
namespace Go.Proofs.Ytjmkbglnjklbcaa.Am
open Go Go.RowKit
noncomputable abbrev qf4 (base : Nat) (v0_0 : Option Addr) (v0_0n : Nat) (v0_1 : Option Addr) (v0_1n : Nat) (v0_2 : Int) (v1 : Option Addr) (v1n : Nat) (v2_0 : Int) (v2_1 : Int) (v2_2 : ByteArray) (v2_3 : Option Addr) (v2_3n : Nat) (h : AH) : Option (Value × AH) :=
nw1 h 48 [(vL v0_0 v0_0n), (vL v0_1 v0_1n), (vI v0_2)] fun h1 =>
nw1 h1 28 [(vI v2_0), (vI v2_1), (vT v2_2), (vL v2_3 v2_3n)] fun h2 =>
c_LLI h2 (List.length h) 0 fun l3 l4 n5 =>
(run (Et base) 27 [(.agg #[(vL l3.1 l3.2), (vL l4.1 l4.2), (vI n5)]), (vI (1048576 : Int))] h2).bind fun r6 =>
((some r6.1).bind (getI .i64)).bind fun n7 =>
(if (decide (n7 < (0 : Int))) = true then
some ((.bool true), r6.2)
else
(run (Et base) 12 [(vL v1 v1n), (vI n7)] r6.2).bind fun r8 =>
((some r8.1).bind (getI .i64)).bind fun n9 =>
(if (decide (n9 < (0 : Int))) = true then
some ((.bool true), r8.2)
else
c_IITL r8.2 (List.length h1) 0 fun n10 n11 s12 l13 =>
(run (Et base) 13 [(.agg #[(vI n10), (vI n11), (vT s12), (vL l13.1 l13.2)]), (vI n9)] r8.2).bind fun r14 =>
((some r14.1).bind (getI .i64)).bind fun n15 =>
(if (decide (n15 < (0 : Int))) = true then
some ((.bool true), r14.2)
else
c_LLI r14.2 (List.length h) 0 fun l16 l17 n18 =>
(run (Et base) 29 [(.agg #[(vL l16.1 l16.2), (vL l17.1 l17.2), (vI n18)])] r14.2).bind fun r19 =>
gG (some r19.1) 3 fun l20 =>
l_LLI l20 fun l21 l22 n23 =>
(run (Et base) 16 [(vL v1 v1n)] r19.2).bind fun r24 =>
((some r24.1).bind getS).bind fun l25 =>
(gate (sameA r19.2 r24.2 (some ⟨(List.length h1), 0, none⟩) 4)
((gate (sameA r14.2 r24.2 (some ⟨(List.length h1), 0, none⟩) 4)
(c_IITL r24.2 (List.length h1) 0 fun n26 n27 s28 l29 =>
(run (Et base) 17 [(.agg #[(vI n26), (vI n27), (vT s28), (vL l29.1 l29.2)])] r24.2).bind fun r30 =>
gG (some r30.1) 4 fun l31 =>
l_IITL l31 fun n32 n33 s34 l35 =>
(run (Et base) 28 [(.agg #[(vL l21.1 l21.2), (vL l22.1 l22.2), (vI n23)]), (vL l25.1 l25.2), (.agg #[(vI n32), (vI n33), (vT s34), (vL l35.1 l35.2)])] r30.2).bind fun r36 =>
(getTup 4 r36.1).bind fun l37 =>
gG (l37[0]?) 3 fun l38 =>
l_LLI l38 fun l39 l40 n41 =>
((l37[1]?).bind getS).bind fun l42 =>
((l37[2]?).bind (getI .i64)).bind fun n43 =>
((l37[3]?).bind getB).bind fun b44 =>
(gate (neA (some ⟨(List.length h1), 0, none⟩) (List.length r36.2))
((gate (neA (some ⟨(List.length h), 0, none⟩) (List.length r36.2))
(nw1 r36.2 50 [(vL none 0), (vL none 0), (vI 0)] fun h45 =>
(wr base h45 (List.length r36.2) 0 [(vL l39.1 l39.2), (vL l40.1 l40.2), (vI n41)]).bind fun h46 =>
c_LLI h46 (List.length h) 0 fun l47 l48 n49 =>
(run (Et base) 29 [(.agg #[(vL l47.1 l47.2), (vL l48.1 l48.2), (vI n49)])] h46).bind fun r50 =>
gG (some r50.1) 3 fun l51 =>
l_LLI l51 fun l52 l53 n54 =>
nw1 r50.2 50 [(vL none 0), (vL none 0), (vI 0)] fun h55 =>
(wr base h55 (List.length r50.2) 0 [(vL l52.1 l52.2), (vL l53.1 l53.2), (vI n54)]).bind fun h56 =>
(run (Et base) 16 [(vL v1 v1n)] h56).bind fun r57 =>
((some r57.1).bind getS).bind fun l58 =>
c_IITL r57.2 (List.length h1) 0 fun n59 n60 s61 l62 =>
(run (Et base) 17 [(.agg #[(vI n59), (vI n60), (vT s61), (vL l62.1 l62.2)])] r57.2).bind fun r63 =>
gG (some r63.1) 4 fun l64 =>
l_IITL l64 fun n65 n66 s67 l68 =>
nw1 r63.2 39 [(vI 0), (vI 0), (vT ⟨#[]⟩), (vL none 0)] fun h69 =>
(wr base h69 (List.length r63.2) 0 [(vI n65), (vI n66), (vT s67), (vL l68.1 l68.2)]).bind fun h70 =>
c_LLI h70 (List.length r50.2) 0 fun l71 l72 n73 =>
c_IITL h70 (List.length r63.2) 0 fun n74 n75 s76 l77 =>
(run (Et base) 30 [(.agg #[(vL l71.1 l71.2), (vL l72.1 l72.2), (vI n73)]), (vL l58.1 l58.2), (.agg #[(vI n74), (vI n75), (vT s76), (vL l77.1 l77.2)])] h70).bind fun r78 =>
(getTup 4 r78.1).bind fun l79 =>
gG (l79[0]?) 3 fun l80 =>
l_LLI l80 fun l81 l82 n83 =>
((l79[1]?).bind getS).bind fun l84 =>
((l79[2]?).bind (getI .i64)).bind fun n85 =>
((l79[3]?).bind getB).bind fun b86 =>
nw1 r78.2 50 [(vL none 0), (vL none 0), (vI 0)] fun h87 =>
(wr base h87 (List.length r78.2) 0 [(vL l81.1 l81.2), (vL l82.1 l82.2), (vI n83)]).bind fun h88 =>
(c_LLI h88 (List.length r78.2) 0 fun l90 l91 n92 =>
c_LLI h88 (List.length r36.2) 0 fun l93 l94 n95 =>
(run (Et base) 31 [(.agg #[(vL l90.1 l90.2), (vL l91.1 l91.2), (vI n92)]), (.agg #[(vL l93.1 l93.2), (vL l94.1 l94.2), (vI n95)])] h88).bind fun r96 =>
((some r96.1).bind getB).bind fun b97 =>
(if (!b97) = true then
some (.inl ([some (vL v1 v1n), some (vP (List.length h)), some (vP (List.length h1)), some (vP (List.length r36.2)), some (vL l42.1 l42.2), some (vI n43), some (.bool b44), some (vP (List.length r50.2)), some (vL l58.1 l58.2), some (vP (List.length r63.2)), some (vP (List.length r78.2)), some (vL l84.1 l84.2), some (vI n85), some (.bool b86), some (.bool true)], r96.2))
else
(run (Et base) 20 [(vL l84.1 l84.2), (vL l42.1 l42.2)] r96.2).bind fun r98 =>
((some r98.1).bind getB).bind fun b99 =>
(if (!b99) = true then
some (.inl ([some (vL v1 v1n), some (vP (List.length h)), some (vP (List.length h1)), some (vP (List.length r36.2)), some (vL l42.1 l42.2), some (vI n43), some (.bool b44), some (vP (List.length r50.2)), some (vL l58.1 l58.2), some (vP (List.length r63.2)), some (vP (List.length r78.2)), some (vL l84.1 l84.2), some (vI n85), some (.bool b86), some (.bool true)], r98.2))
else
(if (n85 != n43) = true then
some (.inl ([some (vL v1 v1n), some (vP (List.length h)), some (vP (List.length h1)), some (vP (List.length r36.2)), some (vL l42.1 l42.2), some (vI n43), some (.bool b44), some (vP (List.length r50.2)), some (vL l58.1 l58.2), some (vP (List.length r63.2)), some (vP (List.length r78.2)), some (vL l84.1 l84.2), some (vI n85), some (.bool b86), some (.bool true)], r98.2))
else
some (.inl ([some (vL v1 v1n), some (vP (List.length h)), some (vP (List.length h1)), some (vP (List.length r36.2)), some (vL l42.1 l42.2), some (vI n43), some (.bool b44), some (vP (List.length r50.2)), some (vL l58.1 l58.2), some (vP (List.length r63.2)), some (vP (List.length r78.2)), some (vL l84.1 l84.2), some (vI n85), some (.bool b86), some (.bool (!(b86 == b44)))], r98.2)))))).bind fun j89 => joinK j89 fun j89 =>
j_LAAALIBALAALIBB j89.1 fun l100 d101 d102 d103 l104 n105 b106 d107 l108 d109 d110 l111 n112 b113 b114 =>
(if b114 = true then
some ((.bool false), j89.2)
else
c_LLI j89.2 d107.block d107.off fun l115 l116 n117 =>
c_LLI j89.2 d101.block d101.off fun l118 l119 n120 =>
(run (Et base) 29 [(.agg #[(vL l118.1 l118.2), (vL l119.1 l119.2), (vI n120)])] j89.2).bind fun r121 =>
gG (some r121.1) 3 fun l122 =>
l_LLI l122 fun l123 l124 n125 =>
(gate (sameA j89.2 r121.2 (some d107) 3)
((run (Et base) 31 [(.agg #[(vL l115.1 l115.2), (vL l116.1 l116.2), (vI n117)]), (.agg #[(vL l123.1 l123.2), (vL l124.1 l124.2), (vI n125)])] r121.2).bind fun r126 =>
((some r126.1).bind getB).bind fun b127 =>
(if (!b127) = true then
some ((.bool false), r126.2)
else
(run (Et base) 16 [(vL l100.1 l100.2)] r126.2).bind fun r128 =>
((some r128.1).bind getS).bind fun l129 =>
(run (Et base) 20 [(vL l108.1 l108.2), (vL l129.1 l129.2)] r128.2).bind fun r130 =>
((some r130.1).bind getB).bind fun b131 =>
(if (!b131) = true then
some ((.bool false), r130.2)
else
c_IITL r130.2 d109.block d109.off fun n132 n133 s134 l135 =>
c_IITL r130.2 d102.block d102.off fun n136 n137 s138 l139 =>
(run (Et base) 17 [(.agg #[(vI n136), (vI n137), (vT s138), (vL l139.1 l139.2)])] r130.2).bind fun r140 =>
gG (some r140.1) 4 fun l141 =>
l_IITL l141 fun n142 n143 s144 l145 =>
(gate (sameA r130.2 r140.2 (some d109) 4)
((run (Et base) 21 [(.agg #[(vI n132), (vI n133), (vT s134), (vL l135.1 l135.2)]), (.agg #[(vI n142), (vI n143), (vT s144), (vL l145.1 l145.2)])] r140.2).bind fun r146 =>
((some r146.1).bind getB).bind fun b147 =>
(if (!b147) = true then
some ((.bool false), r146.2)
else
c_LLI r146.2 d107.block d107.off fun l148 l149 n150 =>
(run (Et base) 32 [(.agg #[(vL l148.1 l148.2), (vL l149.1 l149.2), (vI n150)]), (vI (1 : Int))] r146.2).bind fun r151 =>
((some r151.1).bind (getI .i64)).bind fun n152 =>
(run (Et base) 23 [(vL l108.1 l108.2), (vI n152)] r151.2).bind fun r153 =>
((some r153.1).bind (getI .i64)).bind fun n154 =>
c_IITL r153.2 d109.block d109.off fun n155 n156 s157 l158 =>
(run (Et base) 24 [(.agg #[(vI n155), (vI n156), (vT s157), (vL l158.1 l158.2)]), (vI n154)] r153.2).bind fun r159 =>
((some r159.1).bind (getI .i64)).bind fun n160 =>
((if (decide (n160 < (0 : Int))) = true then
some (.inl ([some (vL l100.1 l100.2), some (vA d101), some (vA d102), some (vA d103), some (vL l104.1 l104.2), some (vI n105), some (.bool b106), some (vA d110), some (vL l111.1 l111.2), some (.bool true)], r159.2))
else
c_LLI r159.2 d110.block d110.off fun l162 l163 n164 =>
c_LLI r159.2 d103.block d103.off fun l165 l166 n167 =>
(run (Et base) 31 [(.agg #[(vL l162.1 l162.2), (vL l163.1 l163.2), (vI n164)]), (.agg #[(vL l165.1 l165.2), (vL l166.1 l166.2), (vI n167)])] r159.2).bind fun r168 =>
((some r168.1).bind getB).bind fun b169 =>
(if (!b169) = true then
some (.inl ([some (vL l100.1 l100.2), some (vA d101), some (vA d102), some (vA d103), some (vL l104.1 l104.2), some (vI n105), some (.bool b106), some (vA d110), some (vL l111.1 l111.2), some (.bool true)], r168.2))
else
(run (Et base) 20 [(vL l111.1 l111.2), (vL l104.1 l104.2)] r168.2).bind fun r170 =>
((some r170.1).bind getB).bind fun b171 =>
(if (!b171) = true then
some (.inl ([some (vL l100.1 l100.2), some (vA d101), some (vA d102), some (vA d103), some (vL l104.1 l104.2), some (vI n105), some (.bool b106), some (vA d110), some (vL l111.1 l111.2), some (.bool true)], r170.2))
else
(if (n112 != n105) = true then
some (.inl ([some (vL l100.1 l100.2), some (vA d101), some (vA d102), some (vA d103), some (vL l104.1 l104.2), some (vI n105), some (.bool b106), some (vA d110), some (vL l111.1 l111.2), some (.bool true)], r170.2))
else
some (.inl ([some (vL l100.1 l100.2), some (vA d101), some (vA d102), some (vA d103), some (vL l104.1 l104.2), some (vI n105), some (.bool b106), some (vA d110), some (vL l111.1 l111.2), some (.bool (!(b113 == b106)))], r170.2))))))).bind fun j161 => joinK j161 fun j161 =>
j_LAAALIBALB j161.1 fun l172 d173 d174 d175 l176 n177 b178 d179 l180 b181 =>
(if b181 = true then
some ((.bool false), j161.2)
else
c_LLI j161.2 d179.block d179.off fun l182 l183 n184 =>
(run (Et base) 32 [(.agg #[(vL l182.1 l182.2), (vL l183.1 l183.2), (vI n184)]), (vI (1 : Int))] j161.2).bind fun r185 =>
((some r185.1).bind (getI .i64)).bind fun n186 =>
(run (Et base) 23 [(vL l180.1 l180.2), (vI n186)] r185.2).bind fun r187 =>
((some r187.1).bind (getI .i64)).bind fun n188 =>
c_LLI r187.2 d179.block d179.off fun l189 l190 n191 =>
(run (Et base) 33 [(.agg #[(vL l189.1 l189.2), (vL l190.1 l190.2), (vI n191)]), (vI (1 : Int))] r187.2).bind fun r192 =>
((some r192.1).bind (getI .i64)).bind fun n193 =>
(if (decide (n193 < (0 : Int))) = true then
some ((.bool false), r192.2)
else
(run (Et base) 26 [(vL l180.1 l180.2), (vI n193)] r192.2).bind fun r194 =>
((some r194.1).bind (getI .i64)).bind fun n195 =>
(if (decide (n195 < (0 : Int))) = true then
some ((.bool false), r194.2)
else
(if (n195 != n188) = true then
some ((.bool false), r194.2)
else
c_LLI r194.2 d173.block d173.off fun l196 l197 n198 =>
(run (Et base) 29 [(.agg #[(vL l196.1 l196.2), (vL l197.1 l197.2), (vI n198)])] r194.2).bind fun r199 =>
gG (some r199.1) 3 fun l200 =>
l_LLI l200 fun l201 l202 n203 =>
(run (Et base) 16 [(vL l172.1 l172.2)] r199.2).bind fun r204 =>
((some r204.1).bind getS).bind fun l205 =>
(gate (sameA r199.2 r204.2 (some d174) 4)
((gate (sameA r194.2 r204.2 (some d174) 4)
(c_IITL r204.2 d174.block d174.off fun n206 n207 s208 l209 =>
(run (Et base) 17 [(.agg #[(vI n206), (vI n207), (vT s208), (vL l209.1 l209.2)])] r204.2).bind fun r210 =>
gG (some r210.1) 4 fun l211 =>
l_IITL l211 fun n212 n213 s214 l215 =>
(run (Et base) 30 [(.agg #[(vL l201.1 l201.2), (vL l202.1 l202.2), (vI n203)]), (vL l205.1 l205.2), (.agg #[(vI n212), (vI n213), (vT s214), (vL l215.1 l215.2)])] r210.2).bind fun r216 =>
(getTup 4 r216.1).bind fun l217 =>
gG (l217[0]?) 3 fun l218 =>
l_LLI l218 fun l219 l220 n221 =>
((l217[1]?).bind getS).bind fun l222 =>
((l217[2]?).bind (getI .i64)).bind fun n223 =>
((l217[3]?).bind getB).bind fun b224 =>
(gate (neA (some d174) (List.length r216.2))
((gate (neA (some d173) (List.length r216.2))
(nw1 r216.2 50 [(vL none 0), (vL none 0), (vI 0)] fun h225 =>
(wr base h225 (List.length r216.2) 0 [(vL l219.1 l219.2), (vL l220.1 l220.2), (vI n221)]).bind fun h226 =>
(c_LLI h226 (List.length r216.2) 0 fun l228 l229 n230 =>
c_LLI h226 d175.block d175.off fun l231 l232 n233 =>
(run (Et base) 31 [(.agg #[(vL l228.1 l228.2), (vL l229.1 l229.2), (vI n230)]), (.agg #[(vL l231.1 l231.2), (vL l232.1 l232.2), (vI n233)])] h226).bind fun r234 =>
((some r234.1).bind getB).bind fun b235 =>
(if (!b235) = true then
some (.inl ([some (vA d179), some (vL l180.1 l180.2), some (vI n188), some (.bool true)], r234.2))
else
(run (Et base) 20 [(vL l222.1 l222.2), (vL l176.1 l176.2)] r234.2).bind fun r236 =>
((some r236.1).bind getB).bind fun b237 =>
(if (!b237) = true then
some (.inl ([some (vA d179), some (vL l180.1 l180.2), some (vI n188), some (.bool true)], r236.2))
else
(if (n223 != n177) = true then
some (.inl ([some (vA d179), some (vL l180.1 l180.2), some (vI n188), some (.bool true)], r236.2))
else
some (.inl ([some (vA d179), some (vL l180.1 l180.2), some (vI n188), some (.bool (!(b224 == b178)))], r236.2)))))).bind fun j227 => joinK j227 fun j227 =>
j_ALIB j227.1 fun d238 l239 n240 b241 =>
(if b241 = true then
some ((.bool false), j227.2)
else
c_LLI j227.2 d238.block d238.off fun l242 l243 n244 =>
(run (Et base) 33 [(.agg #[(vL l242.1 l242.2), (vL l243.1 l243.2), (vI n244)]), (vI (1 : Int))] j227.2).bind fun r245 =>
((some r245.1).bind (getI .i64)).bind fun n246 =>
(if (decide (n246 < (0 : Int))) = true then
some ((.bool false), r245.2)
else
(run (Et base) 26 [(vL l239.1 l239.2), (vI n246)] r245.2).bind fun r247 =>
((some r247.1).bind (getI .i64)).bind fun n248 =>
(if (decide (n248 < (0 : Int))) = true then
some ((.bool false), r247.2)
else
(if (n248 != n240) = true then
some ((.bool false), r247.2)
else
some ((.bool true), r247.2))))))))))))))))))))))))))))))))))))
theorem r4 {base : Nat} {v0_0 : Option Addr} {v0_0n : Nat} {v0_1 : Option Addr} {v0_1n : Nat} {v0_2 : Int} {v1 : Option Addr} {v1n : Nat} {v2_0 : Int} {v2_1 : Int} {v2_2 : ByteArray} {v2_3 : Option Addr} {v2_3n : Nat} {h : AH} {r : Value × AH} (hx : qf4 base v0_0 v0_0n v0_1 v0_1n v0_2 v1 v1n v2_0 v2_1 v2_2 v2_3 v2_3n h = some r) : run (Et base) 4 [(.agg #[(vL v0_0 v0_0n), (vL v0_1 v0_1n), (vI v0_2)]), (vL v1 v1n), (.agg #[(vI v2_0), (vI v2_1), (vT v2_2), (vL v2_3 v2_3n)])] h = some r := run_i (an := a4) Try.func4 (by kernel_rfl) (.trans (by kernel_rfl) hx)
noncomputable def B12_0 (base : Nat) : Body := fun l h => lay s12_0 l fun s => exCode (Et base) (run (Et base)) loopL a12_0 (subC [1, 1, 1, 0, 1, 0, 0] (bodyC Try.f12)) s h (keepK s12_0 e12_0)
theorem B12_0_eq (base : Nat) (v0 : Option Addr) (v0n : Nat) (v1 : Int) (v5 : Int) (h : AH) : B12_0 base [some (vL v0 v0n), some (vI v1), some (vI v5)] h =
((if (decide (v5 < ((v0n : Nat) : Int))) = true then
(if 0 ≤ v5 ∧ v5 < ((v0n : Nat) : Int) then
((v0 : Option Addr)).bind fun a1 =>
((cell h a1.block (a1.off + Int.toNat v5 * 1)).bind getStr).bind fun s2 =>
(if (decide ((IntKind.wrap .i64 (v1 - (s2.size : Int))) < (0 : Int))) = true then
some (1, [some (.int .i64 (-1 : Int))], h)
else
some (0, [some (.slice v0 v0n v0n), some (.int .i64 (IntKind.wrap .i64 (v1 - (s2.size : Int)))), some (.int .i64 (IntKind.wrap .i64 (v5 + (1 : Int))))], h))
else none)
else
some (2, [some (.int .i64 v1)], h)) : Option (Nat × Slots × AH)) := by kernel_rfl
theorem r12 {base : Nat} {v0 : Option Addr} {v0n : Nat} {v1 : Int} {h : AH} {r : Value × AH} (hx : ((if (decide ((IntKind.wrap .i64 (v1 - ((v0n : Nat) : Int))) < (0 : Int))) = true then
some ((.int .i64 (-1 : Int)), h)
else
(loopL (B12_0 base) [some (.slice v0 v0n v0n), some (.int .i64 (IntKind.wrap .i64 (v1 - ((v0n : Nat) : Int)))), some (.int .i64 (0 : Int))] h).bind fun q1 =>
(if q1.1 = 1 then
((sget q1.2.1 0).bind (getI .i64)).bind fun n2 =>
some ((.int .i64 n2), q1.2.2)
else
(if q1.1 = 2 then
((sget q1.2.1 0).bind (getI .i64)).bind fun n3 =>
some ((.int .i64 n3), q1.2.2)
else
none)))) = some r) : run (Et base) 12 [(vL v0 v0n), (vI v1)] h = some r := run_i (an := a12) Try.func12 (by kernel_rfl) (.trans (by kernel_rfl) hx)
theorem r13 {base : Nat} {v0_0 : Int} {v0_1 : Int} {v0_2 : ByteArray} {v0_3 : Option Addr} {v0_3n : Nat} {v1 : Int} {h : AH} {r : Value × AH} (hx : ((some (h ++ [some ⟨[(.int .i64 v0_0), (.int .i64 v0_1), (.string v0_2), (.slice v0_3 v0_3n v0_3n)], 28⟩])).bind fun h1 =>
((cell h1 (List.length h) 2).bind getStr).bind fun s2 =>
(if (decide ((IntKind.wrap .i64 (v1 - (s2.size : Int))) < (0 : Int))) = true then
some ((.int .i64 (-1 : Int)), h1)
else
((cell h1 (List.length h) 3).bind getS).bind fun l3 =>
(run (Et base) 68 [(.slice l3.1 l3.2 l3.2), (.int .i64 (IntKind.wrap .i64 (v1 - (s2.size : Int))))] h1).bind fun r4 =>
((some r4.1).bind (getI .i64)).bind fun n5 =>
(if (decide (n5 < (0 : Int))) = true then
some ((.int .i64 (-1 : Int)), r4.2)
else
some ((.int .i64 n5), r4.2)))) = some r) : run (Et base) 13 [(.agg #[(vI v0_0), (vI v0_1), (vT v0_2), (vL v0_3 v0_3n)]), (vI v1)] h = some r := run_i (an := a13) Try.func13 (by kernel_rfl) (.trans (by kernel_rfl) hx)
noncomputable def B16_0 (base : Nat) : Body := fun l h => lay s16_0 l fun s => exCode (Et base) (run (Et base)) loopL a16_0 (subC [1, 1, 0, 1, 0, 0] (bodyC Try.f16)) s h (keepK s16_0 e16_0)
theorem B16_0_eq (base : Nat) (v0 : Option Addr) (v0n : Nat) (v3 : Option Addr) (v3n : Nat) (v4 : Int) (h : AH) : B16_0 base [some (vL v0 v0n), some (vL v3 v3n), some (vI v4)] h =
((if (decide (v4 < ((v0n : Nat) : Int))) = true then
(if 0 ≤ v4 ∧ v4 < ((v0n : Nat) : Int) then
((v0 : Option Addr)).bind fun a1 =>
((cell h a1.block (a1.off + Int.toNat v4 * 1)).bind getStr).bind fun s2 =>
(if 0 ≤ v4 ∧ v4 < ((v3n : Nat) : Int) then
((v3 : Option Addr)).bind fun a3 =>
(wr base h a3.block (a3.off + Int.toNat v4 * 1) [(.string s2)]).bind fun h4 =>
some (0, [some (.slice v0 v0n v0n), some (.slice v3 v3n v3n), some (.int .i64 (IntKind.wrap .i64 (v4 + (1 : Int))))], h4)
else none)
else none)
else
some (2, [some (.slice v3 v3n v3n)], h)) : Option (Nat × Slots × AH)) := by kernel_rfl
theorem r16 {base : Nat} {v0 : Option Addr} {v0n : Nat} {h : AH} {r : Value × AH} (hx : ((if ((v0n : Nat) : Int) = ((v0n : Nat) : Int) ∧ 0 ≤ ((v0n : Nat) : Int) ∧ ((v0n : Nat) : Int) * 16 ≤ 140737488355328 ∧ ((v0n : Nat) : Int) ≤ 140737488355328 then
(some (h ++ [some ⟨rep [(.string ⟨#[]⟩)] (Int.toNat ((v0n : Nat) : Int)), 9⟩])).bind fun h1 =>
(loopL (B16_0 base) [some (.slice v0 v0n v0n), some (.slice (some ⟨(List.length h), 0, none⟩) (Int.toNat ((v0n : Nat) : Int)) (Int.toNat ((v0n : Nat) : Int))), some (.int .i64 (0 : Int))] h1).bind fun q2 =>
(if q2.1 = 2 then
((sget q2.2.1 0).bind getS).bind fun l3 =>
some ((.slice l3.1 l3.2 l3.2), q2.2.2)
else
none)
else none)) = some r) : run (Et base) 16 [(vL v0 v0n)] h = some r := run_i (an := a16) Try.func16 (by kernel_rfl) (.trans (by kernel_rfl) hx)
theorem r17 {base : Nat} {v0_0 : Int} {v0_1 : Int} {v0_2 : ByteArray} {v0_3 : Option Addr} {v0_3n : Nat} {h : AH} {r : Value × AH} (hx : (nw1 h 28 [(vI v0_0), (vI v0_1), (vT v0_2), (vL v0_3 v0_3n)] fun h1 =>
nw1 h1 39 [(vI 0), (vI 0), (vT ⟨#[]⟩), (vL none 0)] fun h2 =>
nw1 h2 39 [(vI 0), (vI 0), (vT ⟨#[]⟩), (vL none 0)] fun h3 =>
((cell h3 (List.length h) 0).bind (getI .i64)).bind fun n4 =>
(wr base h3 (List.length h2) 0 [(vI n4)]).bind fun h5 =>
((cell h5 (List.length h) 1).bind (getI .i64)).bind fun n6 =>
(wr base h5 (List.length h2) 1 [(vI n6)]).bind fun h7 =>
((cell h7 (List.length h) 2).bind getStr).bind fun s8 =>
(wr base h7 (List.length h2) 2 [(vT s8)]).bind fun h9 =>
((cell h9 (List.length h) 3).bind getS).bind fun l10 =>
(run (Et base) 73 [(vL l10.1 l10.2)] h9).bind fun r11 =>
((some r11.1).bind getS).bind fun l12 =>
(wr base r11.2 (List.length h2) 3 [(vL l12.1 l12.2)]).bind fun h13 =>
c_IITL h13 (List.length h2) 0 fun n14 n15 s16 l17 =>
(wr base h13 (List.length h1) 0 [(vI n14), (vI n15), (vT s16), (vL l17.1 l17.2)]).bind fun h18 =>
c_IITL h18 (List.length h1) 0 fun n19 n20 s21 l22 =>
some ((.agg #[(vI n19), (vI n20), (vT s21), (vL l22.1 l22.2)]), h18)) = some r) : run (Et base) 17 [(.agg #[(vI v0_0), (vI v0_1), (vT v0_2), (vL v0_3 v0_3n)])] h = some r := run_i (an := a17) Try.func17 (by kernel_rfl) (.trans (by kernel_rfl) hx)
noncomputable def B20_0 (base : Nat) : Body := fun l h => lay s20_0 l fun s => exCode (Et base) (run (Et base)) loopL a20_0 (subC [1, 1, 0, 1, 0, 0] (bodyC Try.f20)) s h (keepK s20_0 e20_0)
theorem B20_0_eq (base : Nat) (v0 : Option Addr) (v0n : Nat) (v1 : Option Addr) (v1n : Nat) (v5 : Int) (h : AH) : B20_0 base [some (vL v0 v0n), some (vL v1 v1n), some (vI v5)] h =
((if (decide (v5 < ((v0n : Nat) : Int))) = true then
(if 0 ≤ v5 ∧ v5 < ((v0n : Nat) : Int) then
((v0 : Option Addr)).bind fun a1 =>
((cell h a1.block (a1.off + Int.toNat v5 * 1)).bind getStr).bind fun s2 =>
(if 0 ≤ v5 ∧ v5 < ((v1n : Nat) : Int) then
((v1 : Option Addr)).bind fun a3 =>
((cell h a3.block (a3.off + Int.toNat v5 * 1)).bind getStr).bind fun s4 =>
(if (!(s2.toList == s4.toList)) = true then
some (1, [some (.bool false)], h)
else
some (0, [some (.slice v0 v0n v0n), some (.slice v1 v1n v1n), some (.int .i64 (IntKind.wrap .i64 (v5 + (1 : Int))))], h))
else none)
else none)
else
some (2, [], h)) : Option (Nat × Slots × AH)) := by kernel_rfl
theorem r20 {base : Nat} {v0 : Option Addr} {v0n : Nat} {v1 : Option Addr} {v1n : Nat} {h : AH} {r : Value × AH} (hx : ((if (((v0n : Nat) : Int) != ((v1n : Nat) : Int)) = true then
some ((.bool false), h)
else
(loopL (B20_0 base) [some (.slice v0 v0n v0n), some (.slice v1 v1n v1n), some (.int .i64 (0 : Int))] h).bind fun q1 =>
(if q1.1 = 1 then
((sget q1.2.1 0).bind getB).bind fun b2 =>
some ((.bool b2), q1.2.2)
else
(if q1.1 = 2 then
some ((.bool true), q1.2.2)
else
none)))) = some r) : run (Et base) 20 [(vL v0 v0n), (vL v1 v1n)] h = some r := run_i (an := a20) Try.func20 (by kernel_rfl) (.trans (by kernel_rfl) hx)
theorem r21 {base : Nat} {v0_0 : Int} {v0_1 : Int} {v0_2 : ByteArray} {v0_3 : Option Addr} {v0_3n : Nat} {v1_0 : Int} {v1_1 : Int} {v1_2 : ByteArray} {v1_3 : Option Addr} {v1_3n : Nat} {h : AH} {r : Value × AH} (hx : ((some (h ++ [some ⟨[(.int .i64 v0_0), (.int .i64 v0_1), (.string v0_2), (.slice v0_3 v0_3n v0_3n)], 39⟩])).bind fun h1 =>
(some (h1 ++ [some ⟨[(.int .i64 v1_0), (.int .i64 v1_1), (.string v1_2), (.slice v1_3 v1_3n v1_3n)], 39⟩])).bind fun h2 =>
((cell h2 (List.length h) 0).bind (getI .i64)).bind fun n3 =>
((cell h2 (List.length h1) 0).bind (getI .i64)).bind fun n4 =>
(if (n3 != n4) = true then
some ((.bool false), h2)
else
((cell h2 (List.length h) 1).bind (getI .i64)).bind fun n5 =>
((cell h2 (List.length h1) 1).bind (getI .i64)).bind fun n6 =>
(if (n5 != n6) = true then
some ((.bool false), h2)
else
((cell h2 (List.length h) 2).bind getStr).bind fun s7 =>
((cell h2 (List.length h1) 2).bind getStr).bind fun s8 =>
(if (!(s7.toList == s8.toList)) = true then
some ((.bool false), h2)
else
((cell h2 (List.length h) 3).bind getS).bind fun l9 =>
((cell h2 (List.length h1) 3).bind getS).bind fun l10 =>
(run (Et base) 75 [(.slice l9.1 l9.2 l9.2), (.slice l10.1 l10.2 l10.2)] h2).bind fun r11 =>
((some r11.1).bind getB).bind fun b12 =>
(if (!b12) = true then
some ((.bool false), r11.2)
else
some ((.bool true), r11.2)))))) = some r) : run (Et base) 21 [(.agg #[(vI v0_0), (vI v0_1), (vT v0_2), (vL v0_3 v0_3n)]), (.agg #[(vI v1_0), (vI v1_1), (vT v1_2), (vL v1_3 v1_3n)])] h = some r := run_i (an := a21) Try.func21 (by kernel_rfl) (.trans (by kernel_rfl) hx)
noncomputable def B23_0 (base : Nat) : Body := fun l h => lay s23_0 l fun s => exCode (Et base) (run (Et base)) loopL a23_0 (subC [1, 0, 1, 0, 0] (bodyC Try.f23)) s h (keepK s23_0 e23_0)
theorem B23_0_eq (base : Nat) (v0 : Option Addr) (v0n : Nat) (v1 : Int) (v5 : Int) (h : AH) : B23_0 base [some (vL v0 v0n), some (vI v1), some (vI v5)] h =
((if (decide (v5 < ((v0n : Nat) : Int))) = true then
(run (Et base) 77 [(.int .i64 v1)] h).bind fun r1 =>
((some r1.1).bind getStr).bind fun s2 =>
(if 0 ≤ v5 ∧ v5 < ((v0n : Nat) : Int) then
((v0 : Option Addr)).bind fun a3 =>
(wr base r1.2 a3.block (a3.off + Int.toNat v5 * 1) [(.string s2)]).bind fun h4 =>
some (0, [some (.slice v0 v0n v0n), some (.int .i64 (IntKind.wrap .i64 (v1 + (1 : Int)))), some (.int .i64 (IntKind.wrap .i64 (v5 + (1 : Int))))], h4)
else none)
else
some (2, [some (.int .i64 v1)], h)) : Option (Nat × Slots × AH)) := by kernel_rfl
theorem r23 {base : Nat} {v0 : Option Addr} {v0n : Nat} {v1 : Int} {h : AH} {r : Value × AH} (hx : ((loopL (B23_0 base) [some (.slice v0 v0n v0n), some (.int .i64 v1), some (.int .i64 (0 : Int))] h).bind fun q1 =>
(if q1.1 = 2 then
((sget q1.2.1 0).bind (getI .i64)).bind fun n2 =>
some ((.int .i64 n2), q1.2.2)
else
none)) = some r) : run (Et base) 23 [(vL v0 v0n), (vI v1)] h = some r := run_i (an := a23) Try.func23 (by kernel_rfl) (.trans (by kernel_rfl) hx)
theorem r24 {base : Nat} {v0_0 : Int} {v0_1 : Int} {v0_2 : ByteArray} {v0_3 : Option Addr} {v0_3n : Nat} {v1 : Int} {h : AH} {r : Value × AH} (hx : ((some (h ++ [some ⟨[(.int .i64 v0_0), (.int .i64 v0_1), (.string v0_2), (.slice v0_3 v0_3n v0_3n)], 39⟩])).bind fun h1 =>
((cell h1 (List.length h) 3).bind getS).bind fun l2 =>
(run (Et base) 78 [(.slice l2.1 l2.2 l2.2), (.int .i64 v1)] h1).bind fun r3 =>
((some r3.1).bind (getI .i64)).bind fun n4 =>
some ((.int .i64 n4), r3.2)) = some r) : run (Et base) 24 [(.agg #[(vI v0_0), (vI v0_1), (vT v0_2), (vL v0_3 v0_3n)]), (vI v1)] h = some r := run_i (an := a24) Try.func24 (by kernel_rfl) (.trans (by kernel_rfl) hx)
noncomputable def B26_0 (base : Nat) : Body := fun l h => lay s26_0 l fun s => exCode (Et base) (run (Et base)) loopL a26_0 (subC [1, 0, 1, 0, 0] (bodyC Try.f26)) s h (keepK s26_0 e26_0)
theorem B26_0_eq (base : Nat) (v0 : Option Addr) (v0n : Nat) (v1 : Int) (v5 : Int) (h : AH) : B26_0 base [some (vL v0 v0n), some (vI v1), some (vI v5)] h =
((if (decide (v5 < ((v0n : Nat) : Int))) = true then
(if 0 ≤ v5 ∧ v5 < ((v0n : Nat) : Int) then
((v0 : Option Addr)).bind fun a1 =>
((cell h a1.block (a1.off + Int.toNat v5 * 1)).bind getStr).bind fun s2 =>
(run (Et base) 77 [(.int .i64 v1)] h).bind fun r3 =>
((some r3.1).bind getStr).bind fun s4 =>
(gate (sameA h r3.2 (some ⟨a1.block, (a1.off + Int.toNat v5 * 1), none⟩) 1)
((if (!(s2.toList == s4.toList)) = true then
some (1, [some (.int .i64 (-1 : Int))], r3.2)
else
some (0, [some (.slice v0 v0n v0n), some (.int .i64 (IntKind.wrap .i64 (v1 + (1 : Int)))), some (.int .i64 (IntKind.wrap .i64 (v5 + (1 : Int))))], r3.2))))
else none)
else
some (2, [some (.int .i64 v1)], h)) : Option (Nat × Slots × AH)) := by kernel_rfl
theorem r26 {base : Nat} {v0 : Option Addr} {v0n : Nat} {v1 : Int} {h : AH} {r : Value × AH} (hx : ((loopL (B26_0 base) [some (.slice v0 v0n v0n), some (.int .i64 v1), some (.int .i64 (0 : Int))] h).bind fun q1 =>
(if q1.1 = 1 then
((sget q1.2.1 0).bind (getI .i64)).bind fun n2 =>
some ((.int .i64 n2), q1.2.2)
else
(if q1.1 = 2 then
((sget q1.2.1 0).bind (getI .i64)).bind fun n3 =>
some ((.int .i64 n3), q1.2.2)
else
none))) = some r) : run (Et base) 26 [(vL v0 v0n), (vI v1)] h = some r := run_i (an := a26) Try.func26 (by kernel_rfl) (.trans (by kernel_rfl) hx)
theorem r27 {base : Nat} {v0_0 : Option Addr} {v0_0n : Nat} {v0_1 : Option Addr} {v0_1n : Nat} {v0_2 : Int} {v1 : Int} {h : AH} {r : Value × AH} (hx : ((some (h ++ [some ⟨[(.slice v0_0 v0_0n v0_0n), (.slice v0_1 v0_1n v0_1n), (.int .i64 v0_2)], 48⟩])).bind fun h1 =>
((cell h1 (List.length h) 0).bind getS).bind fun l2 =>
(run (Et base) 67 [(.slice l2.1 l2.2 l2.2), (.int .i64 v1)] h1).bind fun r3 =>
((some r3.1).bind (getI .i64)).bind fun n4 =>
(if (decide (n4 < (0 : Int))) = true then
some ((.int .i64 (-1 : Int)), r3.2)
else
((cell r3.2 (List.length h) 1).bind getS).bind fun l5 =>
(run (Et base) 67 [(.slice l5.1 l5.2 l5.2), (.int .i64 n4)] r3.2).bind fun r6 =>
((some r6.1).bind (getI .i64)).bind fun n7 =>
(if (decide (n7 < (0 : Int))) = true then
some ((.int .i64 (-1 : Int)), r6.2)
else
some ((.int .i64 n7), r6.2)))) = some r) : run (Et base) 27 [(.agg #[(vL v0_0 v0_0n), (vL v0_1 v0_1n), (vI v0_2)]), (vI v1)] h = some r := run_i (an := a27) Try.func27 (by kernel_rfl) (.trans (by kernel_rfl) hx)
noncomputable abbrev qf28 (base : Nat) (v0_0 : Option Addr) (v0_0n : Nat) (v0_1 : Option Addr) (v0_1n : Nat) (v0_2 : Int) (v1 : Option Addr) (v1n : Nat) (v2_0 : Int) (v2_1 : Int) (v2_2 : ByteArray) (v2_3 : Option Addr) (v2_3n : Nat) (h : AH) : Option (Value × AH) :=
nw1 h 50 [(vL v0_0 v0_0n), (vL v0_1 v0_1n), (vI v0_2)] fun h1 =>
nw1 h1 39 [(vI v2_0), (vI v2_1), (vT v2_2), (vL v2_3 v2_3n)] fun h2 =>
nw1 h2 50 [(vL none 0), (vL none 0), (vI 0)] fun h3 =>
c_LLI h3 (List.length h) 0 fun l4 l5 n6 =>
(run (Et base) 80 [(.agg #[(vL l4.1 l4.2), (vL l5.1 l5.2), (vI n6)])] h3).bind fun r7 =>
gG (some r7.1) 3 fun l8 =>
l_LLI l8 fun l9 l10 n11 =>
nw1 r7.2 50 [(vL none 0), (vL none 0), (vI 0)] fun h12 =>
(wr base h12 (List.length r7.2) 0 [(vL l9.1 l9.2), (vL l10.1 l10.2), (vI n11)]).bind fun h13 =>
nw1 h13 9 [] fun h14 =>
(app base h14 9 1 16 (some ⟨(List.length h13), 0, none⟩) 0 (rawAt h14 v1 (v1n * 1)) v1n).bind fun p15 =>
((some p15.1).bind getS).bind fun l16 =>
nw1 p15.2 25 [(vL none 0)] fun h17 =>
(wr base h17 (List.length p15.2) 0 [(vL l16.1 l16.2)]).bind fun h18 =>
(c_IITL h18 (List.length h1) 0 fun n20 n21 s22 l23 =>
(run (Et base) 70 [(.agg #[(vI n20), (vI n21), (vT s22), (vL l23.1 l23.2)])] h18).bind fun r24 =>
((some r24.1).bind getB).bind fun b25 =>
(if (!b25) = true then
some (.inl ([some (vL v1 v1n), some (vP (List.length h)), some (vP (List.length h1)), some (vP (List.length h2)), some (vP (List.length r7.2)), some (vP (List.length p15.2)), some (.bool true)], r24.2))
else
((cell r24.2 (List.length h) 1).bind getS).bind fun l26 =>
c_IITL r24.2 (List.length h1) 0 fun n27 n28 s29 l30 =>
(run (Et base) 71 [(.agg #[(vI n27), (vI n28), (vT s29), (vL l30.1 l30.2)])] r24.2).bind fun r31 =>
((some r31.1).bind (getI .i64)).bind fun n32 =>
(gate (sameA r24.2 r31.2 (some ⟨(List.length h), 1, none⟩) 1)
(some (.inl ([some (vL v1 v1n), some (vP (List.length h)), some (vP (List.length h1)), some (vP (List.length h2)), some (vP (List.length r7.2)), some (vP (List.length p15.2)), some (.bool (decide ((IntKind.wrap .i64 (((l26.2 : Nat) : Int) + n32)) > (1000 : Int))))], r31.2)))))).bind fun j19 => joinK j19 fun j19 =>
j_LAAAAAB j19.1 fun l33 d34 d35 d36 d37 d38 b39 =>
(if b39 = true then
c_LLI j19.2 d37.block d37.off fun l40 l41 n42 =>
((cell j19.2 d38.block d38.off).bind getS).bind fun l43 =>
(wr base j19.2 d36.block d36.off [(vL l40.1 l40.2), (vL l41.1 l41.2), (vI n42)]).bind fun h44 =>
(gate (sameA j19.2 h44 (some d38) 1)
(c_LLI h44 d36.block d36.off fun l45 l46 n47 =>
some ((.tuple #[(.agg #[(vL l45.1 l45.2), (vL l46.1 l46.2), (vI n47)]), (vL l43.1 l43.2), (vI (0 : Int)), (.bool false)]), h44)))
else
c_IITL j19.2 d35.block d35.off fun n48 n49 s50 l51 =>
((cell j19.2 d34.block (d34.off + 1)).bind getS).bind fun l52 =>
(run (Et base) 81 [(vA d38), (.agg #[(vI n48), (vI n49), (vT s50), (vL l51.1 l51.2)]), (vI ((l52.2 : Nat) : Int))] j19.2).bind fun r53 =>
(getTup 3 r53.1).bind fun l54 =>
l_LIB l54 fun l55 n56 b57 =>
(if (!b57) = true then
c_LLI r53.2 d37.block d37.off fun l58 l59 n60 =>
(gate (neA (some d37) (List.length r53.2))
(nw1 r53.2 9 [] fun h61 =>
(app base h61 9 1 16 (some ⟨(List.length r53.2), 0, none⟩) 0 (rawAt h61 l33.1 (l33.2 * 1)) l33.2).bind fun p62 =>
((some p62.1).bind getS).bind fun l63 =>
(gate (sameA h61 p62.2 (some d37) 3)
((wr base p62.2 d36.block d36.off [(vL l58.1 l58.2), (vL l59.1 l59.2), (vI n60)]).bind fun h64 =>
c_LLI h64 d36.block d36.off fun l65 l66 n67 =>
some ((.tuple #[(.agg #[(vL l65.1 l65.2), (vL l66.1 l66.2), (vI n67)]), (vL l63.1 l63.2), (vI (0 : Int)), (.bool false)]), h64)))))
else
((cell r53.2 d37.block (d37.off + 1)).bind getS).bind fun l68 =>
(app base r53.2 3 1 8 l68.1 l68.2 (rawAt r53.2 l55.1 (l55.2 * 1)) l55.2).bind fun p69 =>
((some p69.1).bind getS).bind fun l70 =>
(wr base p69.2 d37.block (d37.off + 1) [(vL l70.1 l70.2)]).bind fun h71 =>
c_LLI h71 d37.block d37.off fun l72 l73 n74 =>
((cell h71 d38.block d38.off).bind getS).bind fun l75 =>
(wr base h71 d36.block d36.off [(vL l72.1 l72.2), (vL l73.1 l73.2), (vI n74)]).bind fun h76 =>
(gate (sameA h71 h76 (some d38) 1)
(c_LLI h76 d36.block d36.off fun l77 l78 n79 =>
some ((.tuple #[(.agg #[(vL l77.1 l77.2), (vL l78.1 l78.2), (vI n79)]), (vL l75.1 l75.2), (vI n56), (.bool true)]), h76)))))
theorem r28 {base : Nat} {v0_0 : Option Addr} {v0_0n : Nat} {v0_1 : Option Addr} {v0_1n : Nat} {v0_2 : Int} {v1 : Option Addr} {v1n : Nat} {v2_0 : Int} {v2_1 : Int} {v2_2 : ByteArray} {v2_3 : Option Addr} {v2_3n : Nat} {h : AH} {r : Value × AH} (hx : qf28 base v0_0 v0_0n v0_1 v0_1n v0_2 v1 v1n v2_0 v2_1 v2_2 v2_3 v2_3n h = some r) : run (Et base) 28 [(.agg #[(vL v0_0 v0_0n), (vL v0_1 v0_1n), (vI v0_2)]), (vL v1 v1n), (.agg #[(vI v2_0), (vI v2_1), (vT v2_2), (vL v2_3 v2_3n)])] h = some r := run_i (an := a28) Try.func28 (by kernel_rfl) (.trans (by kernel_rfl) hx)
theorem r29 {base : Nat} {v0_0 : Option Addr} {v0_0n : Nat} {v0_1 : Option Addr} {v0_1n : Nat} {v0_2 : Int} {h : AH} {r : Value × AH} (hx : ((some (h ++ [some ⟨[(.slice v0_0 v0_0n v0_0n), (.slice v0_1 v0_1n v0_1n), (.int .i64 v0_2)], 48⟩])).bind fun h1 =>
(some (h1 ++ [some ⟨[(.slice none 0 0), (.slice none 0 0), (.int .i64 0)], 50⟩])).bind fun h2 =>
(some (h2 ++ [some ⟨[(.slice none 0 0), (.slice none 0 0), (.int .i64 0)], 50⟩])).bind fun h3 =>
((cell h3 (List.length h) 0).bind getS).bind fun l4 =>
(run (Et base) 35 [(.slice l4.1 l4.2 l4.2)] h3).bind fun r5 =>
((some r5.1).bind getS).bind fun l6 =>
(wr base r5.2 (List.length h2) 0 [(.slice l6.1 l6.2 l6.2)]).bind fun h7 =>
((cell h7 (List.length h) 1).bind getS).bind fun l8 =>
(run (Et base) 35 [(.slice l8.1 l8.2 l8.2)] h7).bind fun r9 =>
((some r9.1).bind getS).bind fun l10 =>
(wr base r9.2 (List.length h2) 1 [(.slice l10.1 l10.2 l10.2)]).bind fun h11 =>
((cell h11 (List.length h) 2).bind (getI .i64)).bind fun n12 =>
(wr base h11 (List.length h2) 2 [(.int .i64 n12)]).bind fun h13 =>
((cell h13 (List.length h2) 0).bind getS).bind fun l14 =>
((cell h13 (List.length h2) 1).bind getS).bind fun l15 =>
((cell h13 (List.length h2) 2).bind (getI .i64)).bind fun n16 =>
(wr base h13 (List.length h1) 0 [(.slice l14.1 l14.2 l14.2), (.slice l15.1 l15.2 l15.2), (.int .i64 n16)]).bind fun h17 =>
((cell h17 (List.length h1) 0).bind getS).bind fun l18 =>
((cell h17 (List.length h1) 1).bind getS).bind fun l19 =>
((cell h17 (List.length h1) 2).bind (getI .i64)).bind fun n20 =>
some ((.agg #[(.slice l18.1 l18.2 l18.2), (.slice l19.1 l19.2 l19.2), (.int .i64 n20)]), h17)) = some r) : run (Et base) 29 [(.agg #[(vL v0_0 v0_0n), (vL v0_1 v0_1n), (vI v0_2)])] h = some r := run_i (an := a29) Try.func29 (by kernel_rfl) (.trans (by kernel_rfl) hx)
theorem r30 {base : Nat} {v0_0 : Option Addr} {v0_0n : Nat} {v0_1 : Option Addr} {v0_1n : Nat} {v0_2 : Int} {v1 : Option Addr} {v1n : Nat} {v2_0 : Int} {v2_1 : Int} {v2_2 : ByteArray} {v2_3 : Option Addr} {v2_3n : Nat} {h : AH} {r : Value × AH} (hx : (nw1 h 50 [(vL v0_0 v0_0n), (vL v0_1 v0_1n), (vI v0_2)] fun h1 =>
nw1 h1 39 [(vI v2_0), (vI v2_1), (vT v2_2), (vL v2_3 v2_3n)] fun h2 =>
nw1 h2 50 [(vL none 0), (vL none 0), (vI 0)] fun h3 =>
c_LLI h3 (List.length h) 0 fun l4 l5 n6 =>
(run (Et base) 82 [(.agg #[(vL l4.1 l4.2), (vL l5.1 l5.2), (vI n6)])] h3).bind fun r7 =>
gG (some r7.1) 3 fun l8 =>
l_LLI l8 fun l9 l10 n11 =>
nw1 r7.2 50 [(vL none 0), (vL none 0), (vI 0)] fun h12 =>
(wr base h12 (List.length r7.2) 0 [(vL l9.1 l9.2), (vL l10.1 l10.2), (vI n11)]).bind fun h13 =>
((cell h13 (List.length h) 1).bind getS).bind fun l14 =>
c_IITL h13 (List.length h1) 0 fun n15 n16 s17 l18 =>
(run (Et base) 74 [(vL l14.1 l14.2), (vI (100000 : Int)), (vI (1000 : Int)), (vL v1 v1n), (.agg #[(vI n15), (vI n16), (vT s17), (vL l18.1 l18.2)])] h13).bind fun r19 =>
(getTup 4 r19.1).bind fun l20 =>
l_LLIB l20 fun l21 l22 n23 b24 =>
((if b24 = true then
(wr base r19.2 (List.length r7.2) 1 [(vL l21.1 l21.2)]).bind fun h26 =>
some (.inl ([some (vP (List.length h2)), some (vP (List.length r7.2)), some (vL l22.1 l22.2), some (vI n23), some (.bool b24)], h26))
else
some (.inl ([some (vP (List.length h2)), some (vP (List.length r7.2)), some (vL l22.1 l22.2), some (vI n23), some (.bool b24)], r19.2)))).bind fun j25 => joinK j25 fun j25 =>
j_AALIB j25.1 fun d27 d28 l29 n30 b31 =>
c_LLI j25.2 d28.block d28.off fun l32 l33 n34 =>
(wr base j25.2 d27.block d27.off [(vL l32.1 l32.2), (vL l33.1 l33.2), (vI n34)]).bind fun h35 =>
c_LLI h35 d27.block d27.off fun l36 l37 n38 =>
some ((.tuple #[(.agg #[(vL l36.1 l36.2), (vL l37.1 l37.2), (vI n38)]), (vL l29.1 l29.2), (vI n30), (.bool b31)]), h35)) = some r) : run (Et base) 30 [(.agg #[(vL v0_0 v0_0n), (vL v0_1 v0_1n), (vI v0_2)]), (vL v1 v1n), (.agg #[(vI v2_0), (vI v2_1), (vT v2_2), (vL v2_3 v2_3n)])] h = some r := run_i (an := a30) Try.func30 (by kernel_rfl) (.trans (by kernel_rfl) hx)
theorem r31 {base : Nat} {v0_0 : Option Addr} {v0_0n : Nat} {v0_1 : Option Addr} {v0_1n : Nat} {v0_2 : Int} {v1_0 : Option Addr} {v1_0n : Nat} {v1_1 : Option Addr} {v1_1n : Nat} {v1_2 : Int} {h : AH} {r : Value × AH} (hx : ((some (h ++ [some ⟨[(.slice v0_0 v0_0n v0_0n), (.slice v0_1 v0_1n v0_1n), (.int .i64 v0_2)], 50⟩])).bind fun h1 =>
(some (h1 ++ [some ⟨[(.slice v1_0 v1_0n v1_0n), (.slice v1_1 v1_1n v1_1n), (.int .i64 v1_2)], 50⟩])).bind fun h2 =>
((cell h2 (List.length h) 0).bind getS).bind fun l3 =>
((cell h2 (List.length h1) 0).bind getS).bind fun l4 =>
(run (Et base) 37 [(.slice l3.1 l3.2 l3.2), (.slice l4.1 l4.2 l4.2)] h2).bind fun r5 =>
((some r5.1).bind getB).bind fun b6 =>
(if (!b6) = true then
some ((.bool false), r5.2)
else
((cell r5.2 (List.length h) 1).bind getS).bind fun l7 =>
((cell r5.2 (List.length h1) 1).bind getS).bind fun l8 =>
(run (Et base) 37 [(.slice l7.1 l7.2 l7.2), (.slice l8.1 l8.2 l8.2)] r5.2).bind fun r9 =>
((some r9.1).bind getB).bind fun b10 =>
(if (!b10) = true then
some ((.bool false), r9.2)
else
((cell r9.2 (List.length h) 2).bind (getI .i64)).bind fun n11 =>
((cell r9.2 (List.length h1) 2).bind (getI .i64)).bind fun n12 =>
(if (n11 != n12) = true then
some ((.bool false), r9.2)
else
some ((.bool true), r9.2))))) = some r) : run (Et base) 31 [(.agg #[(vL v0_0 v0_0n), (vL v0_1 v0_1n), (vI v0_2)]), (.agg #[(vL v1_0 v1_0n), (vL v1_1 v1_1n), (vI v1_2)])] h = some r := run_i (an := a31) Try.func31 (by kernel_rfl) (.trans (by kernel_rfl) hx)
theorem r32 {base : Nat} {v0_0 : Option Addr} {v0_0n : Nat} {v0_1 : Option Addr} {v0_1n : Nat} {v0_2 : Int} {v1 : Int} {h : AH} {r : Value × AH} (hx : ((some (h ++ [some ⟨[(.slice v0_0 v0_0n v0_0n), (.slice v0_1 v0_1n v0_1n), (.int .i64 v0_2)], 50⟩])).bind fun h1 =>
((cell h1 (List.length h) 0).bind getS).bind fun l2 =>
(run (Et base) 76 [(.slice l2.1 l2.2 l2.2), (.int .i64 v1)] h1).bind fun r3 =>
((some r3.1).bind (getI .i64)).bind fun n4 =>
((cell r3.2 (List.length h) 1).bind getS).bind fun l5 =>
(run (Et base) 76 [(.slice l5.1 l5.2 l5.2), (.int .i64 n4)] r3.2).bind fun r6 =>
((some r6.1).bind (getI .i64)).bind fun n7 =>
some ((.int .i64 n7), r6.2)) = some r) : run (Et base) 32 [(.agg #[(vL v0_0 v0_0n), (vL v0_1 v0_1n), (vI v0_2)]), (vI v1)] h = some r := run_i (an := a32) Try.func32 (by kernel_rfl) (.trans (by kernel_rfl) hx)
theorem r33 {base : Nat} {v0_0 : Option Addr} {v0_0n : Nat} {v0_1 : Option Addr} {v0_1n : Nat} {v0_2 : Int} {v1 : Int} {h : AH} {r : Value × AH} (hx : ((some (h ++ [some ⟨[(.slice v0_0 v0_0n v0_0n), (.slice v0_1 v0_1n v0_1n), (.int .i64 v0_2)], 50⟩])).bind fun h1 =>
((cell h1 (List.length h) 0).bind getS).bind fun l2 =>
(run (Et base) 79 [(.slice l2.1 l2.2 l2.2), (.int .i64 v1)] h1).bind fun r3 =>
((some r3.1).bind (getI .i64)).bind fun n4 =>
(if (decide (n4 < (0 : Int))) = true then
some ((.int .i64 (-1 : Int)), r3.2)
else
((cell r3.2 (List.length h) 1).bind getS).bind fun l5 =>
(run (Et base) 79 [(.slice l5.1 l5.2 l5.2), (.int .i64 n4)] r3.2).bind fun r6 =>
((some r6.1).bind (getI .i64)).bind fun n7 =>
(if (decide (n7 < (0 : Int))) = true then
some ((.int .i64 (-1 : Int)), r6.2)
else
some ((.int .i64 n7), r6.2)))) = some r) : run (Et base) 33 [(.agg #[(vL v0_0 v0_0n), (vL v0_1 v0_1n), (vI v0_2)]), (vI v1)] h = some r := run_i (an := a33) Try.func33 (by kernel_rfl) (.trans (by kernel_rfl) hx)
noncomputable def B35_0 (base : Nat) : Body := fun l h => lay s35_0 l fun s => exCode (Et base) (run (Et base)) loopL a35_0 (subC [1, 1, 0, 1, 0, 0] (bodyC Try.f35)) s h (keepK s35_0 e35_0)
theorem B35_0_eq (base : Nat) (v0 : Option Addr) (v0n : Nat) (v3 : Option Addr) (v3n : Nat) (v4 : Int) (h : AH) : B35_0 base [some (vL v0 v0n), some (vL v3 v3n), some (vI v4)] h =
((if (decide (v4 < ((v0n : Nat) : Int))) = true then
(if 0 ≤ v4 ∧ v4 < ((v0n : Nat) : Int) then
((v0 : Option Addr)).bind fun a1 =>
((cell h a1.block (a1.off + Int.toNat v4 * 1)).bind (getI .i64)).bind fun n2 =>
(if 0 ≤ v4 ∧ v4 < ((v3n : Nat) : Int) then
((v3 : Option Addr)).bind fun a3 =>
(wr base h a3.block (a3.off + Int.toNat v4 * 1) [(.int .i64 n2)]).bind fun h4 =>
some (0, [some (.slice v0 v0n v0n), some (.slice v3 v3n v3n), some (.int .i64 (IntKind.wrap .i64 (v4 + (1 : Int))))], h4)
else none)
else none)
else
some (2, [some (.slice v3 v3n v3n)], h)) : Option (Nat × Slots × AH)) := by kernel_rfl
theorem r35 {base : Nat} {v0 : Option Addr} {v0n : Nat} {h : AH} {r : Value × AH} (hx : ((if ((v0n : Nat) : Int) = ((v0n : Nat) : Int) ∧ 0 ≤ ((v0n : Nat) : Int) ∧ ((v0n : Nat) : Int) * 8 ≤ 140737488355328 ∧ ((v0n : Nat) : Int) ≤ 140737488355328 then
(some (h ++ [some ⟨rep [(.int .i64 0)] (Int.toNat ((v0n : Nat) : Int)), 3⟩])).bind fun h1 =>
(loopL (B35_0 base) [some (.slice v0 v0n v0n), some (.slice (some ⟨(List.length h), 0, none⟩) (Int.toNat ((v0n : Nat) : Int)) (Int.toNat ((v0n : Nat) : Int))), some (.int .i64 (0 : Int))] h1).bind fun q2 =>
(if q2.1 = 2 then
((sget q2.2.1 0).bind getS).bind fun l3 =>
some ((.slice l3.1 l3.2 l3.2), q2.2.2)
else
none)
else none)) = some r) : run (Et base) 35 [(vL v0 v0n)] h = some r := run_i (an := a35) Try.func35 (by kernel_rfl) (.trans (by kernel_rfl) hx)
noncomputable def B37_0 (base : Nat) : Body := fun l h => lay s37_0 l fun s => exCode (Et base) (run (Et base)) loopL a37_0 (subC [1, 1, 0, 1, 0, 0] (bodyC Try.f37)) s h (keepK s37_0 e37_0)
theorem B37_0_eq (base : Nat) (v0 : Option Addr) (v0n : Nat) (v1 : Option Addr) (v1n : Nat) (v5 : Int) (h : AH) : B37_0 base [some (vL v0 v0n), some (vL v1 v1n), some (vI v5)] h =
((if (decide (v5 < ((v0n : Nat) : Int))) = true then
(if 0 ≤ v5 ∧ v5 < ((v0n : Nat) : Int) then
((v0 : Option Addr)).bind fun a1 =>
((cell h a1.block (a1.off + Int.toNat v5 * 1)).bind (getI .i64)).bind fun n2 =>
(if 0 ≤ v5 ∧ v5 < ((v1n : Nat) : Int) then
((v1 : Option Addr)).bind fun a3 =>
((cell h a3.block (a3.off + Int.toNat v5 * 1)).bind (getI .i64)).bind fun n4 =>
(if (n2 != n4) = true then
some (1, [some (.bool false)], h)
else
some (0, [some (.slice v0 v0n v0n), some (.slice v1 v1n v1n), some (.int .i64 (IntKind.wrap .i64 (v5 + (1 : Int))))], h))
else none)
else none)
else
some (2, [], h)) : Option (Nat × Slots × AH)) := by kernel_rfl
theorem r37 {base : Nat} {v0 : Option Addr} {v0n : Nat} {v1 : Option Addr} {v1n : Nat} {h : AH} {r : Value × AH} (hx : ((if (((v0n : Nat) : Int) != ((v1n : Nat) : Int)) = true then
some ((.bool false), h)
else
(loopL (B37_0 base) [some (.slice v0 v0n v0n), some (.slice v1 v1n v1n), some (.int .i64 (0 : Int))] h).bind fun q1 =>
(if q1.1 = 1 then
((sget q1.2.1 0).bind getB).bind fun b2 =>
some ((.bool b2), q1.2.2)
else
(if q1.1 = 2 then
some ((.bool true), q1.2.2)
else
none)))) = some r) : run (Et base) 37 [(vL v0 v0n), (vL v1 v1n)] h = some r := run_i (an := a37) Try.func37 (by kernel_rfl) (.trans (by kernel_rfl) hx)
theorem r67 {base : Nat} {v0 : Option Addr} {v0n : Nat} {v1 : Int} {h : AH} {r : Value × AH} (hx : ((if (decide ((IntKind.wrap .i64 (v1 - ((v0n : Nat) : Int))) < (0 : Int))) = true then
some ((.int .i64 (-1 : Int)), h)
else
some ((.int .i64 (IntKind.wrap .i64 (v1 - ((v0n : Nat) : Int)))), h))) = some r) : run (Et base) 67 [(vL v0 v0n), (vI v1)] h = some r := run_i (an := a67) Try.func67 (by kernel_rfl) (.trans (by kernel_rfl) hx)
noncomputable def B68_0 (base : Nat) : Body := fun l h => lay s68_0 l fun s => exCode (Et base) (run (Et base)) loopL a68_0 (subC [1, 1, 1, 0, 1, 0, 0] (bodyC Try.f68)) s h (keepK s68_0 e68_0)
theorem B68_0_eq (base : Nat) (v0 : Option Addr) (v0n : Nat) (v1 : Int) (v5 : Int) (h : AH) : B68_0 base [some (vL v0 v0n), some (vI v1), some (vI v5)] h =
((if (decide (v5 < ((v0n : Nat) : Int))) = true then
(if 0 ≤ v5 ∧ v5 < ((v0n : Nat) : Int) then
((v0 : Option Addr)).bind fun a1 =>
((cell h a1.block (a1.off + Int.toNat v5 * 4)).bind (getI .i64)).bind fun n2 =>
((cell h a1.block ((a1.off + Int.toNat v5 * 4) + 1)).bind (getI .i64)).bind fun n3 =>
((cell h a1.block (((a1.off + Int.toNat v5 * 4) + 1) + 1)).bind getStr).bind fun s4 =>
((cell h a1.block ((((a1.off + Int.toNat v5 * 4) + 1) + 1) + 1)).bind getS).bind fun l5 =>
(run (Et base) 13 [(.agg #[(.int .i64 n2), (.int .i64 n3), (.string s4), (.slice l5.1 l5.2 l5.2)]), (.int .i64 v1)] h).bind fun r6 =>
((some r6.1).bind (getI .i64)).bind fun n7 =>
(if (decide (n7 < (0 : Int))) = true then
some (1, [some (.int .i64 (-1 : Int))], r6.2)
else
some (0, [some (.slice v0 v0n v0n), some (.int .i64 n7), some (.int .i64 (IntKind.wrap .i64 (v5 + (1 : Int))))], r6.2))
else none)
else
some (2, [some (.int .i64 v1)], h)) : Option (Nat × Slots × AH)) := by kernel_rfl
theorem r68 {base : Nat} {v0 : Option Addr} {v0n : Nat} {v1 : Int} {h : AH} {r : Value × AH} (hx : ((if (decide ((IntKind.wrap .i64 (v1 - ((v0n : Nat) : Int))) < (0 : Int))) = true then
some ((.int .i64 (-1 : Int)), h)
else
(loopL (B68_0 base) [some (.slice v0 v0n v0n), some (.int .i64 (IntKind.wrap .i64 (v1 - ((v0n : Nat) : Int)))), some (.int .i64 (0 : Int))] h).bind fun q1 =>
(if q1.1 = 1 then
((sget q1.2.1 0).bind (getI .i64)).bind fun n2 =>
some ((.int .i64 n2), q1.2.2)
else
(if q1.1 = 2 then
((sget q1.2.1 0).bind (getI .i64)).bind fun n3 =>
some ((.int .i64 n3), q1.2.2)
else
none)))) = some r) : run (Et base) 68 [(vL v0 v0n), (vI v1)] h = some r := run_i (an := a68) Try.func68 (by kernel_rfl) (.trans (by kernel_rfl) hx)
theorem r70 {base : Nat} {v0_0 : Int} {v0_1 : Int} {v0_2 : ByteArray} {v0_3 : Option Addr} {v0_3n : Nat} {h : AH} {r : Value × AH} (hx : ((some (h ++ [some ⟨[(.int .i64 v0_0), (.int .i64 v0_1), (.string v0_2), (.slice v0_3 v0_3n v0_3n)], 39⟩])).bind fun h1 =>
((cell h1 (List.length h) 0).bind (getI .i64)).bind fun n2 =>
((cell h1 (List.length h) 1).bind (getI .i64)).bind fun n3 =>
((cell h1 (List.length h) 2).bind getStr).bind fun s4 =>
((cell h1 (List.length h) 3).bind getS).bind fun l5 =>
(run (Et base) 131 [(.agg #[(.int .i64 n2), (.int .i64 n3), (.string s4), (.slice l5.1 l5.2 l5.2)]), (.int .i64 (6 : Int)), (.int .i64 (100 : Int))] h1).bind fun r6 =>
((some r6.1).bind (getI .i64)).bind fun n7 =>
some ((.bool (decide (n7 ≥ (0 : Int)))), r6.2)) = some r) : run (Et base) 70 [(.agg #[(vI v0_0), (vI v0_1), (vT v0_2), (vL v0_3 v0_3n)])] h = some r := run_i (an := a70) Try.func70 (by kernel_rfl) (.trans (by kernel_rfl) hx)
noncomputable def B71_0 (base : Nat) : Body := fun l h => lay s71_0 l fun s => exCode (Et base) (run (Et base)) loopL a71_0 (subC [1, 1, 1, 0, 1, 0, 0] (bodyC Try.f71)) s h (keepK s71_0 e71_0)
theorem B71_0_eq (base : Nat) (v1 : Addr) (v3 : Int) (v4 : Int) (h : AH) : B71_0 base [some (vA v1), some (vI v3), some (vI v4)] h =
((((cell h v1.block (v1.off + 3)).bind getS).bind fun l2 =>
(if (decide (v4 < ((l2.2 : Nat) : Int))) = true then
((cell h v1.block (v1.off + 0)).bind (getI .i64)).bind fun n3 =>
(run (Et base) 83 [(vI n3), (vI (4 : Int)), (vI (5 : Int))] h).bind fun r4 =>
((some r4.1).bind getB).bind fun b5 =>
some (.inl ([some (vA v1), some (vI v3), some (vI v4), some (.bool b5)], r4.2))
else
some (.inl ([some (vA v1), some (vI v3), some (vI v4), some (.bool false)], h)))).bind fun j1 => joinK j1 fun j1 =>
j_AIIB j1.1 fun d6 n7 n8 b9 =>
(if b9 = true then
((cell j1.2 d6.block (d6.off + 3)).bind getS).bind fun l10 =>
(if 0 ≤ n8 ∧ n8 < ((l10.2 : Nat) : Int) then
((l10.1 : Option Addr)).bind fun a11 =>
c_IITL j1.2 a11.block (a11.off + Int.toNat n8 * 4) fun n12 n13 s14 l15 =>
(run (Et base) 71 [(.agg #[(vI n12), (vI n13), (vT s14), (vL l15.1 l15.2)])] j1.2).bind fun r16 =>
((some r16.1).bind (getI .i64)).bind fun n17 =>
some (0, [some (vA d6), some (vI (IntKind.wrap .i64 (n7 + n17))), some (vI (IntKind.wrap .i64 (n8 + (1 : Int))))], r16.2)
else none)
else
some (3, [some (vI n7)], j1.2)) : Option (Nat × Slots × AH)) := by kernel_rfl
theorem r71 {base : Nat} {v0_0 : Int} {v0_1 : Int} {v0_2 : ByteArray} {v0_3 : Option Addr} {v0_3n : Nat} {h : AH} {r : Value × AH} (hx : ((some (h ++ [some ⟨[(.int .i64 v0_0), (.int .i64 v0_1), (.string v0_2), (.slice v0_3 v0_3n v0_3n)], 39⟩])).bind fun h1 =>
(((cell h1 (List.length h) 0).bind (getI .i64)).bind fun n3 =>
(if (n3 == (4 : Int)) = true then
((cell h1 (List.length h) 3).bind getS).bind fun l4 =>
some (.inl ([some (.pointer (some ⟨(List.length h), 0, none⟩)), some (.int .i64 (IntKind.wrap .i64 ((1 : Int) + ((l4.2 : Nat) : Int))))], h1))
else
(if (n3 == (5 : Int)) = true then
((cell h1 (List.length h) 3).bind getS).bind fun l5 =>
some (.inl ([some (.pointer (some ⟨(List.length h), 0, none⟩)), some (.int .i64 (IntKind.wrap .i64 ((2 : Int) * ((l5.2 : Nat) : Int))))], h1))
else
(if (n3 == (6 : Int)) = true then
((cell h1 (List.length h) 2).bind getStr).bind fun s6 =>
some (.inl ([some (.pointer (some ⟨(List.length h), 0, none⟩)), some (.int .i64 (IntKind.wrap .i64 ((1 : Int) + (s6.size : Int))))], h1))
else
some (.inl ([some (.pointer (some ⟨(List.length h), 0, none⟩)), some (.int .i64 (0 : Int))], h1)))))).bind fun j2 => joinK j2 fun j2 =>
((sget j2.1 0).bind getA).bind fun d7 =>
((sget (j2.1.tail) 0).bind (getI .i64)).bind fun n8 =>
(loopL (B71_0 base) [some (.pointer (some d7)), some (.int .i64 n8), some (.int .i64 (0 : Int))] j2.2).bind fun q9 =>
(if q9.1 = 3 then
((sget q9.2.1 0).bind (getI .i64)).bind fun n10 =>
some ((.int .i64 n10), q9.2.2)
else
none)) = some r) : run (Et base) 71 [(.agg #[(vI v0_0), (vI v0_1), (vT v0_2), (vL v0_3 v0_3n)])] h = some r := run_i (an := a71) Try.func71 (by kernel_rfl) (.trans (by kernel_rfl) hx)
noncomputable def B72_1 (base : Nat) : Body := fun l h => lay s72_1 l fun s => exCode (Et base) (run (Et base)) loopL a72_1 (subC [1, 0, 1, 0, 1, 1, 1, 1, 1, 1, 1, 1, 1, 0, 1, 1, 1, 1, 0, 1, 0, 0] (bodyC Try.f72)) s h (keepK s72_1 e72_1)
noncomputable def B72_0 (base : Nat) : Body := fun l h => lay s72_0 l fun s => exCode (Et base) (run (Et base)) loopL a72_0 (subC [1, 0, 1, 0, 1, 1, 1, 1, 1, 1, 1, 0, 1, 1, 0, 1, 0, 0] (bodyC Try.f72)) s h (keepK s72_0 e72_0)
theorem B72_1_eq (base : Nat) (v0 : Option Addr) (v1 : Option Addr) (v5 : Addr) (v12 : Int) (v13 : Bool) (v14 : Int) (h : AH) : B72_1 base [some (.pointer v0), some (.pointer v1), some (vA v5), some (vI v12), some (.bool v13), some (vI v14)] h =
(((cell h v5.block (v5.off + 3)).bind getS).bind fun l1 =>
(if (decide (v14 < ((l1.2 : Nat) : Int))) = true then
(((cell h v5.block (v5.off + 3)).bind getS).bind fun l3 =>
(if 0 ≤ v14 ∧ v14 < ((l3.2 : Nat) : Int) then
((l3.1 : Option Addr)).bind fun a4 =>
c_IITL h a4.block (a4.off + Int.toNat v14 * 4) fun n5 n6 s7 l8 =>
(run (Et base) 72 [(.pointer v0), (.pointer v1), (.agg #[(vI n5), (vI n6), (vT s7), (vL l8.1 l8.2)])] h).bind fun r9 =>
(getTup 2 r9.1).bind fun l10 =>
l_IB l10 fun n11 b12 =>
(v0).bind fun a13 =>
((cell r9.2 a13.block a13.off).bind getS).bind fun l14 =>
(if 0 ≤ (IntKind.wrap .i64 ((IntKind.wrap .i64 (v12 + (1 : Int))) + v14)) ∧ (IntKind.wrap .i64 ((IntKind.wrap .i64 (v12 + (1 : Int))) + v14)) < ((l14.2 : Nat) : Int) then
((l14.1 : Option Addr)).bind fun a15 =>
(wr base r9.2 a15.block (a15.off + Int.toNat (IntKind.wrap .i64 ((IntKind.wrap .i64 (v12 + (1 : Int))) + v14)) * 1) [(vI n11)]).bind fun h16 =>
(if v13 = true then
some (.inl ([some (.pointer v0), some (.pointer v1), some (vA v5), some (vI v12), some (.bool b12), some (vI v14)], h16))
else
some (.inl ([some (.pointer v0), some (.pointer v1), some (vA v5), some (vI v12), some (.bool false), some (vI v14)], h16)))
else none)
else none)).bind fun j2 => joinK j2 fun j2 =>
j_PPAIBI j2.1 fun p17 p18 d19 n20 b21 n22 =>
some (0, [some (.pointer p17), some (.pointer p18), some (vA d19), some (vI n20), some (.bool b21), some (vI (IntKind.wrap .i64 (n22 + (1 : Int))))], j2.2)
else
some (5, [some (vI v12), some (.bool v13)], h)) : Option (Nat × Slots × AH)) := by kernel_rfl
theorem B72_0_eq (base : Nat) (v0 : Option Addr) (v5 : Addr) (v10 : Int) (v11 : Int) (h : AH) : B72_0 base [some (.pointer v0), some (vA v5), some (vI v10), some (vI v11)] h =
(((cell h v5.block (v5.off + 2)).bind getStr).bind fun s1 =>
(if (decide (v11 < (s1.size : Int))) = true then
(v0).bind fun a2 =>
((cell h a2.block a2.off).bind getS).bind fun l3 =>
((cell h v5.block (v5.off + 2)).bind getStr).bind fun s4 =>
(if 0 ≤ v11 ∧ v11 < (s4.size : Int) then
(gate (neA (some a2) (List.length h))
((some (h ++ [some ⟨[(.int .i64 (IntKind.wrap .i64 ((s4.data.toList.getD (Int.toNat v11) 0).toNat : Int)))], 3⟩])).bind fun h5 =>
(app base h5 3 1 8 l3.1 l3.2 (rawAt h5 (some ⟨(List.length h), 0, none⟩) (1 * 1)) 1).bind fun p6 =>
((some p6.1).bind getS).bind fun l7 =>
(v0).bind fun a8 =>
(wr base p6.2 a8.block a8.off [(.slice l7.1 l7.2 l7.2)]).bind fun h9 =>
some (0, [some (.pointer v0), some (.pointer (some v5)), some (.int .i64 v10), some (.int .i64 (IntKind.wrap .i64 (v11 + (1 : Int))))], h9)))
else none)
else
some (3, [some (.int .i64 v10)], h)) : Option (Nat × Slots × AH)) := by kernel_rfl
noncomputable abbrev qf72 (base : Nat) (v0 : Option Addr) (v1 : Option Addr) (v2_0 : Int) (v2_1 : Int) (v2_2 : ByteArray) (v2_3 : Option Addr) (v2_3n : Nat) (h : AH) : Option (Value × AH) :=
nw1 h 39 [(vI v2_0), (vI v2_1), (vT v2_2), (vL v2_3 v2_3n)] fun h1 =>
((cell h1 (List.length h) 0).bind (getI .i64)).bind fun n2 =>
(if (n2 == (1 : Int)) = true then
((cell h1 (List.length h) 1).bind (getI .i64)).bind fun n3 =>
(run (Et base) 132 [(vI (0 : Int)), (vI (IntKind.wrap .i64 (n3 + (1000000 : Int))))] h1).bind fun r4 =>
((some r4.1).bind (getI .i64)).bind fun n5 =>
some ((.tuple #[(vI n5), (.bool true)]), r4.2)
else
(if (n2 == (3 : Int)) = true then
((cell h1 (List.length h) 1).bind (getI .i64)).bind fun n6 =>
(run (Et base) 132 [(vI (2 : Int)), (vI n6)] h1).bind fun r7 =>
((some r7.1).bind (getI .i64)).bind fun n8 =>
some ((.tuple #[(vI n8), (.bool true)]), r7.2)
else
(if (n2 == (2 : Int)) = true then
(v1).bind fun a9 =>
((cell h1 a9.block a9.off).bind getS).bind fun l10 =>
((cell h1 (List.length h) 2).bind getStr).bind fun s11 =>
(run (Et base) 133 [(vL l10.1 l10.2), (vT s11)] h1).bind fun r12 =>
(getTup 2 r12.1).bind fun l13 =>
l_LI l13 fun l14 n15 =>
(v1).bind fun a16 =>
(wr base r12.2 a16.block a16.off [(vL l14.1 l14.2)]).bind fun h17 =>
(run (Et base) 132 [(vI (1 : Int)), (vI n15)] h17).bind fun r18 =>
((some r18.1).bind (getI .i64)).bind fun n19 =>
some ((.tuple #[(vI n19), (.bool (decide (n15 ≥ (0 : Int))))]), r18.2)
else
(if (n2 == (6 : Int)) = true then
(v0).bind fun a20 =>
((cell h1 a20.block a20.off).bind getS).bind fun l21 =>
(v0).bind fun a22 =>
((cell h1 a22.block a22.off).bind getS).bind fun l23 =>
((cell h1 (List.length h) 2).bind getStr).bind fun s24 =>
(gate (neA (some a22) (List.length h1))
(nw1 h1 3 [(vI (s24.size : Int))] fun h25 =>
(app base h25 3 1 8 l23.1 l23.2 (rawAt h25 (some ⟨(List.length h1), 0, none⟩) (1 * 1)) 1).bind fun p26 =>
((some p26.1).bind getS).bind fun l27 =>
(v0).bind fun a28 =>
(wr base p26.2 a28.block a28.off [(vL l27.1 l27.2)]).bind fun h29 =>
(loopL (B72_0 base) [some (.pointer v0), some (vP (List.length h)), some (vI ((l21.2 : Nat) : Int)), some (vI (0 : Int))] h29).bind fun q30 =>
(if q30.1 = 3 then
((sget q30.2.1 0).bind (getI .i64)).bind fun n31 =>
(run (Et base) 132 [(vI (6 : Int)), (vI n31)] q30.2.2).bind fun r32 =>
((some r32.1).bind (getI .i64)).bind fun n33 =>
some ((.tuple #[(vI n33), (.bool true)]), r32.2)
else
none)))
else
(if (n2 == (4 : Int)) = true then
(v0).bind fun a34 =>
((cell h1 a34.block a34.off).bind getS).bind fun l35 =>
(v0).bind fun a36 =>
((cell h1 a36.block a36.off).bind getS).bind fun l37 =>
((cell h1 (List.length h) 3).bind getS).bind fun l38 =>
(gate (neA (some a36) (List.length h1))
(nw1 h1 3 [(vI ((l38.2 : Nat) : Int))] fun h39 =>
(app base h39 3 1 8 l37.1 l37.2 (rawAt h39 (some ⟨(List.length h1), 0, none⟩) (1 * 1)) 1).bind fun p40 =>
((some p40.1).bind getS).bind fun l41 =>
(v0).bind fun a42 =>
(wr base p40.2 a42.block a42.off [(vL l41.1 l41.2)]).bind fun h43 =>
(v0).bind fun a44 =>
((cell h43 a44.block a44.off).bind getS).bind fun l45 =>
((cell h43 (List.length h) 3).bind getS).bind fun l46 =>
(if 0 ≤ ((l46.2 : Nat) : Int) ∧ ((l46.2 : Nat) : Int) ≤ 140737488355328 then
(app base h43 3 1 8 l45.1 l45.2 (some (rep [(vI 0)] (Int.toNat ((l46.2 : Nat) : Int)))) (Int.toNat ((l46.2 : Nat) : Int))).bind fun p47 =>
((some p47.1).bind getS).bind fun l48 =>
(v0).bind fun a49 =>
(wr base p47.2 a49.block a49.off [(vL l48.1 l48.2)]).bind fun h50 =>
(loopL (B72_1 base) [some (.pointer v0), some (.pointer v1), some (vP (List.length h)), some (vI ((l35.2 : Nat) : Int)), some (.bool true), some (vI (0 : Int))] h50).bind fun q51 =>
(if q51.1 = 5 then
j_IB q51.2.1 fun n52 b53 =>
(run (Et base) 132 [(vI (4 : Int)), (vI n52)] q51.2.2).bind fun r54 =>
((some r54.1).bind (getI .i64)).bind fun n55 =>
some ((.tuple #[(vI n55), (.bool b53)]), r54.2)
else
none)
else none)))
else
c_IITL h1 (List.length h) 0 fun n56 n57 s58 l59 =>
(run (Et base) 134 [(.pointer v0), (.pointer v1), (.agg #[(vI n56), (vI n57), (vT s58), (vL l59.1 l59.2)])] h1).bind fun r60 =>
(getTup 2 r60.1).bind fun l61 =>
l_IB l61 fun n62 b63 =>
some ((.tuple #[(vI n62), (.bool b63)]), r60.2))))))
theorem r72 {base : Nat} {v0 : Option Addr} {v1 : Option Addr} {v2_0 : Int} {v2_1 : Int} {v2_2 : ByteArray} {v2_3 : Option Addr} {v2_3n : Nat} {h : AH} {r : Value × AH} (hx : qf72 base v0 v1 v2_0 v2_1 v2_2 v2_3 v2_3n h = some r) : run (Et base) 72 [(.pointer v0), (.pointer v1), (.agg #[(vI v2_0), (vI v2_1), (vT v2_2), (vL v2_3 v2_3n)])] h = some r := run_i (an := a72) Try.func72 (by kernel_rfl) (.trans (by kernel_rfl) hx)
noncomputable def B73_0 (base : Nat) : Body := fun l h => lay s73_0 l fun s => exCode (Et base) (run (Et base)) loopL a73_0 (subC [1, 1, 0, 1, 0, 0] (bodyC Try.f73)) s h (keepK s73_0 e73_0)
theorem B73_0_eq (base : Nat) (v0 : Option Addr) (v0n : Nat) (v3 : Option Addr) (v3n : Nat) (v4 : Int) (h : AH) : B73_0 base [some (vL v0 v0n), some (vL v3 v3n), some (vI v4)] h =
((if (decide (v4 < ((v0n : Nat) : Int))) = true then
(if 0 ≤ v4 ∧ v4 < ((v0n : Nat) : Int) then
((v0 : Option Addr)).bind fun a1 =>
((cell h a1.block (a1.off + Int.toNat v4 * 4)).bind (getI .i64)).bind fun n2 =>
((cell h a1.block ((a1.off + Int.toNat v4 * 4) + 1)).bind (getI .i64)).bind fun n3 =>
((cell h a1.block (((a1.off + Int.toNat v4 * 4) + 1) + 1)).bind getStr).bind fun s4 =>
((cell h a1.block ((((a1.off + Int.toNat v4 * 4) + 1) + 1) + 1)).bind getS).bind fun l5 =>
(run (Et base) 17 [(.agg #[(.int .i64 n2), (.int .i64 n3), (.string s4), (.slice l5.1 l5.2 l5.2)])] h).bind fun r6 =>
((some r6.1).bind (getAgg 4)).bind fun l7 =>
((l7[0]?).bind (getI .i64)).bind fun n8 =>
((l7[1]?).bind (getI .i64)).bind fun n9 =>
((l7[2]?).bind getStr).bind fun s10 =>
((l7[3]?).bind getS).bind fun l11 =>
(if 0 ≤ v4 ∧ v4 < ((v3n : Nat) : Int) then
((v3 : Option Addr)).bind fun a12 =>
(wr base r6.2 a12.block (a12.off + Int.toNat v4 * 4) [(.int .i64 n8), (.int .i64 n9), (.string s10), (.slice l11.1 l11.2 l11.2)]).bind fun h13 =>
some (0, [some (.slice v0 v0n v0n), some (.slice v3 v3n v3n), some (.int .i64 (IntKind.wrap .i64 (v4 + (1 : Int))))], h13)
else none)
else none)
else
some (2, [some (.slice v3 v3n v3n)], h)) : Option (Nat × Slots × AH)) := by kernel_rfl
theorem r73 {base : Nat} {v0 : Option Addr} {v0n : Nat} {h : AH} {r : Value × AH} (hx : ((if ((v0n : Nat) : Int) = ((v0n : Nat) : Int) ∧ 0 ≤ ((v0n : Nat) : Int) ∧ ((v0n : Nat) : Int) * 56 ≤ 140737488355328 ∧ ((v0n : Nat) : Int) ≤ 140737488355328 then
(some (h ++ [some ⟨rep [(.int .i64 0), (.int .i64 0), (.string ⟨#[]⟩), (.slice none 0 0)] (Int.toNat ((v0n : Nat) : Int)), 39⟩])).bind fun h1 =>
(loopL (B73_0 base) [some (.slice v0 v0n v0n), some (.slice (some ⟨(List.length h), 0, none⟩) (Int.toNat ((v0n : Nat) : Int)) (Int.toNat ((v0n : Nat) : Int))), some (.int .i64 (0 : Int))] h1).bind fun q2 =>
(if q2.1 = 2 then
((sget q2.2.1 0).bind getS).bind fun l3 =>
some ((.slice l3.1 l3.2 l3.2), q2.2.2)
else
none)
else none)) = some r) : run (Et base) 73 [(vL v0 v0n)] h = some r := run_i (an := a73) Try.func73 (by kernel_rfl) (.trans (by kernel_rfl) hx)
noncomputable abbrev qf74 (base : Nat) (v0 : Option Addr) (v0n : Nat) (v1 : Int) (v2 : Int) (v3 : Option Addr) (v3n : Nat) (v4_0 : Int) (v4_1 : Int) (v4_2 : ByteArray) (v4_3 : Option Addr) (v4_3n : Nat) (h : AH) : Option (Value × AH) :=
nw1 h 39 [(vI v4_0), (vI v4_1), (vT v4_2), (vL v4_3 v4_3n)] fun h1 =>
(app base h1 9 1 16 none 0 (rawAt h1 v3 (v3n * 1)) v3n).bind fun p2 =>
((some p2.1).bind getS).bind fun l3 =>
(c_IITL p2.2 (List.length h) 0 fun n5 n6 s7 l8 =>
(run (Et base) 102 [(.agg #[(vI n5), (vI n6), (vT s7), (vL l8.1 l8.2)])] p2.2).bind fun r9 =>
((some r9.1).bind getB).bind fun b10 =>
(if (!b10) = true then
some (.inl ([some (vL v0 v0n), some (vI v1), some (vL v3 v3n), some (vP (List.length h)), some (vL l3.1 l3.2), some (.bool true)], r9.2))
else
(if (decide (((v0n : Nat) : Int) > v2)) = true then
some (.inl ([some (vL v0 v0n), some (vI v1), some (vL v3 v3n), some (vP (List.length h)), some (vL l3.1 l3.2), some (.bool true)], r9.2))
else
c_IITL r9.2 (List.length h) 0 fun n11 n12 s13 l14 =>
(run (Et base) 135 [(.agg #[(vI n11), (vI n12), (vT s13), (vL l14.1 l14.2)])] r9.2).bind fun r15 =>
((some r15.1).bind (getI .i64)).bind fun n16 =>
some (.inl ([some (vL v0 v0n), some (vI v1), some (vL v3 v3n), some (vP (List.length h)), some (vL l3.1 l3.2), some (.bool (decide (n16 > (IntKind.wrap .i64 (v2 - ((v0n : Nat) : Int))))))], r15.2))))).bind fun j4 => joinK j4 fun j4 =>
j_LILALB j4.1 fun l17 n18 l19 d20 l21 b22 =>
(if b22 = true then
(run (Et base) 110 [(vL l17.1 l17.2)] j4.2).bind fun r23 =>
((some r23.1).bind getS).bind fun l24 =>
some ((.tuple #[(vL l24.1 l24.2), (vL l21.1 l21.2), (vI (0 : Int)), (.bool false)]), r23.2)
else
(run (Et base) 110 [(vL l17.1 l17.2)] j4.2).bind fun r25 =>
((some r25.1).bind getS).bind fun l26 =>
nw1 r25.2 166 [(vL l26.1 l26.2), (vI n18), (vL l21.1 l21.2), (.bool false)] fun h27 =>
c_IITL h27 d20.block d20.off fun n28 n29 s30 l31 =>
(run (Et base) 136 [(vP (List.length r25.2)), (.agg #[(vI n28), (vI n29), (vT s30), (vL l31.1 l31.2)])] h27).bind fun r32 =>
((some r32.1).bind (getI .i64)).bind fun n33 =>
((cell r32.2 (List.length r25.2) 3).bind getB).bind fun b34 =>
(if b34 = true then
(run (Et base) 110 [(vL l17.1 l17.2)] r32.2).bind fun r35 =>
((some r35.1).bind getS).bind fun l36 =>
(app base r35.2 9 1 16 none 0 (rawAt r35.2 l19.1 (l19.2 * 1)) l19.2).bind fun p37 =>
((some p37.1).bind getS).bind fun l38 =>
some ((.tuple #[(vL l36.1 l36.2), (vL l38.1 l38.2), (vI (0 : Int)), (.bool false)]), p37.2)
else
((cell r32.2 (List.length r25.2) 0).bind getS).bind fun l39 =>
((cell r32.2 (List.length r25.2) 2).bind getS).bind fun l40 =>
some ((.tuple #[(vL l39.1 l39.2), (vL l40.1 l40.2), (vI n33), (.bool true)]), r32.2)))
theorem r74 {base : Nat} {v0 : Option Addr} {v0n : Nat} {v1 : Int} {v2 : Int} {v3 : Option Addr} {v3n : Nat} {v4_0 : Int} {v4_1 : Int} {v4_2 : ByteArray} {v4_3 : Option Addr} {v4_3n : Nat} {h : AH} {r : Value × AH} (hx : qf74 base v0 v0n v1 v2 v3 v3n v4_0 v4_1 v4_2 v4_3 v4_3n h = some r) : run (Et base) 74 [(vL v0 v0n), (vI v1), (vI v2), (vL v3 v3n), (.agg #[(vI v4_0), (vI v4_1), (vT v4_2), (vL v4_3 v4_3n)])] h = some r := run_i (an := a74) Try.func74 (by kernel_rfl) (.trans (by kernel_rfl) hx)
noncomputable def B75_0 (base : Nat) : Body := fun l h => lay s75_0 l fun s => exCode (Et base) (run (Et base)) loopL a75_0 (subC [1, 1, 0, 1, 0, 0] (bodyC Try.f75)) s h (keepK s75_0 e75_0)
theorem B75_0_eq (base : Nat) (v0 : Option Addr) (v0n : Nat) (v1 : Option Addr) (v1n : Nat) (v5 : Int) (h : AH) : B75_0 base [some (vL v0 v0n), some (vL v1 v1n), some (vI v5)] h =
((if (decide (v5 < ((v0n : Nat) : Int))) = true then
(if 0 ≤ v5 ∧ v5 < ((v0n : Nat) : Int) then
((v0 : Option Addr)).bind fun a1 =>
((cell h a1.block (a1.off + Int.toNat v5 * 4)).bind (getI .i64)).bind fun n2 =>
((cell h a1.block ((a1.off + Int.toNat v5 * 4) + 1)).bind (getI .i64)).bind fun n3 =>
((cell h a1.block (((a1.off + Int.toNat v5 * 4) + 1) + 1)).bind getStr).bind fun s4 =>
((cell h a1.block ((((a1.off + Int.toNat v5 * 4) + 1) + 1) + 1)).bind getS).bind fun l5 =>
(if 0 ≤ v5 ∧ v5 < ((v1n : Nat) : Int) then
((v1 : Option Addr)).bind fun a6 =>
((cell h a6.block (a6.off + Int.toNat v5 * 4)).bind (getI .i64)).bind fun n7 =>
((cell h a6.block ((a6.off + Int.toNat v5 * 4) + 1)).bind (getI .i64)).bind fun n8 =>
((cell h a6.block (((a6.off + Int.toNat v5 * 4) + 1) + 1)).bind getStr).bind fun s9 =>
((cell h a6.block ((((a6.off + Int.toNat v5 * 4) + 1) + 1) + 1)).bind getS).bind fun l10 =>
(run (Et base) 21 [(.agg #[(.int .i64 n2), (.int .i64 n3), (.string s4), (.slice l5.1 l5.2 l5.2)]), (.agg #[(.int .i64 n7), (.int .i64 n8), (.string s9), (.slice l10.1 l10.2 l10.2)])] h).bind fun r11 =>
((some r11.1).bind getB).bind fun b12 =>
(if (!b12) = true then
some (1, [some (.bool false)], r11.2)
else
some (0, [some (.slice v0 v0n v0n), some (.slice v1 v1n v1n), some (.int .i64 (IntKind.wrap .i64 (v5 + (1 : Int))))], r11.2))
else none)
else none)
else
some (2, [], h)) : Option (Nat × Slots × AH)) := by kernel_rfl
theorem r75 {base : Nat} {v0 : Option Addr} {v0n : Nat} {v1 : Option Addr} {v1n : Nat} {h : AH} {r : Value × AH} (hx : ((if (((v0n : Nat) : Int) != ((v1n : Nat) : Int)) = true then
some ((.bool false), h)
else
(loopL (B75_0 base) [some (.slice v0 v0n v0n), some (.slice v1 v1n v1n), some (.int .i64 (0 : Int))] h).bind fun q1 =>
(if q1.1 = 1 then
((sget q1.2.1 0).bind getB).bind fun b2 =>
some ((.bool b2), q1.2.2)
else
(if q1.1 = 2 then
some ((.bool true), q1.2.2)
else
none)))) = some r) : run (Et base) 75 [(vL v0 v0n), (vL v1 v1n)] h = some r := run_i (an := a75) Try.func75 (by kernel_rfl) (.trans (by kernel_rfl) hx)
noncomputable def B76_0 (base : Nat) : Body := fun l h => lay s76_0 l fun s => exCode (Et base) (run (Et base)) loopL a76_0 (subC [1, 0, 1, 0, 0] (bodyC Try.f76)) s h (keepK s76_0 e76_0)
theorem B76_0_eq (base : Nat) (v0 : Option Addr) (v0n : Nat) (v1 : Int) (v5 : Int) (h : AH) : B76_0 base [some (vL v0 v0n), some (vI v1), some (vI v5)] h =
((if (decide (v5 < ((v0n : Nat) : Int))) = true then
(if 0 ≤ v5 ∧ v5 < ((v0n : Nat) : Int) then
((v0 : Option Addr)).bind fun a1 =>
(wr base h a1.block (a1.off + Int.toNat v5 * 1) [(.int .i64 v1)]).bind fun h2 =>
some (0, [some (.slice v0 v0n v0n), some (.int .i64 (IntKind.wrap .i64 (v1 + (1 : Int)))), some (.int .i64 (IntKind.wrap .i64 (v5 + (1 : Int))))], h2)
else none)
else
some (2, [some (.int .i64 v1)], h)) : Option (Nat × Slots × AH)) := by kernel_rfl
theorem r76 {base : Nat} {v0 : Option Addr} {v0n : Nat} {v1 : Int} {h : AH} {r : Value × AH} (hx : ((loopL (B76_0 base) [some (.slice v0 v0n v0n), some (.int .i64 v1), some (.int .i64 (0 : Int))] h).bind fun q1 =>
(if q1.1 = 2 then
((sget q1.2.1 0).bind (getI .i64)).bind fun n2 =>
some ((.int .i64 n2), q1.2.2)
else
none)) = some r) : run (Et base) 76 [(vL v0 v0n), (vI v1)] h = some r := run_i (an := a76) Try.func76 (by kernel_rfl) (.trans (by kernel_rfl) hx)
noncomputable def B77_0 (base : Nat) : Body := fun l h => lay s77_0 l fun s => exCode (Et base) (run (Et base)) loopL a77_0 (subC [1, 1, 1, 0, 0, 0] (bodyC Try.f77)) s h (keepK s77_0 e77_0)
theorem B77_0_eq (base : Nat) (v0 : Int) (v3 : ByteArray) (h : AH) : B77_0 base [some (vI v0), some (vT v3)] h =
((if (decide (v0 > (0 : Int))) = true then
(some (h ++ [some ⟨[(.int .u8 (IntKind.wrap .u8 (IntKind.wrap .i64 ((48 : Int) + (Int.tmod v0 (10 : Int))))))], 5⟩])).bind fun h1 =>
((rawAt h1 (some ⟨(List.length h), 0, none⟩) 1).bind u8s).bind fun z2 =>
(if (bstr z2).size + v3.size ≤ 9223372036854775807 then
some (0, [some (.int .i64 (IntKind.wrap .i64 (Int.tdiv v0 (10 : Int)))), some (.string ((bstr z2) ++ v3))], h1)
else none)
else
some (2, [some (.string v3)], h)) : Option (Nat × Slots × AH)) := by kernel_rfl
theorem r77 {base : Nat} {v0 : Int} {h : AH} {r : Value × AH} (hx : ((if (decide (v0 ≤ (0 : Int))) = true then
some ((.string (⟨#[109, 48]⟩ : ByteArray)), h)
else
(loopL (B77_0 base) [some (.int .i64 v0), some (.string (⟨#[]⟩ : ByteArray))] h).bind fun q1 =>
(if q1.1 = 2 then
((sget q1.2.1 0).bind getStr).bind fun s2 =>
(if (⟨#[109]⟩ : ByteArray).size + s2.size ≤ 9223372036854775807 then
some ((.string ((⟨#[109]⟩ : ByteArray) ++ s2)), q1.2.2)
else none)
else
none))) = some r) : run (Et base) 77 [(vI v0)] h = some r := run_i (an := a77) Try.func77 (by kernel_rfl) (.trans (by kernel_rfl) hx)
noncomputable def B78_0 (base : Nat) : Body := fun l h => lay s78_0 l fun s => exCode (Et base) (run (Et base)) loopL a78_0 (subC [1, 0, 1, 0, 0] (bodyC Try.f78)) s h (keepK s78_0 e78_0)
theorem B78_0_eq (base : Nat) (v0 : Option Addr) (v0n : Nat) (v1 : Int) (v5 : Int) (h : AH) : B78_0 base [some (vL v0 v0n), some (vI v1), some (vI v5)] h =
((if (decide (v5 < ((v0n : Nat) : Int))) = true then
(if 0 ≤ v5 ∧ v5 < ((v0n : Nat) : Int) then
((v0 : Option Addr)).bind fun a1 =>
(wr base h a1.block ((a1.off + Int.toNat v5 * 4) + 0) [(.int .i64 v1)]).bind fun h2 =>
(if 0 ≤ v5 ∧ v5 < ((v0n : Nat) : Int) then
((v0 : Option Addr)).bind fun a3 =>
(wr base h2 a3.block ((a3.off + Int.toNat v5 * 4) + 1) [(.int .i64 (IntKind.wrap .i64 (v1 + (1 : Int))))]).bind fun h4 =>
(run (Et base) 77 [(.int .i64 (IntKind.wrap .i64 ((IntKind.wrap .i64 (v1 + (1 : Int))) + (1 : Int))))] h4).bind fun r5 =>
((some r5.1).bind getStr).bind fun s6 =>
(if 0 ≤ v5 ∧ v5 < ((v0n : Nat) : Int) then
((v0 : Option Addr)).bind fun a7 =>
(wr base r5.2 a7.block ((a7.off + Int.toNat v5 * 4) + 2) [(.string s6)]).bind fun h8 =>
(if 0 ≤ v5 ∧ v5 < ((v0n : Nat) : Int) then
((v0 : Option Addr)).bind fun a9 =>
((cell h8 a9.block ((a9.off + Int.toNat v5 * 4) + 3)).bind getS).bind fun l10 =>
(run (Et base) 78 [(.slice l10.1 l10.2 l10.2), (.int .i64 (IntKind.wrap .i64 ((IntKind.wrap .i64 ((IntKind.wrap .i64 (v1 + (1 : Int))) + (1 : Int))) + (1 : Int))))] h8).bind fun r11 =>
((some r11.1).bind (getI .i64)).bind fun n12 =>
some (0, [some (.slice v0 v0n v0n), some (.int .i64 n12), some (.int .i64 (IntKind.wrap .i64 (v5 + (1 : Int))))], r11.2)
else none)
else none)
else none)
else none)
else
some (2, [some (.int .i64 v1)], h)) : Option (Nat × Slots × AH)) := by kernel_rfl
theorem r78 {base : Nat} {v0 : Option Addr} {v0n : Nat} {v1 : Int} {h : AH} {r : Value × AH} (hx : ((loopL (B78_0 base) [some (.slice v0 v0n v0n), some (.int .i64 v1), some (.int .i64 (0 : Int))] h).bind fun q1 =>
(if q1.1 = 2 then
((sget q1.2.1 0).bind (getI .i64)).bind fun n2 =>
some ((.int .i64 n2), q1.2.2)
else
none)) = some r) : run (Et base) 78 [(vL v0 v0n), (vI v1)] h = some r := run_i (an := a78) Try.func78 (by kernel_rfl) (.trans (by kernel_rfl) hx)
noncomputable def B79_0 (base : Nat) : Body := fun l h => lay s79_0 l fun s => exCode (Et base) (run (Et base)) loopL a79_0 (subC [1, 0, 1, 0, 0] (bodyC Try.f79)) s h (keepK s79_0 e79_0)
theorem B79_0_eq (base : Nat) (v0 : Option Addr) (v0n : Nat) (v1 : Int) (v5 : Int) (h : AH) : B79_0 base [some (vL v0 v0n), some (vI v1), some (vI v5)] h =
((if (decide (v5 < ((v0n : Nat) : Int))) = true then
(if 0 ≤ v5 ∧ v5 < ((v0n : Nat) : Int) then
((v0 : Option Addr)).bind fun a1 =>
((cell h a1.block (a1.off + Int.toNat v5 * 1)).bind (getI .i64)).bind fun n2 =>
(if (n2 != v1) = true then
some (1, [some (.int .i64 (-1 : Int))], h)
else
some (0, [some (.slice v0 v0n v0n), some (.int .i64 (IntKind.wrap .i64 (v1 + (1 : Int)))), some (.int .i64 (IntKind.wrap .i64 (v5 + (1 : Int))))], h))
else none)
else
some (2, [some (.int .i64 v1)], h)) : Option (Nat × Slots × AH)) := by kernel_rfl
theorem r79 {base : Nat} {v0 : Option Addr} {v0n : Nat} {v1 : Int} {h : AH} {r : Value × AH} (hx : ((loopL (B79_0 base) [some (.slice v0 v0n v0n), some (.int .i64 v1), some (.int .i64 (0 : Int))] h).bind fun q1 =>
(if q1.1 = 1 then
((sget q1.2.1 0).bind (getI .i64)).bind fun n2 =>
some ((.int .i64 n2), q1.2.2)
else
(if q1.1 = 2 then
((sget q1.2.1 0).bind (getI .i64)).bind fun n3 =>
some ((.int .i64 n3), q1.2.2)
else
none))) = some r) : run (Et base) 79 [(vL v0 v0n), (vI v1)] h = some r := run_i (an := a79) Try.func79 (by kernel_rfl) (.trans (by kernel_rfl) hx)
theorem r80 {base : Nat} {v0_0 : Option Addr} {v0_0n : Nat} {v0_1 : Option Addr} {v0_1n : Nat} {v0_2 : Int} {h : AH} {r : Value × AH} (hx : (nw1 h 50 [(vL v0_0 v0_0n), (vL v0_1 v0_1n), (vI v0_2)] fun h1 =>
nw1 h1 50 [(vL none 0), (vL none 0), (vI 0)] fun h2 =>
nw1 h2 3 [] fun h3 =>
(gate (neA (some ⟨(List.length h), 0, none⟩) (List.length h2))
(((cell h3 (List.length h) 0).bind getS).bind fun l4 =>
(app base h3 3 1 8 (some ⟨(List.length h2), 0, none⟩) 0 (rawAt h3 l4.1 (l4.2 * 1)) l4.2).bind fun p5 =>
((some p5.1).bind getS).bind fun l6 =>
(gate (neA (some ⟨(List.length h), 0, none⟩) (List.length p5.2))
(nw1 p5.2 3 [] fun h7 =>
(gate (neA (some ⟨(List.length h), 1, none⟩) (List.length p5.2))
((gate (neA (some ⟨(List.length h), 1, none⟩) (List.length h2))
((gate (sameA h3 h7 (some ⟨(List.length h), 1, none⟩) 1)
(((cell h7 (List.length h) 1).bind getS).bind fun l8 =>
(app base h7 3 1 8 (some ⟨(List.length p5.2), 0, none⟩) 0 (rawAt h7 l8.1 (l8.2 * 1)) l8.2).bind fun p9 =>
((some p9.1).bind getS).bind fun l10 =>
(gate (neA (some ⟨(List.length h), 2, none⟩) (List.length p5.2))
((gate (neA (some ⟨(List.length h), 2, none⟩) (List.length h2))
((gate (sameA h7 p9.2 (some ⟨(List.length h), 2, none⟩) 1)
((gate (sameA h3 p9.2 (some ⟨(List.length h), 2, none⟩) 1)
(((cell p9.2 (List.length h) 2).bind (getI .i64)).bind fun n11 =>
(wr base p9.2 (List.length h1) 0 [(vL l6.1 l6.2), (vL l10.1 l10.2), (vI n11)]).bind fun h12 =>
c_LLI h12 (List.length h1) 0 fun l13 l14 n15 =>
some ((.agg #[(vL l13.1 l13.2), (vL l14.1 l14.2), (vI n15)]), h12)))))))))))))))))))) = some r) : run (Et base) 80 [(.agg #[(vL v0_0 v0_0n), (vL v0_1 v0_1n), (vI v0_2)])] h = some r := run_i (an := a80) Try.func80 (by kernel_rfl) (.trans (by kernel_rfl) hx)
theorem r81 {base : Nat} {v0 : Option Addr} {v1_0 : Int} {v1_1 : Int} {v1_2 : ByteArray} {v1_3 : Option Addr} {v1_3n : Nat} {v2 : Int} {h : AH} {r : Value × AH} (hx : (nw1 h 39 [(vI v1_0), (vI v1_1), (vT v1_2), (vL v1_3 v1_3n)] fun h1 =>
nw1 h1 3 [] fun h2 =>
nw1 h2 22 [(vL none 0)] fun h3 =>
(wr base h3 (List.length h2) 0 [(vL (some ⟨(List.length h1), 0, none⟩) 0)]).bind fun h4 =>
c_IITL h4 (List.length h) 0 fun n5 n6 s7 l8 =>
(run (Et base) 72 [(vP (List.length h2)), (.pointer v0), (.agg #[(vI n5), (vI n6), (vT s7), (vL l8.1 l8.2)])] h4).bind fun r9 =>
(getTup 2 r9.1).bind fun l10 =>
l_IB l10 fun n11 b12 =>
((cell r9.2 (List.length h2) 0).bind getS).bind fun l13 =>
(if ((l13.2 : Nat) : Int) = ((l13.2 : Nat) : Int) ∧ 0 ≤ ((l13.2 : Nat) : Int) ∧ ((l13.2 : Nat) : Int) * 8 ≤ 140737488355328 ∧ ((l13.2 : Nat) : Int) ≤ 140737488355328 then
(some (r9.2 ++ [some ⟨rep [(vI 0)] (Int.toNat ((l13.2 : Nat) : Int)), 3⟩])).bind fun h14 =>
((cell h14 (List.length h2) 0).bind getS).bind fun l15 =>
(run (Et base) 137 [(vL l15.1 l15.2), (.slice (some ⟨(List.length r9.2), 0, none⟩) (Int.toNat ((l13.2 : Nat) : Int)) (Int.toNat ((l13.2 : Nat) : Int))), (vI n11), (vI (IntKind.wrap .i64 ((100000 : Int) + v2)))] h14).bind fun r16 =>
(getTup 0 r16.1).bind fun _ =>
(run (Et base) 138 [(vI n11), (vI (IntKind.wrap .i64 ((100000 : Int) + v2)))] r16.2).bind fun r17 =>
((some r17.1).bind (getI .i64)).bind fun n18 =>
some ((.tuple #[(.slice (some ⟨(List.length r9.2), 0, none⟩) (Int.toNat ((l13.2 : Nat) : Int)) (Int.toNat ((l13.2 : Nat) : Int))), (vI n18), (.bool b12)]), r17.2)
else none)) = some r) : run (Et base) 81 [(.pointer v0), (.agg #[(vI v1_0), (vI v1_1), (vT v1_2), (vL v1_3 v1_3n)]), (vI v2)] h = some r := run_i (an := a81) Try.func81 (by kernel_rfl) (.trans (by kernel_rfl) hx)
theorem r82 {base : Nat} {v0_0 : Option Addr} {v0_0n : Nat} {v0_1 : Option Addr} {v0_1n : Nat} {v0_2 : Int} {h : AH} {r : Value × AH} (hx : ((some (h ++ [some ⟨[(.slice v0_0 v0_0n v0_0n), (.slice v0_1 v0_1n v0_1n), (.int .i64 v0_2)], 50⟩])).bind fun h1 =>
(some (h1 ++ [some ⟨[(.slice none 0 0), (.slice none 0 0), (.int .i64 0)], 50⟩])).bind fun h2 =>
((cell h2 (List.length h) 0).bind getS).bind fun l3 =>
(run (Et base) 110 [(.slice l3.1 l3.2 l3.2)] h2).bind fun r4 =>
((some r4.1).bind getS).bind fun l5 =>
(gate (sameA h2 r4.2 (some ⟨(List.length h), 1, none⟩) 1)
(((cell r4.2 (List.length h) 1).bind getS).bind fun l6 =>
(run (Et base) 110 [(.slice l6.1 l6.2 l6.2)] r4.2).bind fun r7 =>
((some r7.1).bind getS).bind fun l8 =>
(gate (sameA r4.2 r7.2 (some ⟨(List.length h), 2, none⟩) 1)
((gate (sameA h2 r7.2 (some ⟨(List.length h), 2, none⟩) 1)
(((cell r7.2 (List.length h) 2).bind (getI .i64)).bind fun n9 =>
(wr base r7.2 (List.length h1) 0 [(.slice l5.1 l5.2 l5.2), (.slice l8.1 l8.2 l8.2), (.int .i64 n9)]).bind fun h10 =>
((cell h10 (List.length h1) 0).bind getS).bind fun l11 =>
((cell h10 (List.length h1) 1).bind getS).bind fun l12 =>
((cell h10 (List.length h1) 2).bind (getI .i64)).bind fun n13 =>
some ((.agg #[(.slice l11.1 l11.2 l11.2), (.slice l12.1 l12.2 l12.2), (.int .i64 n13)]), h10)))))))) = some r) : run (Et base) 82 [(.agg #[(vL v0_0 v0_0n), (vL v0_1 v0_1n), (vI v0_2)])] h = some r := run_i (an := a82) Try.func82 (by kernel_rfl) (.trans (by kernel_rfl) hx)
theorem r83 {base : Nat} {v0 : Int} {v1 : Int} {v2 : Int} {h : AH} {r : Value × AH} (hx : ((if (decide (v0 ≥ v1)) = true then
some ((.bool (decide (v0 ≤ v2))), h)
else
some ((.bool false), h))) = some r) : run (Et base) 83 [(vI v0), (vI v1), (vI v2)] h = some r := run_i (an := a83) Try.func83 (by kernel_rfl) (.trans (by kernel_rfl) hx)
theorem r87 {base : Nat} {v0 : Int} {v1 : Int} {v2 : Int} {h : AH} {r : Value × AH} (hx : ((if (decide (v0 ≥ v1)) = true then
some ((.bool (decide (v0 ≤ v2))), h)
else
some ((.bool false), h))) = some r) : run (Et base) 87 [(vI v0), (vI v1), (vI v2)] h = some r := run_i (an := a87) Try.func87 (by kernel_rfl) (.trans (by kernel_rfl) hx)
theorem r102 {base : Nat} {v0_0 : Int} {v0_1 : Int} {v0_2 : ByteArray} {v0_3 : Option Addr} {v0_3n : Nat} {h : AH} {r : Value × AH} (hx : ((some (h ++ [some ⟨[(.int .i64 v0_0), (.int .i64 v0_1), (.string v0_2), (.slice v0_3 v0_3n v0_3n)], 39⟩])).bind fun h1 =>
((cell h1 (List.length h) 0).bind (getI .i64)).bind fun n2 =>
((cell h1 (List.length h) 1).bind (getI .i64)).bind fun n3 =>
((cell h1 (List.length h) 2).bind getStr).bind fun s4 =>
((cell h1 (List.length h) 3).bind getS).bind fun l5 =>
(run (Et base) 162 [(.agg #[(.int .i64 n2), (.int .i64 n3), (.string s4), (.slice l5.1 l5.2 l5.2)]), (.int .i64 (1 : Int)), (.int .i64 (0 : Int))] h1).bind fun r6 =>
(getTup 2 r6.1).bind fun l7 =>
((l7[0]?).bind (getI .i64)).bind fun n8 =>
((l7[1]?).bind getB).bind fun b9 =>
some ((.bool b9), r6.2)) = some r) : run (Et base) 102 [(.agg #[(vI v0_0), (vI v0_1), (vT v0_2), (vL v0_3 v0_3n)])] h = some r := run_i (an := a102) Try.func102 (by kernel_rfl) (.trans (by kernel_rfl) hx)
theorem r110 {base : Nat} {v0 : Option Addr} {v0n : Nat} {h : AH} {r : Value × AH} (hx : ((app base h 3 1 8 none 0 (rawAt h v0 (v0n * 1)) v0n).bind fun p1 =>
((some p1.1).bind getS).bind fun l2 =>
some ((.slice l2.1 l2.2 l2.2), p1.2)) = some r) : run (Et base) 110 [(vL v0 v0n)] h = some r := run_i (an := a110) Try.func110 (by kernel_rfl) (.trans (by kernel_rfl) hx)
noncomputable def B131_0 (base : Nat) : Body := fun l h => lay s131_0 l fun s => exCode (Et base) (run (Et base)) loopL a131_0 (subC [1, 1, 1, 0, 1, 0, 0] (bodyC Try.f131)) s h (keepK s131_0 e131_0)
theorem B131_0_eq (base : Nat) (v1 : Int) (v2 : Int) (v3 : Addr) (v7 : Int) (h : AH) : B131_0 base [some (vI v1), some (vI v2), some (vA v3), some (vI v7)] h =
((((cell h v3.block (v3.off + 3)).bind getS).bind fun l2 =>
(if (decide (v7 < ((l2.2 : Nat) : Int))) = true then
some (.inl ([some (vI v1), some (vI v2), some (vA v3), some (vI v7), some (.bool (decide (v2 ≥ (0 : Int))))], h))
else
some (.inl ([some (vI v1), some (vI v2), some (vA v3), some (vI v7), some (.bool false)], h)))).bind fun j1 => joinK j1 fun j1 =>
j_IIAIB j1.1 fun n3 n4 d5 n6 b7 =>
(if b7 = true then
((cell j1.2 d5.block (d5.off + 3)).bind getS).bind fun l8 =>
(if 0 ≤ n6 ∧ n6 < ((l8.2 : Nat) : Int) then
((l8.1 : Option Addr)).bind fun a9 =>
c_IITL j1.2 a9.block (a9.off + Int.toNat n6 * 4) fun n10 n11 s12 l13 =>
(run (Et base) 131 [(.agg #[(vI n10), (vI n11), (vT s12), (vL l13.1 l13.2)]), (vI (IntKind.wrap .i64 (n3 - (1 : Int)))), (vI n4)] j1.2).bind fun r14 =>
((some r14.1).bind (getI .i64)).bind fun n15 =>
some (0, [some (vI n3), some (vI n15), some (vA d5), some (vI (IntKind.wrap .i64 (n6 + (1 : Int))))], r14.2)
else none)
else
some (2, [some (vI n4)], j1.2)) : Option (Nat × Slots × AH)) := by kernel_rfl
theorem r131 {base : Nat} {v0_0 : Int} {v0_1 : Int} {v0_2 : ByteArray} {v0_3 : Option Addr} {v0_3n : Nat} {v1 : Int} {v2 : Int} {h : AH} {r : Value × AH} (hx : (nw1 h 39 [(vI v0_0), (vI v0_1), (vT v0_2), (vL v0_3 v0_3n)] fun h1 =>
((if (decide (v1 < (1 : Int))) = true then
some (.inl ([some (vI v1), some (vI v2), some (vP (List.length h)), some (.bool true)], h1))
else
(if (decide (v2 < (1 : Int))) = true then
some (.inl ([some (vI v1), some (vI v2), some (vP (List.length h)), some (.bool true)], h1))
else
c_IITL h1 (List.length h) 0 fun n3 n4 s5 l6 =>
(run (Et base) 173 [(.agg #[(vI n3), (vI n4), (vT s5), (vL l6.1 l6.2)])] h1).bind fun r7 =>
((some r7.1).bind getB).bind fun b8 =>
some (.inl ([some (vI v1), some (vI v2), some (vP (List.length h)), some (.bool (!b8))], r7.2))))).bind fun j2 => joinK j2 fun j2 =>
j_IIAB j2.1 fun n9 n10 d11 b12 =>
(if b12 = true then
some ((vI (-1 : Int)), j2.2)
else
(loopL (B131_0 base) [some (vI n9), some (vI (IntKind.wrap .i64 (n10 - (1 : Int)))), some (vA d11), some (vI (0 : Int))] j2.2).bind fun q13 =>
(if q13.1 = 2 then
((sget q13.2.1 0).bind (getI .i64)).bind fun n14 =>
some ((vI n14), q13.2.2)
else
none))) = some r) : run (Et base) 131 [(.agg #[(vI v0_0), (vI v0_1), (vT v0_2), (vL v0_3 v0_3n)]), (vI v1), (vI v2)] h = some r := run_i (an := a131) Try.func131 (by kernel_rfl) (.trans (by kernel_rfl) hx)
theorem r132 {base : Nat} {v0 : Int} {v1 : Int} {h : AH} {r : Value × AH} (hx : (((run (Et base) 83 [(.int .i64 v0), (.int .i64 (0 : Int)), (.int .i64 (6 : Int))] h).bind fun r2 =>
((some r2.1).bind getB).bind fun b3 =>
(if (!b3) = true then
some (.inl ([some (.int .i64 v0), some (.int .i64 v1), some (.bool true)], r2.2))
else
(run (Et base) 83 [(.int .i64 v1), (.int .i64 (0 : Int)), (.int .i64 (4000000 : Int))] r2.2).bind fun r4 =>
((some r4.1).bind getB).bind fun b5 =>
some (.inl ([some (.int .i64 v0), some (.int .i64 v1), some (.bool (!b5))], r4.2)))).bind fun j1 => joinK j1 fun j1 =>
((sget j1.1 0).bind (getI .i64)).bind fun n6 =>
((sget (j1.1.tail) 0).bind (getI .i64)).bind fun n7 =>
((sget (j1.1.tail.tail) 0).bind getB).bind fun b8 =>
(if b8 = true then
some ((.int .i64 (0 : Int)), j1.2)
else
some ((.int .i64 (IntKind.wrap .i64 ((IntKind.wrap .i64 (n7 * (8 : Int))) + n6))), j1.2))) = some r) : run (Et base) 132 [(vI v0), (vI v1)] h = some r := run_i (an := a132) Try.func132 (by kernel_rfl) (.trans (by kernel_rfl) hx)
theorem r133 {base : Nat} {v0 : Option Addr} {v0n : Nat} {v1 : ByteArray} {h : AH} {r : Value × AH} (hx : ((some (h ++ [some ⟨[], 9⟩])).bind fun h1 =>
(app base h1 9 1 16 (some ⟨(List.length h), 0, none⟩) 0 (rawAt h1 v0 (v0n * 1)) v0n).bind fun p2 =>
((some p2.1).bind getS).bind fun l3 =>
(run (Et base) 140 [(.slice v0 v0n v0n), (.string v1)] p2.2).bind fun r4 =>
((some r4.1).bind (getI .i64)).bind fun n5 =>
((if (decide (n5 ≥ (0 : Int))) = true then
some (.inl ([some (.string v1), some (.slice l3.1 l3.2 l3.2), some (.int .i64 n5), some (.bool true)], r4.2))
else
(run (Et base) 139 [(.string v1)] r4.2).bind fun r7 =>
((some r7.1).bind getB).bind fun b8 =>
(if (!b8) = true then
some (.inl ([some (.string v1), some (.slice l3.1 l3.2 l3.2), some (.int .i64 n5), some (.bool true)], r7.2))
else
some (.inl ([some (.string v1), some (.slice l3.1 l3.2 l3.2), some (.int .i64 n5), some (.bool (decide (((v0n : Nat) : Int) ≥ (200 : Int))))], r7.2))))).bind fun j6 => joinK j6 fun j6 =>
((sget j6.1 0).bind getStr).bind fun s9 =>
((sget (j6.1.tail) 0).bind getS).bind fun l10 =>
((sget (j6.1.tail.tail) 0).bind (getI .i64)).bind fun n11 =>
((sget (j6.1.tail.tail.tail) 0).bind getB).bind fun b12 =>
(if b12 = true then
some ((.tuple #[(.slice l10.1 l10.2 l10.2), (.int .i64 n11)]), j6.2)
else
(some (j6.2 ++ [some ⟨[(.string s9)], 9⟩])).bind fun h13 =>
(app base h13 9 1 16 l10.1 l10.2 (rawAt h13 (some ⟨(List.length j6.2), 0, none⟩) (1 * 1)) 1).bind fun p14 =>
((some p14.1).bind getS).bind fun l15 =>
some ((.tuple #[(.slice l15.1 l15.2 l15.2), (.int .i64 ((l10.2 : Nat) : Int))]), p14.2))) = some r) : run (Et base) 133 [(vL v0 v0n), (vT v1)] h = some r := run_i (an := a133) Try.func133 (by kernel_rfl) (.trans (by kernel_rfl) hx)
end Go.Proofs.Ytjmkbglnjklbcaa.Am
