/- What each of these functions comes to on the abstract machine, one equation a function and one a loop.
Conditions: none. -/
import Derived.Test.YtjmkbglnjklbcaaTb
set_option linter.unusedVariables false
set_option maxRecDepth 100000
namespace Go.Proofs.Ytjmkbglnjklbcaa.Am
open Go Go.RowKit
noncomputable abbrev qf3 (base : Nat) (v0_0 : Option Addr) (v0_0n : Nat) (v1 : Option Addr) (v1n : Nat) (v2_0 : Int) (v2_1 : Int) (v2_2 : ByteArray) (v2_3 : Option Addr) (v2_3n : Nat) (h : AH) : Option (Value × AH) :=
nw1 h 24 [(vL v0_0 v0_0n)] fun h1 =>
nw1 h1 28 [(vI v2_0), (vI v2_1), (vT v2_2), (vL v2_3 v2_3n)] fun h2 =>
((cell h2 (List.length h) 0).bind getS).bind fun l3 =>
(run (Et base) 11 [(.agg #[(vL l3.1 l3.2)]), (vI (1048576 : Int))] h2).bind fun r4 =>
((some r4.1).bind (getI .i64)).bind fun n5 =>
(if (decide (n5 < (0 : Int))) = true then
some ((.bool true), r4.2)
else
(run (Et base) 12 [(vL v1 v1n), (vI n5)] r4.2).bind fun r6 =>
((some r6.1).bind (getI .i64)).bind fun n7 =>
(if (decide (n7 < (0 : Int))) = true then
some ((.bool true), r6.2)
else
c_IITL r6.2 (List.length h1) 0 fun n8 n9 s10 l11 =>
(run (Et base) 13 [(.agg #[(vI n8), (vI n9), (vT s10), (vL l11.1 l11.2)]), (vI n7)] r6.2).bind fun r12 =>
((some r12.1).bind (getI .i64)).bind fun n13 =>
(if (decide (n13 < (0 : Int))) = true then
some ((.bool true), r12.2)
else
((cell r12.2 (List.length h) 0).bind getS).bind fun l14 =>
(run (Et base) 15 [(.agg #[(vL l14.1 l14.2)])] r12.2).bind fun r15 =>
gG (some r15.1) 1 fun l16 =>
((l16[0]?).bind getS).bind fun l17 =>
(run (Et base) 16 [(vL v1 v1n)] r15.2).bind fun r18 =>
((some r18.1).bind getS).bind fun l19 =>
(gate (sameA r15.2 r18.2 (some ⟨(List.length h1), 0, none⟩) 4)
((gate (sameA r12.2 r18.2 (some ⟨(List.length h1), 0, none⟩) 4)
(c_IITL r18.2 (List.length h1) 0 fun n20 n21 s22 l23 =>
(run (Et base) 17 [(.agg #[(vI n20), (vI n21), (vT s22), (vL l23.1 l23.2)])] r18.2).bind fun r24 =>
gG (some r24.1) 4 fun l25 =>
l_IITL l25 fun n26 n27 s28 l29 =>
(run (Et base) 14 [(.agg #[(vL l17.1 l17.2)]), (vL l19.1 l19.2), (.agg #[(vI n26), (vI n27), (vT s28), (vL l29.1 l29.2)])] r24.2).bind fun r30 =>
(getTup 4 r30.1).bind fun l31 =>
gG (l31[0]?) 1 fun l32 =>
((l32[0]?).bind getS).bind fun l33 =>
((l31[1]?).bind getS).bind fun l34 =>
((l31[2]?).bind (getI .i64)).bind fun n35 =>
((l31[3]?).bind getB).bind fun b36 =>
(gate (neA (some ⟨(List.length h1), 0, none⟩) (List.length r30.2))
((gate (neA (some ⟨(List.length h), 0, none⟩) (List.length r30.2))
(nw1 r30.2 32 [(vL none 0)] fun h37 =>
(wr base h37 (List.length r30.2) 0 [(vL l33.1 l33.2)]).bind fun h38 =>
((cell h38 (List.length h) 0).bind getS).bind fun l39 =>
(run (Et base) 15 [(.agg #[(vL l39.1 l39.2)])] h38).bind fun r40 =>
gG (some r40.1) 1 fun l41 =>
((l41[0]?).bind getS).bind fun l42 =>
nw1 r40.2 32 [(vL none 0)] fun h43 =>
(wr base h43 (List.length r40.2) 0 [(vL l42.1 l42.2)]).bind fun h44 =>
(run (Et base) 16 [(vL v1 v1n)] h44).bind fun r45 =>
((some r45.1).bind getS).bind fun l46 =>
c_IITL r45.2 (List.length h1) 0 fun n47 n48 s49 l50 =>
(run (Et base) 17 [(.agg #[(vI n47), (vI n48), (vT s49), (vL l50.1 l50.2)])] r45.2).bind fun r51 =>
gG (some r51.1) 4 fun l52 =>
l_IITL l52 fun n53 n54 s55 l56 =>
nw1 r51.2 39 [(vI 0), (vI 0), (vT ⟨#[]⟩), (vL none 0)] fun h57 =>
(wr base h57 (List.length r51.2) 0 [(vI n53), (vI n54), (vT s55), (vL l56.1 l56.2)]).bind fun h58 =>
((cell h58 (List.length r40.2) 0).bind getS).bind fun l59 =>
c_IITL h58 (List.length r51.2) 0 fun n60 n61 s62 l63 =>
(run (Et base) 18 [(.agg #[(vL l59.1 l59.2)]), (vL l46.1 l46.2), (.agg #[(vI n60), (vI n61), (vT s62), (vL l63.1 l63.2)])] h58).bind fun r64 =>
(getTup 4 r64.1).bind fun l65 =>
gG (l65[0]?) 1 fun l66 =>
((l66[0]?).bind getS).bind fun l67 =>
((l65[1]?).bind getS).bind fun l68 =>
((l65[2]?).bind (getI .i64)).bind fun n69 =>
((l65[3]?).bind getB).bind fun b70 =>
nw1 r64.2 32 [(vL none 0)] fun h71 =>
(wr base h71 (List.length r64.2) 0 [(vL l67.1 l67.2)]).bind fun h72 =>
(((cell h72 (List.length r64.2) 0).bind getS).bind fun l74 =>
((cell h72 (List.length r30.2) 0).bind getS).bind fun l75 =>
(run (Et base) 19 [(.agg #[(vL l74.1 l74.2)]), (.agg #[(vL l75.1 l75.2)])] h72).bind fun r76 =>
((some r76.1).bind getB).bind fun b77 =>
(if (!b77) = true then
some (.inl ([some (vL v1 v1n), some (vP (List.length h)), some (vP (List.length h1)), some (vP (List.length r30.2)), some (vL l34.1 l34.2), some (vI n35), some (.bool b36), some (vP (List.length r40.2)), some (vL l46.1 l46.2), some (vP (List.length r51.2)), some (vP (List.length r64.2)), some (vL l68.1 l68.2), some (vI n69), some (.bool b70), some (.bool true)], r76.2))
else
(run (Et base) 20 [(vL l68.1 l68.2), (vL l34.1 l34.2)] r76.2).bind fun r78 =>
((some r78.1).bind getB).bind fun b79 =>
(if (!b79) = true then
some (.inl ([some (vL v1 v1n), some (vP (List.length h)), some (vP (List.length h1)), some (vP (List.length r30.2)), some (vL l34.1 l34.2), some (vI n35), some (.bool b36), some (vP (List.length r40.2)), some (vL l46.1 l46.2), some (vP (List.length r51.2)), some (vP (List.length r64.2)), some (vL l68.1 l68.2), some (vI n69), some (.bool b70), some (.bool true)], r78.2))
else
(if (n69 != n35) = true then
some (.inl ([some (vL v1 v1n), some (vP (List.length h)), some (vP (List.length h1)), some (vP (List.length r30.2)), some (vL l34.1 l34.2), some (vI n35), some (.bool b36), some (vP (List.length r40.2)), some (vL l46.1 l46.2), some (vP (List.length r51.2)), some (vP (List.length r64.2)), some (vL l68.1 l68.2), some (vI n69), some (.bool b70), some (.bool true)], r78.2))
else
some (.inl ([some (vL v1 v1n), some (vP (List.length h)), some (vP (List.length h1)), some (vP (List.length r30.2)), some (vL l34.1 l34.2), some (vI n35), some (.bool b36), some (vP (List.length r40.2)), some (vL l46.1 l46.2), some (vP (List.length r51.2)), some (vP (List.length r64.2)), some (vL l68.1 l68.2), some (vI n69), some (.bool b70), some (.bool (!(b70 == b36)))], r78.2)))))).bind fun j73 => joinK j73 fun j73 =>
j_LAAALIBALAALIBB j73.1 fun l80 d81 d82 d83 l84 n85 b86 d87 l88 d89 d90 l91 n92 b93 b94 =>
(if b94 = true then
some ((.bool false), j73.2)
else
((cell j73.2 d87.block d87.off).bind getS).bind fun l95 =>
((cell j73.2 d81.block d81.off).bind getS).bind fun l96 =>
(run (Et base) 15 [(.agg #[(vL l96.1 l96.2)])] j73.2).bind fun r97 =>
gG (some r97.1) 1 fun l98 =>
((l98[0]?).bind getS).bind fun l99 =>
(gate (sameA j73.2 r97.2 (some d87) 1)
((run (Et base) 19 [(.agg #[(vL l95.1 l95.2)]), (.agg #[(vL l99.1 l99.2)])] r97.2).bind fun r100 =>
((some r100.1).bind getB).bind fun b101 =>
(if (!b101) = true then
some ((.bool false), r100.2)
else
(run (Et base) 16 [(vL l80.1 l80.2)] r100.2).bind fun r102 =>
((some r102.1).bind getS).bind fun l103 =>
(run (Et base) 20 [(vL l88.1 l88.2), (vL l103.1 l103.2)] r102.2).bind fun r104 =>
((some r104.1).bind getB).bind fun b105 =>
(if (!b105) = true then
some ((.bool false), r104.2)
else
c_IITL r104.2 d89.block d89.off fun n106 n107 s108 l109 =>
c_IITL r104.2 d82.block d82.off fun n110 n111 s112 l113 =>
(run (Et base) 17 [(.agg #[(vI n110), (vI n111), (vT s112), (vL l113.1 l113.2)])] r104.2).bind fun r114 =>
gG (some r114.1) 4 fun l115 =>
l_IITL l115 fun n116 n117 s118 l119 =>
(gate (sameA r104.2 r114.2 (some d89) 4)
((run (Et base) 21 [(.agg #[(vI n106), (vI n107), (vT s108), (vL l109.1 l109.2)]), (.agg #[(vI n116), (vI n117), (vT s118), (vL l119.1 l119.2)])] r114.2).bind fun r120 =>
((some r120.1).bind getB).bind fun b121 =>
(if (!b121) = true then
some ((.bool false), r120.2)
else
((cell r120.2 d87.block d87.off).bind getS).bind fun l122 =>
(run (Et base) 22 [(.agg #[(vL l122.1 l122.2)]), (vI (1 : Int))] r120.2).bind fun r123 =>
((some r123.1).bind (getI .i64)).bind fun n124 =>
(run (Et base) 23 [(vL l88.1 l88.2), (vI n124)] r123.2).bind fun r125 =>
((some r125.1).bind (getI .i64)).bind fun n126 =>
c_IITL r125.2 d89.block d89.off fun n127 n128 s129 l130 =>
(run (Et base) 24 [(.agg #[(vI n127), (vI n128), (vT s129), (vL l130.1 l130.2)]), (vI n126)] r125.2).bind fun r131 =>
((some r131.1).bind (getI .i64)).bind fun n132 =>
((if (decide (n132 < (0 : Int))) = true then
some (.inl ([some (vL l80.1 l80.2), some (vA d81), some (vA d82), some (vA d83), some (vL l84.1 l84.2), some (vI n85), some (.bool b86), some (vA d90), some (vL l91.1 l91.2), some (.bool true)], r131.2))
else
((cell r131.2 d90.block d90.off).bind getS).bind fun l134 =>
((cell r131.2 d83.block d83.off).bind getS).bind fun l135 =>
(run (Et base) 19 [(.agg #[(vL l134.1 l134.2)]), (.agg #[(vL l135.1 l135.2)])] r131.2).bind fun r136 =>
((some r136.1).bind getB).bind fun b137 =>
(if (!b137) = true then
some (.inl ([some (vL l80.1 l80.2), some (vA d81), some (vA d82), some (vA d83), some (vL l84.1 l84.2), some (vI n85), some (.bool b86), some (vA d90), some (vL l91.1 l91.2), some (.bool true)], r136.2))
else
(run (Et base) 20 [(vL l91.1 l91.2), (vL l84.1 l84.2)] r136.2).bind fun r138 =>
((some r138.1).bind getB).bind fun b139 =>
(if (!b139) = true then
some (.inl ([some (vL l80.1 l80.2), some (vA d81), some (vA d82), some (vA d83), some (vL l84.1 l84.2), some (vI n85), some (.bool b86), some (vA d90), some (vL l91.1 l91.2), some (.bool true)], r138.2))
else
(if (n92 != n85) = true then
some (.inl ([some (vL l80.1 l80.2), some (vA d81), some (vA d82), some (vA d83), some (vL l84.1 l84.2), some (vI n85), some (.bool b86), some (vA d90), some (vL l91.1 l91.2), some (.bool true)], r138.2))
else
some (.inl ([some (vL l80.1 l80.2), some (vA d81), some (vA d82), some (vA d83), some (vL l84.1 l84.2), some (vI n85), some (.bool b86), some (vA d90), some (vL l91.1 l91.2), some (.bool (!(b93 == b86)))], r138.2))))))).bind fun j133 => joinK j133 fun j133 =>
j_LAAALIBALB j133.1 fun l140 d141 d142 d143 l144 n145 b146 d147 l148 b149 =>
(if b149 = true then
some ((.bool false), j133.2)
else
((cell j133.2 d147.block d147.off).bind getS).bind fun l150 =>
(run (Et base) 22 [(.agg #[(vL l150.1 l150.2)]), (vI (1 : Int))] j133.2).bind fun r151 =>
((some r151.1).bind (getI .i64)).bind fun n152 =>
(run (Et base) 23 [(vL l148.1 l148.2), (vI n152)] r151.2).bind fun r153 =>
((some r153.1).bind (getI .i64)).bind fun n154 =>
((cell r153.2 d147.block d147.off).bind getS).bind fun l155 =>
(run (Et base) 25 [(.agg #[(vL l155.1 l155.2)]), (vI (1 : Int))] r153.2).bind fun r156 =>
((some r156.1).bind (getI .i64)).bind fun n157 =>
(if (decide (n157 < (0 : Int))) = true then
some ((.bool false), r156.2)
else
(run (Et base) 26 [(vL l148.1 l148.2), (vI n157)] r156.2).bind fun r158 =>
((some r158.1).bind (getI .i64)).bind fun n159 =>
(if (decide (n159 < (0 : Int))) = true then
some ((.bool false), r158.2)
else
(if (n159 != n154) = true then
some ((.bool false), r158.2)
else
((cell r158.2 d141.block d141.off).bind getS).bind fun l160 =>
(run (Et base) 15 [(.agg #[(vL l160.1 l160.2)])] r158.2).bind fun r161 =>
gG (some r161.1) 1 fun l162 =>
((l162[0]?).bind getS).bind fun l163 =>
(run (Et base) 16 [(vL l140.1 l140.2)] r161.2).bind fun r164 =>
((some r164.1).bind getS).bind fun l165 =>
(gate (sameA r161.2 r164.2 (some d142) 4)
((gate (sameA r158.2 r164.2 (some d142) 4)
(c_IITL r164.2 d142.block d142.off fun n166 n167 s168 l169 =>
(run (Et base) 17 [(.agg #[(vI n166), (vI n167), (vT s168), (vL l169.1 l169.2)])] r164.2).bind fun r170 =>
gG (some r170.1) 4 fun l171 =>
l_IITL l171 fun n172 n173 s174 l175 =>
(run (Et base) 18 [(.agg #[(vL l163.1 l163.2)]), (vL l165.1 l165.2), (.agg #[(vI n172), (vI n173), (vT s174), (vL l175.1 l175.2)])] r170.2).bind fun r176 =>
(getTup 4 r176.1).bind fun l177 =>
gG (l177[0]?) 1 fun l178 =>
((l178[0]?).bind getS).bind fun l179 =>
((l177[1]?).bind getS).bind fun l180 =>
((l177[2]?).bind (getI .i64)).bind fun n181 =>
((l177[3]?).bind getB).bind fun b182 =>
(gate (neA (some d142) (List.length r176.2))
((gate (neA (some d141) (List.length r176.2))
(nw1 r176.2 32 [(vL none 0)] fun h183 =>
(wr base h183 (List.length r176.2) 0 [(vL l179.1 l179.2)]).bind fun h184 =>
(((cell h184 (List.length r176.2) 0).bind getS).bind fun l186 =>
((cell h184 d143.block d143.off).bind getS).bind fun l187 =>
(run (Et base) 19 [(.agg #[(vL l186.1 l186.2)]), (.agg #[(vL l187.1 l187.2)])] h184).bind fun r188 =>
((some r188.1).bind getB).bind fun b189 =>
(if (!b189) = true then
some (.inl ([some (vA d147), some (vL l148.1 l148.2), some (vI n154), some (.bool true)], r188.2))
else
(run (Et base) 20 [(vL l180.1 l180.2), (vL l144.1 l144.2)] r188.2).bind fun r190 =>
((some r190.1).bind getB).bind fun b191 =>
(if (!b191) = true then
some (.inl ([some (vA d147), some (vL l148.1 l148.2), some (vI n154), some (.bool true)], r190.2))
else
(if (n181 != n145) = true then
some (.inl ([some (vA d147), some (vL l148.1 l148.2), some (vI n154), some (.bool true)], r190.2))
else
some (.inl ([some (vA d147), some (vL l148.1 l148.2), some (vI n154), some (.bool (!(b182 == b146)))], r190.2)))))).bind fun j185 => joinK j185 fun j185 =>
j_ALIB j185.1 fun d192 l193 n194 b195 =>
(if b195 = true then
some ((.bool false), j185.2)
else
((cell j185.2 d192.block d192.off).bind getS).bind fun l196 =>
(run (Et base) 25 [(.agg #[(vL l196.1 l196.2)]), (vI (1 : Int))] j185.2).bind fun r197 =>
((some r197.1).bind (getI .i64)).bind fun n198 =>
(if (decide (n198 < (0 : Int))) = true then
some ((.bool false), r197.2)
else
(run (Et base) 26 [(vL l193.1 l193.2), (vI n198)] r197.2).bind fun r199 =>
((some r199.1).bind (getI .i64)).bind fun n200 =>
(if (decide (n200 < (0 : Int))) = true then
some ((.bool false), r199.2)
else
(if (n200 != n194) = true then
some ((.bool false), r199.2)
else
some ((.bool true), r199.2))))))))))))))))))))))))))))))))))))
theorem r3 {base : Nat} {v0_0 : Option Addr} {v0_0n : Nat} {v1 : Option Addr} {v1n : Nat} {v2_0 : Int} {v2_1 : Int} {v2_2 : ByteArray} {v2_3 : Option Addr} {v2_3n : Nat} {h : AH} {r : Value × AH} (hx : qf3 base v0_0 v0_0n v1 v1n v2_0 v2_1 v2_2 v2_3 v2_3n h = some r) : run (Et base) 3 [(.agg #[(vL v0_0 v0_0n)]), (vL v1 v1n), (.agg #[(vI v2_0), (vI v2_1), (vT v2_2), (vL v2_3 v2_3n)])] h = some r := run_i (an := a3) Try.func3 (by kernel_rfl) (.trans (by kernel_rfl) hx)
theorem r11 {base : Nat} {v0_0 : Option Addr} {v0_0n : Nat} {v1 : Int} {h : AH} {r : Value × AH} (hx : ((some (h ++ [some ⟨[(.slice v0_0 v0_0n v0_0n)], 24⟩])).bind fun h1 =>
((cell h1 (List.length h) 0).bind getS).bind fun l2 =>
(run (Et base) 67 [(.slice l2.1 l2.2 l2.2), (.int .i64 v1)] h1).bind fun r3 =>
((some r3.1).bind (getI .i64)).bind fun n4 =>
(if (decide (n4 < (0 : Int))) = true then
some ((.int .i64 (-1 : Int)), r3.2)
else
some ((.int .i64 n4), r3.2))) = some r) : run (Et base) 11 [(.agg #[(vL v0_0 v0_0n)]), (vI v1)] h = some r := run_i (an := a11) Try.func11 (by kernel_rfl) (.trans (by kernel_rfl) hx)
noncomputable def B12_0 (base : Nat) : Body := fun l h => lay s12_0 l fun s => exCode (Et base) (run (Et base)) loopL a12_0 (subC [1, 1, 1, 0, 1, 0, 0] (bodyC Try.f12)) s h (keepK s12_0 e12_0)
theorem B12_0_eq (base : Nat) (v0 : Option Addr) (v0n : Nat) (v1 : Int) (v5 : Int) (h : AH) : B12_0 base [some (vL v0 v0n), some (vI v1), some (vI v5)] h =
((if (decide (v5 < ((v0n : Nat) : Int))) = true then
(if 0 ≤ v5 ∧ v5 < ((v0n : Nat) : Int) then
((v0 : Option Addr)).bind fun a1 =>
((cell h a1.block (a1.off + Int.toNat v5 * 1)).bind getStr).bind fun s2 =>
(if (decide ((IntKind.wrap .i64 (v1 - (s2.size : Int))) < (0 : Int))) = true then
some (1, [some (.int .i64 (-1 : Int))], h)
else
some (0, [some (.slice v0 v0n v0n), some (.int .i64 (IntKind.wrap .i64 (v1 - (s2.size : Int)))), some (.int .i64 (IntKind.wrap .i64 (v5 + (1 : Int))))], h))
else none)
else
some (2, [some (.int .i64 v1)], h)) : Option (Nat × Slots × AH)) := by kernel_rfl
theorem r12 {base : Nat} {v0 : Option Addr} {v0n : Nat} {v1 : Int} {h : AH} {r : Value × AH} (hx : ((if (decide ((IntKind.wrap .i64 (v1 - ((v0n : Nat) : Int))) < (0 : Int))) = true then
some ((.int .i64 (-1 : Int)), h)
else
(loopL (B12_0 base) [some (.slice v0 v0n v0n), some (.int .i64 (IntKind.wrap .i64 (v1 - ((v0n : Nat) : Int)))), some (.int .i64 (0 : Int))] h).bind fun q1 =>
(if q1.1 = 1 then
((sget q1.2.1 0).bind (getI .i64)).bind fun n2 =>
some ((.int .i64 n2), q1.2.2)
else
(if q1.1 = 2 then
((sget q1.2.1 0).bind (getI .i64)).bind fun n3 =>
some ((.int .i64 n3), q1.2.2)
else
none)))) = some r) : run (Et base) 12 [(vL v0 v0n), (vI v1)] h = some r := run_i (an := a12) Try.func12 (by kernel_rfl) (.trans (by kernel_rfl) hx)
theorem r13 {base : Nat} {v0_0 : Int} {v0_1 : Int} {v0_2 : ByteArray} {v0_3 : Option Addr} {v0_3n : Nat} {v1 : Int} {h : AH} {r : Value × AH} (hx : ((some (h ++ [some ⟨[(.int .i64 v0_0), (.int .i64 v0_1), (.string v0_2), (.slice v0_3 v0_3n v0_3n)], 28⟩])).bind fun h1 =>
((cell h1 (List.length h) 2).bind getStr).bind fun s2 =>
(if (decide ((IntKind.wrap .i64 (v1 - (s2.size : Int))) < (0 : Int))) = true then
some ((.int .i64 (-1 : Int)), h1)
else
((cell h1 (List.length h) 3).bind getS).bind fun l3 =>
(run (Et base) 68 [(.slice l3.1 l3.2 l3.2), (.int .i64 (IntKind.wrap .i64 (v1 - (s2.size : Int))))] h1).bind fun r4 =>
((some r4.1).bind (getI .i64)).bind fun n5 =>
(if (decide (n5 < (0 : Int))) = true then
some ((.int .i64 (-1 : Int)), r4.2)
else
some ((.int .i64 n5), r4.2)))) = some r) : run (Et base) 13 [(.agg #[(vI v0_0), (vI v0_1), (vT v0_2), (vL v0_3 v0_3n)]), (vI v1)] h = some r := run_i (an := a13) Try.func13 (by kernel_rfl) (.trans (by kernel_rfl) hx)
noncomputable abbrev qf14 (base : Nat) (v0_0 : Option Addr) (v0_0n : Nat) (v1 : Option Addr) (v1n : Nat) (v2_0 : Int) (v2_1 : Int) (v2_2 : ByteArray) (v2_3 : Option Addr) (v2_3n : Nat) (h : AH) : Option (Value × AH) :=
nw1 h 32 [(vL v0_0 v0_0n)] fun h1 =>
nw1 h1 39 [(vI v2_0), (vI v2_1), (vT v2_2), (vL v2_3 v2_3n)] fun h2 =>
nw1 h2 32 [(vL none 0)] fun h3 =>
((cell h3 (List.length h) 0).bind getS).bind fun l4 =>
(run (Et base) 69 [(.agg #[(vL l4.1 l4.2)])] h3).bind fun r5 =>
gG (some r5.1) 1 fun l6 =>
((l6[0]?).bind getS).bind fun l7 =>
nw1 r5.2 32 [(vL none 0)] fun h8 =>
(wr base h8 (List.length r5.2) 0 [(vL l7.1 l7.2)]).bind fun h9 =>
nw1 h9 9 [] fun h10 =>
(app base h10 9 1 16 (some ⟨(List.length h9), 0, none⟩) 0 (rawAt h10 v1 (v1n * 1)) v1n).bind fun p11 =>
((some p11.1).bind getS).bind fun l12 =>
nw1 p11.2 25 [(vL none 0)] fun h13 =>
(wr base h13 (List.length p11.2) 0 [(vL l12.1 l12.2)]).bind fun h14 =>
(c_IITL h14 (List.length h1) 0 fun n16 n17 s18 l19 =>
(run (Et base) 70 [(.agg #[(vI n16), (vI n17), (vT s18), (vL l19.1 l19.2)])] h14).bind fun r20 =>
((some r20.1).bind getB).bind fun b21 =>
(if (!b21) = true then
some (.inl ([some (vL v1 v1n), some (vP (List.length h)), some (vP (List.length h1)), some (vP (List.length h2)), some (vP (List.length r5.2)), some (vP (List.length p11.2)), some (.bool true)], r20.2))
else
((cell r20.2 (List.length h) 0).bind getS).bind fun l22 =>
c_IITL r20.2 (List.length h1) 0 fun n23 n24 s25 l26 =>
(run (Et base) 71 [(.agg #[(vI n23), (vI n24), (vT s25), (vL l26.1 l26.2)])] r20.2).bind fun r27 =>
((some r27.1).bind (getI .i64)).bind fun n28 =>
(gate (sameA r20.2 r27.2 (some ⟨(List.length h), 0, none⟩) 1)
(some (.inl ([some (vL v1 v1n), some (vP (List.length h)), some (vP (List.length h1)), some (vP (List.length h2)), some (vP (List.length r5.2)), some (vP (List.length p11.2)), some (.bool (decide ((IntKind.wrap .i64 (((l22.2 : Nat) : Int) + n28)) > (2000 : Int))))], r27.2)))))).bind fun j15 => joinK j15 fun j15 =>
j_LAAAAAB j15.1 fun l29 d30 d31 d32 d33 d34 b35 =>
(if b35 = true then
((cell j15.2 d33.block d33.off).bind getS).bind fun l36 =>
((cell j15.2 d34.block d34.off).bind getS).bind fun l37 =>
(wr base j15.2 d32.block d32.off [(vL l36.1 l36.2)]).bind fun h38 =>
(gate (sameA j15.2 h38 (some d34) 1)
(((cell h38 d32.block d32.off).bind getS).bind fun l39 =>
some ((.tuple #[(.agg #[(vL l39.1 l39.2)]), (vL l37.1 l37.2), (vI (0 : Int)), (.bool false)]), h38)))
else
c_IITL j15.2 d31.block d31.off fun n40 n41 s42 l43 =>
(run (Et base) 72 [(.pointer (some ⟨d33.block, (d33.off + 0), none⟩)), (vA d34), (.agg #[(vI n40), (vI n41), (vT s42), (vL l43.1 l43.2)])] j15.2).bind fun r44 =>
(getTup 2 r44.1).bind fun l45 =>
l_IB l45 fun n46 b47 =>
(if (!b47) = true then
((cell r44.2 d30.block d30.off).bind getS).bind fun l48 =>
(run (Et base) 69 [(.agg #[(vL l48.1 l48.2)])] r44.2).bind fun r49 =>
gG (some r49.1) 1 fun l50 =>
((l50[0]?).bind getS).bind fun l51 =>
nw1 r49.2 9 [] fun h52 =>
(app base h52 9 1 16 (some ⟨(List.length r49.2), 0, none⟩) 0 (rawAt h52 l29.1 (l29.2 * 1)) l29.2).bind fun p53 =>
((some p53.1).bind getS).bind fun l54 =>
(wr base p53.2 d32.block d32.off [(vL l51.1 l51.2)]).bind fun h55 =>
((cell h55 d32.block d32.off).bind getS).bind fun l56 =>
some ((.tuple #[(.agg #[(vL l56.1 l56.2)]), (vL l54.1 l54.2), (vI (0 : Int)), (.bool false)]), h55)
else
((cell r44.2 d33.block d33.off).bind getS).bind fun l57 =>
((cell r44.2 d34.block d34.off).bind getS).bind fun l58 =>
(wr base r44.2 d32.block d32.off [(vL l57.1 l57.2)]).bind fun h59 =>
(gate (sameA r44.2 h59 (some d34) 1)
(((cell h59 d32.block d32.off).bind getS).bind fun l60 =>
some ((.tuple #[(.agg #[(vL l60.1 l60.2)]), (vL l58.1 l58.2), (vI n46), (.bool true)]), h59)))))
theorem r14 {base : Nat} {v0_0 : Option Addr} {v0_0n : Nat} {v1 : Option Addr} {v1n : Nat} {v2_0 : Int} {v2_1 : Int} {v2_2 : ByteArray} {v2_3 : Option Addr} {v2_3n : Nat} {h : AH} {r : Value × AH} (hx : qf14 base v0_0 v0_0n v1 v1n v2_0 v2_1 v2_2 v2_3 v2_3n h = some r) : run (Et base) 14 [(.agg #[(vL v0_0 v0_0n)]), (vL v1 v1n), (.agg #[(vI v2_0), (vI v2_1), (vT v2_2), (vL v2_3 v2_3n)])] h = some r := run_i (an := a14) Try.func14 (by kernel_rfl) (.trans (by kernel_rfl) hx)
theorem r15 {base : Nat} {v0_0 : Option Addr} {v0_0n : Nat} {h : AH} {r : Value × AH} (hx : ((some (h ++ [some ⟨[(.slice v0_0 v0_0n v0_0n)], 24⟩])).bind fun h1 =>
(some (h1 ++ [some ⟨[(.slice none 0 0)], 32⟩])).bind fun h2 =>
(some (h2 ++ [some ⟨[(.slice none 0 0)], 32⟩])).bind fun h3 =>
((cell h3 (List.length h) 0).bind getS).bind fun l4 =>
(run (Et base) 35 [(.slice l4.1 l4.2 l4.2)] h3).bind fun r5 =>
((some r5.1).bind getS).bind fun l6 =>
(wr base r5.2 (List.length h2) 0 [(.slice l6.1 l6.2 l6.2)]).bind fun h7 =>
((cell h7 (List.length h2) 0).bind getS).bind fun l8 =>
(wr base h7 (List.length h1) 0 [(.slice l8.1 l8.2 l8.2)]).bind fun h9 =>
((cell h9 (List.length h1) 0).bind getS).bind fun l10 =>
some ((.agg #[(.slice l10.1 l10.2 l10.2)]), h9)) = some r) : run (Et base) 15 [(.agg #[(vL v0_0 v0_0n)])] h = some r := run_i (an := a15) Try.func15 (by kernel_rfl) (.trans (by kernel_rfl) hx)
noncomputable def B16_0 (base : Nat) : Body := fun l h => lay s16_0 l fun s => exCode (Et base) (run (Et base)) loopL a16_0 (subC [1, 1, 0, 1, 0, 0] (bodyC Try.f16)) s h (keepK s16_0 e16_0)
theorem B16_0_eq (base : Nat) (v0 : Option Addr) (v0n : Nat) (v3 : Option Addr) (v3n : Nat) (v4 : Int) (h : AH) : B16_0 base [some (vL v0 v0n), some (vL v3 v3n), some (vI v4)] h =
((if (decide (v4 < ((v0n : Nat) : Int))) = true then
(if 0 ≤ v4 ∧ v4 < ((v0n : Nat) : Int) then
((v0 : Option Addr)).bind fun a1 =>
((cell h a1.block (a1.off + Int.toNat v4 * 1)).bind getStr).bind fun s2 =>
(if 0 ≤ v4 ∧ v4 < ((v3n : Nat) : Int) then
((v3 : Option Addr)).bind fun a3 =>
(wr base h a3.block (a3.off + Int.toNat v4 * 1) [(.string s2)]).bind fun h4 =>
some (0, [some (.slice v0 v0n v0n), some (.slice v3 v3n v3n), some (.int .i64 (IntKind.wrap .i64 (v4 + (1 : Int))))], h4)
else none)
else none)
else
some (2, [some (.slice v3 v3n v3n)], h)) : Option (Nat × Slots × AH)) := by kernel_rfl
theorem r16 {base : Nat} {v0 : Option Addr} {v0n : Nat} {h : AH} {r : Value × AH} (hx : ((if ((v0n : Nat) : Int) = ((v0n : Nat) : Int) ∧ 0 ≤ ((v0n : Nat) : Int) ∧ ((v0n : Nat) : Int) * 16 ≤ 140737488355328 ∧ ((v0n : Nat) : Int) ≤ 140737488355328 then
(some (h ++ [some ⟨rep [(.string ⟨#[]⟩)] (Int.toNat ((v0n : Nat) : Int)), 9⟩])).bind fun h1 =>
(loopL (B16_0 base) [some (.slice v0 v0n v0n), some (.slice (some ⟨(List.length h), 0, none⟩) (Int.toNat ((v0n : Nat) : Int)) (Int.toNat ((v0n : Nat) : Int))), some (.int .i64 (0 : Int))] h1).bind fun q2 =>
(if q2.1 = 2 then
((sget q2.2.1 0).bind getS).bind fun l3 =>
some ((.slice l3.1 l3.2 l3.2), q2.2.2)
else
none)
else none)) = some r) : run (Et base) 16 [(vL v0 v0n)] h = some r := run_i (an := a16) Try.func16 (by kernel_rfl) (.trans (by kernel_rfl) hx)
theorem r17 {base : Nat} {v0_0 : Int} {v0_1 : Int} {v0_2 : ByteArray} {v0_3 : Option Addr} {v0_3n : Nat} {h : AH} {r : Value × AH} (hx : (nw1 h 28 [(vI v0_0), (vI v0_1), (vT v0_2), (vL v0_3 v0_3n)] fun h1 =>
nw1 h1 39 [(vI 0), (vI 0), (vT ⟨#[]⟩), (vL none 0)] fun h2 =>
nw1 h2 39 [(vI 0), (vI 0), (vT ⟨#[]⟩), (vL none 0)] fun h3 =>
((cell h3 (List.length h) 0).bind (getI .i64)).bind fun n4 =>
(wr base h3 (List.length h2) 0 [(vI n4)]).bind fun h5 =>
((cell h5 (List.length h) 1).bind (getI .i64)).bind fun n6 =>
(wr base h5 (List.length h2) 1 [(vI n6)]).bind fun h7 =>
((cell h7 (List.length h) 2).bind getStr).bind fun s8 =>
(wr base h7 (List.length h2) 2 [(vT s8)]).bind fun h9 =>
((cell h9 (List.length h) 3).bind getS).bind fun l10 =>
(run (Et base) 73 [(vL l10.1 l10.2)] h9).bind fun r11 =>
((some r11.1).bind getS).bind fun l12 =>
(wr base r11.2 (List.length h2) 3 [(vL l12.1 l12.2)]).bind fun h13 =>
c_IITL h13 (List.length h2) 0 fun n14 n15 s16 l17 =>
(wr base h13 (List.length h1) 0 [(vI n14), (vI n15), (vT s16), (vL l17.1 l17.2)]).bind fun h18 =>
c_IITL h18 (List.length h1) 0 fun n19 n20 s21 l22 =>
some ((.agg #[(vI n19), (vI n20), (vT s21), (vL l22.1 l22.2)]), h18)) = some r) : run (Et base) 17 [(.agg #[(vI v0_0), (vI v0_1), (vT v0_2), (vL v0_3 v0_3n)])] h = some r := run_i (an := a17) Try.func17 (by kernel_rfl) (.trans (by kernel_rfl) hx)
theorem r18 {base : Nat} {v0_0 : Option Addr} {v0_0n : Nat} {v1 : Option Addr} {v1n : Nat} {v2_0 : Int} {v2_1 : Int} {v2_2 : ByteArray} {v2_3 : Option Addr} {v2_3n : Nat} {h : AH} {r : Value × AH} (hx : ((some (h ++ [some ⟨[(.slice v0_0 v0_0n v0_0n)], 32⟩])).bind fun h1 =>
(some (h1 ++ [some ⟨[(.int .i64 v2_0), (.int .i64 v2_1), (.string v2_2), (.slice v2_3 v2_3n v2_3n)], 39⟩])).bind fun h2 =>
(some (h2 ++ [some ⟨[(.slice none 0 0)], 32⟩])).bind fun h3 =>
((cell h3 (List.length h) 0).bind getS).bind fun l4 =>
((cell h3 (List.length h1) 0).bind (getI .i64)).bind fun n5 =>
((cell h3 (List.length h1) 1).bind (getI .i64)).bind fun n6 =>
((cell h3 (List.length h1) 2).bind getStr).bind fun s7 =>
((cell h3 (List.length h1) 3).bind getS).bind fun l8 =>
(run (Et base) 74 [(.slice l4.1 l4.2 l4.2), (.int .i64 (0 : Int)), (.int .i64 (2000 : Int)), (.slice v1 v1n v1n), (.agg #[(.int .i64 n5), (.int .i64 n6), (.string s7), (.slice l8.1 l8.2 l8.2)])] h3).bind fun r9 =>
(getTup 4 r9.1).bind fun l10 =>
((l10[0]?).bind getS).bind fun l11 =>
((l10[1]?).bind getS).bind fun l12 =>
((l10[2]?).bind (getI .i64)).bind fun n13 =>
((l10[3]?).bind getB).bind fun b14 =>
(wr base r9.2 (List.length h2) 0 [(.slice l11.1 l11.2 l11.2)]).bind fun h15 =>
((cell h15 (List.length h2) 0).bind getS).bind fun l16 =>
some ((.tuple #[(.agg #[(.slice l16.1 l16.2 l16.2)]), (.slice l12.1 l12.2 l12.2), (.int .i64 n13), (.bool b14)]), h15)) = some r) : run (Et base) 18 [(.agg #[(vL v0_0 v0_0n)]), (vL v1 v1n), (.agg #[(vI v2_0), (vI v2_1), (vT v2_2), (vL v2_3 v2_3n)])] h = some r := run_i (an := a18) Try.func18 (by kernel_rfl) (.trans (by kernel_rfl) hx)
theorem r19 {base : Nat} {v0_0 : Option Addr} {v0_0n : Nat} {v1_0 : Option Addr} {v1_0n : Nat} {h : AH} {r : Value × AH} (hx : ((some (h ++ [some ⟨[(.slice v0_0 v0_0n v0_0n)], 32⟩])).bind fun h1 =>
(some (h1 ++ [some ⟨[(.slice v1_0 v1_0n v1_0n)], 32⟩])).bind fun h2 =>
((cell h2 (List.length h) 0).bind getS).bind fun l3 =>
((cell h2 (List.length h1) 0).bind getS).bind fun l4 =>
(run (Et base) 37 [(.slice l3.1 l3.2 l3.2), (.slice l4.1 l4.2 l4.2)] h2).bind fun r5 =>
((some r5.1).bind getB).bind fun b6 =>
(if (!b6) = true then
some ((.bool false), r5.2)
else
some ((.bool true), r5.2))) = some r) : run (Et base) 19 [(.agg #[(vL v0_0 v0_0n)]), (.agg #[(vL v1_0 v1_0n)])] h = some r := run_i (an := a19) Try.func19 (by kernel_rfl) (.trans (by kernel_rfl) hx)
noncomputable def B20_0 (base : Nat) : Body := fun l h => lay s20_0 l fun s => exCode (Et base) (run (Et base)) loopL a20_0 (subC [1, 1, 0, 1, 0, 0] (bodyC Try.f20)) s h (keepK s20_0 e20_0)
theorem B20_0_eq (base : Nat) (v0 : Option Addr) (v0n : Nat) (v1 : Option Addr) (v1n : Nat) (v5 : Int) (h : AH) : B20_0 base [some (vL v0 v0n), some (vL v1 v1n), some (vI v5)] h =
((if (decide (v5 < ((v0n : Nat) : Int))) = true then
(if 0 ≤ v5 ∧ v5 < ((v0n : Nat) : Int) then
((v0 : Option Addr)).bind fun a1 =>
((cell h a1.block (a1.off + Int.toNat v5 * 1)).bind getStr).bind fun s2 =>
(if 0 ≤ v5 ∧ v5 < ((v1n : Nat) : Int) then
((v1 : Option Addr)).bind fun a3 =>
((cell h a3.block (a3.off + Int.toNat v5 * 1)).bind getStr).bind fun s4 =>
(if (!(s2.toList == s4.toList)) = true then
some (1, [some (.bool false)], h)
else
some (0, [some (.slice v0 v0n v0n), some (.slice v1 v1n v1n), some (.int .i64 (IntKind.wrap .i64 (v5 + (1 : Int))))], h))
else none)
else none)
else
some (2, [], h)) : Option (Nat × Slots × AH)) := by kernel_rfl
theorem r20 {base : Nat} {v0 : Option Addr} {v0n : Nat} {v1 : Option Addr} {v1n : Nat} {h : AH} {r : Value × AH} (hx : ((if (((v0n : Nat) : Int) != ((v1n : Nat) : Int)) = true then
some ((.bool false), h)
else
(loopL (B20_0 base) [some (.slice v0 v0n v0n), some (.slice v1 v1n v1n), some (.int .i64 (0 : Int))] h).bind fun q1 =>
(if q1.1 = 1 then
((sget q1.2.1 0).bind getB).bind fun b2 =>
some ((.bool b2), q1.2.2)
else
(if q1.1 = 2 then
some ((.bool true), q1.2.2)
else
none)))) = some r) : run (Et base) 20 [(vL v0 v0n), (vL v1 v1n)] h = some r := run_i (an := a20) Try.func20 (by kernel_rfl) (.trans (by kernel_rfl) hx)
theorem r21 {base : Nat} {v0_0 : Int} {v0_1 : Int} {v0_2 : ByteArray} {v0_3 : Option Addr} {v0_3n : Nat} {v1_0 : Int} {v1_1 : Int} {v1_2 : ByteArray} {v1_3 : Option Addr} {v1_3n : Nat} {h : AH} {r : Value × AH} (hx : ((some (h ++ [some ⟨[(.int .i64 v0_0), (.int .i64 v0_1), (.string v0_2), (.slice v0_3 v0_3n v0_3n)], 39⟩])).bind fun h1 =>
(some (h1 ++ [some ⟨[(.int .i64 v1_0), (.int .i64 v1_1), (.string v1_2), (.slice v1_3 v1_3n v1_3n)], 39⟩])).bind fun h2 =>
((cell h2 (List.length h) 0).bind (getI .i64)).bind fun n3 =>
((cell h2 (List.length h1) 0).bind (getI .i64)).bind fun n4 =>
(if (n3 != n4) = true then
some ((.bool false), h2)
else
((cell h2 (List.length h) 1).bind (getI .i64)).bind fun n5 =>
((cell h2 (List.length h1) 1).bind (getI .i64)).bind fun n6 =>
(if (n5 != n6) = true then
some ((.bool false), h2)
else
((cell h2 (List.length h) 2).bind getStr).bind fun s7 =>
((cell h2 (List.length h1) 2).bind getStr).bind fun s8 =>
(if (!(s7.toList == s8.toList)) = true then
some ((.bool false), h2)
else
((cell h2 (List.length h) 3).bind getS).bind fun l9 =>
((cell h2 (List.length h1) 3).bind getS).bind fun l10 =>
(run (Et base) 75 [(.slice l9.1 l9.2 l9.2), (.slice l10.1 l10.2 l10.2)] h2).bind fun r11 =>
((some r11.1).bind getB).bind fun b12 =>
(if (!b12) = true then
some ((.bool false), r11.2)
else
some ((.bool true), r11.2)))))) = some r) : run (Et base) 21 [(.agg #[(vI v0_0), (vI v0_1), (vT v0_2), (vL v0_3 v0_3n)]), (.agg #[(vI v1_0), (vI v1_1), (vT v1_2), (vL v1_3 v1_3n)])] h = some r := run_i (an := a21) Try.func21 (by kernel_rfl) (.trans (by kernel_rfl) hx)
theorem r22 {base : Nat} {v0_0 : Option Addr} {v0_0n : Nat} {v1 : Int} {h : AH} {r : Value × AH} (hx : ((some (h ++ [some ⟨[(.slice v0_0 v0_0n v0_0n)], 32⟩])).bind fun h1 =>
((cell h1 (List.length h) 0).bind getS).bind fun l2 =>
(run (Et base) 76 [(.slice l2.1 l2.2 l2.2), (.int .i64 v1)] h1).bind fun r3 =>
((some r3.1).bind (getI .i64)).bind fun n4 =>
some ((.int .i64 n4), r3.2)) = some r) : run (Et base) 22 [(.agg #[(vL v0_0 v0_0n)]), (vI v1)] h = some r := run_i (an := a22) Try.func22 (by kernel_rfl) (.trans (by kernel_rfl) hx)
noncomputable def B23_0 (base : Nat) : Body := fun l h => lay s23_0 l fun s => exCode (Et base) (run (Et base)) loopL a23_0 (subC [1, 0, 1, 0, 0] (bodyC Try.f23)) s h (keepK s23_0 e23_0)
theorem B23_0_eq (base : Nat) (v0 : Option Addr) (v0n : Nat) (v1 : Int) (v5 : Int) (h : AH) : B23_0 base [some (vL v0 v0n), some (vI v1), some (vI v5)] h =
((if (decide (v5 < ((v0n : Nat) : Int))) = true then
(run (Et base) 77 [(.int .i64 v1)] h).bind fun r1 =>
((some r1.1).bind getStr).bind fun s2 =>
(if 0 ≤ v5 ∧ v5 < ((v0n : Nat) : Int) then
((v0 : Option Addr)).bind fun a3 =>
(wr base r1.2 a3.block (a3.off + Int.toNat v5 * 1) [(.string s2)]).bind fun h4 =>
some (0, [some (.slice v0 v0n v0n), some (.int .i64 (IntKind.wrap .i64 (v1 + (1 : Int)))), some (.int .i64 (IntKind.wrap .i64 (v5 + (1 : Int))))], h4)
else none)
else
some (2, [some (.int .i64 v1)], h)) : Option (Nat × Slots × AH)) := by kernel_rfl
theorem r23 {base : Nat} {v0 : Option Addr} {v0n : Nat} {v1 : Int} {h : AH} {r : Value × AH} (hx : ((loopL (B23_0 base) [some (.slice v0 v0n v0n), some (.int .i64 v1), some (.int .i64 (0 : Int))] h).bind fun q1 =>
(if q1.1 = 2 then
((sget q1.2.1 0).bind (getI .i64)).bind fun n2 =>
some ((.int .i64 n2), q1.2.2)
else
none)) = some r) : run (Et base) 23 [(vL v0 v0n), (vI v1)] h = some r := run_i (an := a23) Try.func23 (by kernel_rfl) (.trans (by kernel_rfl) hx)
theorem r24 {base : Nat} {v0_0 : Int} {v0_1 : Int} {v0_2 : ByteArray} {v0_3 : Option Addr} {v0_3n : Nat} {v1 : Int} {h : AH} {r : Value × AH} (hx : ((some (h ++ [some ⟨[(.int .i64 v0_0), (.int .i64 v0_1), (.string v0_2), (.slice v0_3 v0_3n v0_3n)], 39⟩])).bind fun h1 =>
((cell h1 (List.length h) 3).bind getS).bind fun l2 =>
(run (Et base) 78 [(.slice l2.1 l2.2 l2.2), (.int .i64 v1)] h1).bind fun r3 =>
((some r3.1).bind (getI .i64)).bind fun n4 =>
some ((.int .i64 n4), r3.2)) = some r) : run (Et base) 24 [(.agg #[(vI v0_0), (vI v0_1), (vT v0_2), (vL v0_3 v0_3n)]), (vI v1)] h = some r := run_i (an := a24) Try.func24 (by kernel_rfl) (.trans (by kernel_rfl) hx)
theorem r25 {base : Nat} {v0_0 : Option Addr} {v0_0n : Nat} {v1 : Int} {h : AH} {r : Value × AH} (hx : ((some (h ++ [some ⟨[(.slice v0_0 v0_0n v0_0n)], 32⟩])).bind fun h1 =>
((cell h1 (List.length h) 0).bind getS).bind fun l2 =>
(run (Et base) 79 [(.slice l2.1 l2.2 l2.2), (.int .i64 v1)] h1).bind fun r3 =>
((some r3.1).bind (getI .i64)).bind fun n4 =>
(if (decide (n4 < (0 : Int))) = true then
some ((.int .i64 (-1 : Int)), r3.2)
else
some ((.int .i64 n4), r3.2))) = some r) : run (Et base) 25 [(.agg #[(vL v0_0 v0_0n)]), (vI v1)] h = some r := run_i (an := a25) Try.func25 (by kernel_rfl) (.trans (by kernel_rfl) hx)
noncomputable def B26_0 (base : Nat) : Body := fun l h => lay s26_0 l fun s => exCode (Et base) (run (Et base)) loopL a26_0 (subC [1, 0, 1, 0, 0] (bodyC Try.f26)) s h (keepK s26_0 e26_0)
theorem B26_0_eq (base : Nat) (v0 : Option Addr) (v0n : Nat) (v1 : Int) (v5 : Int) (h : AH) : B26_0 base [some (vL v0 v0n), some (vI v1), some (vI v5)] h =
((if (decide (v5 < ((v0n : Nat) : Int))) = true then
(if 0 ≤ v5 ∧ v5 < ((v0n : Nat) : Int) then
((v0 : Option Addr)).bind fun a1 =>
((cell h a1.block (a1.off + Int.toNat v5 * 1)).bind getStr).bind fun s2 =>
(run (Et base) 77 [(.int .i64 v1)] h).bind fun r3 =>
((some r3.1).bind getStr).bind fun s4 =>
(gate (sameA h r3.2 (some ⟨a1.block, (a1.off + Int.toNat v5 * 1), none⟩) 1)
((if (!(s2.toList == s4.toList)) = true then
some (1, [some (.int .i64 (-1 : Int))], r3.2)
else
some (0, [some (.slice v0 v0n v0n), some (.int .i64 (IntKind.wrap .i64 (v1 + (1 : Int)))), some (.int .i64 (IntKind.wrap .i64 (v5 + (1 : Int))))], r3.2))))
else none)
else
some (2, [some (.int .i64 v1)], h)) : Option (Nat × Slots × AH)) := by kernel_rfl
theorem r26 {base : Nat} {v0 : Option Addr} {v0n : Nat} {v1 : Int} {h : AH} {r : Value × AH} (hx : ((loopL (B26_0 base) [some (.slice v0 v0n v0n), some (.int .i64 v1), some (.int .i64 (0 : Int))] h).bind fun q1 =>
(if q1.1 = 1 then
((sget q1.2.1 0).bind (getI .i64)).bind fun n2 =>
some ((.int .i64 n2), q1.2.2)
else
(if q1.1 = 2 then
((sget q1.2.1 0).bind (getI .i64)).bind fun n3 =>
some ((.int .i64 n3), q1.2.2)
else
none))) = some r) : run (Et base) 26 [(vL v0 v0n), (vI v1)] h = some r := run_i (an := a26) Try.func26 (by kernel_rfl) (.trans (by kernel_rfl) hx)
noncomputable def B35_0 (base : Nat) : Body := fun l h => lay s35_0 l fun s => exCode (Et base) (run (Et base)) loopL a35_0 (subC [1, 1, 0, 1, 0, 0] (bodyC Try.f35)) s h (keepK s35_0 e35_0)
theorem B35_0_eq (base : Nat) (v0 : Option Addr) (v0n : Nat) (v3 : Option Addr) (v3n : Nat) (v4 : Int) (h : AH) : B35_0 base [some (vL v0 v0n), some (vL v3 v3n), some (vI v4)] h =
((if (decide (v4 < ((v0n : Nat) : Int))) = true then
(if 0 ≤ v4 ∧ v4 < ((v0n : Nat) : Int) then
((v0 : Option Addr)).bind fun a1 =>
((cell h a1.block (a1.off + Int.toNat v4 * 1)).bind (getI .i64)).bind fun n2 =>
(if 0 ≤ v4 ∧ v4 < ((v3n : Nat) : Int) then
((v3 : Option Addr)).bind fun a3 =>
(wr base h a3.block (a3.off + Int.toNat v4 * 1) [(.int .i64 n2)]).bind fun h4 =>
some (0, [some (.slice v0 v0n v0n), some (.slice v3 v3n v3n), some (.int .i64 (IntKind.wrap .i64 (v4 + (1 : Int))))], h4)
else none)
else none)
else
some (2, [some (.slice v3 v3n v3n)], h)) : Option (Nat × Slots × AH)) := by kernel_rfl
theorem r35 {base : Nat} {v0 : Option Addr} {v0n : Nat} {h : AH} {r : Value × AH} (hx : ((if ((v0n : Nat) : Int) = ((v0n : Nat) : Int) ∧ 0 ≤ ((v0n : Nat) : Int) ∧ ((v0n : Nat) : Int) * 8 ≤ 140737488355328 ∧ ((v0n : Nat) : Int) ≤ 140737488355328 then
(some (h ++ [some ⟨rep [(.int .i64 0)] (Int.toNat ((v0n : Nat) : Int)), 3⟩])).bind fun h1 =>
(loopL (B35_0 base) [some (.slice v0 v0n v0n), some (.slice (some ⟨(List.length h), 0, none⟩) (Int.toNat ((v0n : Nat) : Int)) (Int.toNat ((v0n : Nat) : Int))), some (.int .i64 (0 : Int))] h1).bind fun q2 =>
(if q2.1 = 2 then
((sget q2.2.1 0).bind getS).bind fun l3 =>
some ((.slice l3.1 l3.2 l3.2), q2.2.2)
else
none)
else none)) = some r) : run (Et base) 35 [(vL v0 v0n)] h = some r := run_i (an := a35) Try.func35 (by kernel_rfl) (.trans (by kernel_rfl) hx)
noncomputable def B37_0 (base : Nat) : Body := fun l h => lay s37_0 l fun s => exCode (Et base) (run (Et base)) loopL a37_0 (subC [1, 1, 0, 1, 0, 0] (bodyC Try.f37)) s h (keepK s37_0 e37_0)
theorem B37_0_eq (base : Nat) (v0 : Option Addr) (v0n : Nat) (v1 : Option Addr) (v1n : Nat) (v5 : Int) (h : AH) : B37_0 base [some (vL v0 v0n), some (vL v1 v1n), some (vI v5)] h =
((if (decide (v5 < ((v0n : Nat) : Int))) = true then
(if 0 ≤ v5 ∧ v5 < ((v0n : Nat) : Int) then
((v0 : Option Addr)).bind fun a1 =>
((cell h a1.block (a1.off + Int.toNat v5 * 1)).bind (getI .i64)).bind fun n2 =>
(if 0 ≤ v5 ∧ v5 < ((v1n : Nat) : Int) then
((v1 : Option Addr)).bind fun a3 =>
((cell h a3.block (a3.off + Int.toNat v5 * 1)).bind (getI .i64)).bind fun n4 =>
(if (n2 != n4) = true then
some (1, [some (.bool false)], h)
else
some (0, [some (.slice v0 v0n v0n), some (.slice v1 v1n v1n), some (.int .i64 (IntKind.wrap .i64 (v5 + (1 : Int))))], h))
else none)
else none)
else
some (2, [], h)) : Option (Nat × Slots × AH)) := by kernel_rfl
theorem r37 {base : Nat} {v0 : Option Addr} {v0n : Nat} {v1 : Option Addr} {v1n : Nat} {h : AH} {r : Value × AH} (hx : ((if (((v0n : Nat) : Int) != ((v1n : Nat) : Int)) = true then
some ((.bool false), h)
else
(loopL (B37_0 base) [some (.slice v0 v0n v0n), some (.slice v1 v1n v1n), some (.int .i64 (0 : Int))] h).bind fun q1 =>
(if q1.1 = 1 then
((sget q1.2.1 0).bind getB).bind fun b2 =>
some ((.bool b2), q1.2.2)
else
(if q1.1 = 2 then
some ((.bool true), q1.2.2)
else
none)))) = some r) : run (Et base) 37 [(vL v0 v0n), (vL v1 v1n)] h = some r := run_i (an := a37) Try.func37 (by kernel_rfl) (.trans (by kernel_rfl) hx)
theorem r67 {base : Nat} {v0 : Option Addr} {v0n : Nat} {v1 : Int} {h : AH} {r : Value × AH} (hx : ((if (decide ((IntKind.wrap .i64 (v1 - ((v0n : Nat) : Int))) < (0 : Int))) = true then
some ((.int .i64 (-1 : Int)), h)
else
some ((.int .i64 (IntKind.wrap .i64 (v1 - ((v0n : Nat) : Int)))), h))) = some r) : run (Et base) 67 [(vL v0 v0n), (vI v1)] h = some r := run_i (an := a67) Try.func67 (by kernel_rfl) (.trans (by kernel_rfl) hx)
noncomputable def B68_0 (base : Nat) : Body := fun l h => lay s68_0 l fun s => exCode (Et base) (run (Et base)) loopL a68_0 (subC [1, 1, 1, 0, 1, 0, 0] (bodyC Try.f68)) s h (keepK s68_0 e68_0)
theorem B68_0_eq (base : Nat) (v0 : Option Addr) (v0n : Nat) (v1 : Int) (v5 : Int) (h : AH) : B68_0 base [some (vL v0 v0n), some (vI v1), some (vI v5)] h =
((if (decide (v5 < ((v0n : Nat) : Int))) = true then
(if 0 ≤ v5 ∧ v5 < ((v0n : Nat) : Int) then
((v0 : Option Addr)).bind fun a1 =>
((cell h a1.block (a1.off + Int.toNat v5 * 4)).bind (getI .i64)).bind fun n2 =>
((cell h a1.block ((a1.off + Int.toNat v5 * 4) + 1)).bind (getI .i64)).bind fun n3 =>
((cell h a1.block (((a1.off + Int.toNat v5 * 4) + 1) + 1)).bind getStr).bind fun s4 =>
((cell h a1.block ((((a1.off + Int.toNat v5 * 4) + 1) + 1) + 1)).bind getS).bind fun l5 =>
(run (Et base) 13 [(.agg #[(.int .i64 n2), (.int .i64 n3), (.string s4), (.slice l5.1 l5.2 l5.2)]), (.int .i64 v1)] h).bind fun r6 =>
((some r6.1).bind (getI .i64)).bind fun n7 =>
(if (decide (n7 < (0 : Int))) = true then
some (1, [some (.int .i64 (-1 : Int))], r6.2)
else
some (0, [some (.slice v0 v0n v0n), some (.int .i64 n7), some (.int .i64 (IntKind.wrap .i64 (v5 + (1 : Int))))], r6.2))
else none)
else
some (2, [some (.int .i64 v1)], h)) : Option (Nat × Slots × AH)) := by kernel_rfl
theorem r68 {base : Nat} {v0 : Option Addr} {v0n : Nat} {v1 : Int} {h : AH} {r : Value × AH} (hx : ((if (decide ((IntKind.wrap .i64 (v1 - ((v0n : Nat) : Int))) < (0 : Int))) = true then
some ((.int .i64 (-1 : Int)), h)
else
(loopL (B68_0 base) [some (.slice v0 v0n v0n), some (.int .i64 (IntKind.wrap .i64 (v1 - ((v0n : Nat) : Int)))), some (.int .i64 (0 : Int))] h).bind fun q1 =>
(if q1.1 = 1 then
((sget q1.2.1 0).bind (getI .i64)).bind fun n2 =>
some ((.int .i64 n2), q1.2.2)
else
(if q1.1 = 2 then
((sget q1.2.1 0).bind (getI .i64)).bind fun n3 =>
some ((.int .i64 n3), q1.2.2)
else
none)))) = some r) : run (Et base) 68 [(vL v0 v0n), (vI v1)] h = some r := run_i (an := a68) Try.func68 (by kernel_rfl) (.trans (by kernel_rfl) hx)
theorem r69 {base : Nat} {v0_0 : Option Addr} {v0_0n : Nat} {h : AH} {r : Value × AH} (hx : ((some (h ++ [some ⟨[(.slice v0_0 v0_0n v0_0n)], 32⟩])).bind fun h1 =>
(some (h1 ++ [some ⟨[(.slice none 0 0)], 32⟩])).bind fun h2 =>
(some (h2 ++ [some ⟨[], 3⟩])).bind fun h3 =>
((cell h3 (List.length h) 0).bind getS).bind fun l4 =>
(app base h3 3 1 8 (some ⟨(List.length h2), 0, none⟩) 0 (rawAt h3 l4.1 (l4.2 * 1)) l4.2).bind fun p5 =>
((some p5.1).bind getS).bind fun l6 =>
(wr base p5.2 (List.length h1) 0 [(.slice l6.1 l6.2 l6.2)]).bind fun h7 =>
((cell h7 (List.length h1) 0).bind getS).bind fun l8 =>
some ((.agg #[(.slice l8.1 l8.2 l8.2)]), h7)) = some r) : run (Et base) 69 [(.agg #[(vL v0_0 v0_0n)])] h = some r := run_i (an := a69) Try.func69 (by kernel_rfl) (.trans (by kernel_rfl) hx)
theorem r70 {base : Nat} {v0_0 : Int} {v0_1 : Int} {v0_2 : ByteArray} {v0_3 : Option Addr} {v0_3n : Nat} {h : AH} {r : Value × AH} (hx : ((some (h ++ [some ⟨[(.int .i64 v0_0), (.int .i64 v0_1), (.string v0_2), (.slice v0_3 v0_3n v0_3n)], 39⟩])).bind fun h1 =>
((cell h1 (List.length h) 0).bind (getI .i64)).bind fun n2 =>
((cell h1 (List.length h) 1).bind (getI .i64)).bind fun n3 =>
((cell h1 (List.length h) 2).bind getStr).bind fun s4 =>
((cell h1 (List.length h) 3).bind getS).bind fun l5 =>
(run (Et base) 131 [(.agg #[(.int .i64 n2), (.int .i64 n3), (.string s4), (.slice l5.1 l5.2 l5.2)]), (.int .i64 (6 : Int)), (.int .i64 (100 : Int))] h1).bind fun r6 =>
((some r6.1).bind (getI .i64)).bind fun n7 =>
some ((.bool (decide (n7 ≥ (0 : Int)))), r6.2)) = some r) : run (Et base) 70 [(.agg #[(vI v0_0), (vI v0_1), (vT v0_2), (vL v0_3 v0_3n)])] h = some r := run_i (an := a70) Try.func70 (by kernel_rfl) (.trans (by kernel_rfl) hx)
noncomputable def B71_0 (base : Nat) : Body := fun l h => lay s71_0 l fun s => exCode (Et base) (run (Et base)) loopL a71_0 (subC [1, 1, 1, 0, 1, 0, 0] (bodyC Try.f71)) s h (keepK s71_0 e71_0)
theorem B71_0_eq (base : Nat) (v1 : Addr) (v3 : Int) (v4 : Int) (h : AH) : B71_0 base [some (vA v1), some (vI v3), some (vI v4)] h =
((((cell h v1.block (v1.off + 3)).bind getS).bind fun l2 =>
(if (decide (v4 < ((l2.2 : Nat) : Int))) = true then
((cell h v1.block (v1.off + 0)).bind (getI .i64)).bind fun n3 =>
(run (Et base) 83 [(vI n3), (vI (4 : Int)), (vI (5 : Int))] h).bind fun r4 =>
((some r4.1).bind getB).bind fun b5 =>
some (.inl ([some (vA v1), some (vI v3), some (vI v4), some (.bool b5)], r4.2))
else
some (.inl ([some (vA v1), some (vI v3), some (vI v4), some (.bool false)], h)))).bind fun j1 => joinK j1 fun j1 =>
j_AIIB j1.1 fun d6 n7 n8 b9 =>
(if b9 = true then
((cell j1.2 d6.block (d6.off + 3)).bind getS).bind fun l10 =>
(if 0 ≤ n8 ∧ n8 < ((l10.2 : Nat) : Int) then
((l10.1 : Option Addr)).bind fun a11 =>
c_IITL j1.2 a11.block (a11.off + Int.toNat n8 * 4) fun n12 n13 s14 l15 =>
(run (Et base) 71 [(.agg #[(vI n12), (vI n13), (vT s14), (vL l15.1 l15.2)])] j1.2).bind fun r16 =>
((some r16.1).bind (getI .i64)).bind fun n17 =>
some (0, [some (vA d6), some (vI (IntKind.wrap .i64 (n7 + n17))), some (vI (IntKind.wrap .i64 (n8 + (1 : Int))))], r16.2)
else none)
else
some (3, [some (vI n7)], j1.2)) : Option (Nat × Slots × AH)) := by kernel_rfl
theorem r71 {base : Nat} {v0_0 : Int} {v0_1 : Int} {v0_2 : ByteArray} {v0_3 : Option Addr} {v0_3n : Nat} {h : AH} {r : Value × AH} (hx : ((some (h ++ [some ⟨[(.int .i64 v0_0), (.int .i64 v0_1), (.string v0_2), (.slice v0_3 v0_3n v0_3n)], 39⟩])).bind fun h1 =>
(((cell h1 (List.length h) 0).bind (getI .i64)).bind fun n3 =>
(if (n3 == (4 : Int)) = true then
((cell h1 (List.length h) 3).bind getS).bind fun l4 =>
some (.inl ([some (.pointer (some ⟨(List.length h), 0, none⟩)), some (.int .i64 (IntKind.wrap .i64 ((1 : Int) + ((l4.2 : Nat) : Int))))], h1))
else
(if (n3 == (5 : Int)) = true then
((cell h1 (List.length h) 3).bind getS).bind fun l5 =>
some (.inl ([some (.pointer (some ⟨(List.length h), 0, none⟩)), some (.int .i64 (IntKind.wrap .i64 ((2 : Int) * ((l5.2 : Nat) : Int))))], h1))
else
(if (n3 == (6 : Int)) = true then
((cell h1 (List.length h) 2).bind getStr).bind fun s6 =>
some (.inl ([some (.pointer (some ⟨(List.length h), 0, none⟩)), some (.int .i64 (IntKind.wrap .i64 ((1 : Int) + (s6.size : Int))))], h1))
else
some (.inl ([some (.pointer (some ⟨(List.length h), 0, none⟩)), some (.int .i64 (0 : Int))], h1)))))).bind fun j2 => joinK j2 fun j2 =>
((sget j2.1 0).bind getA).bind fun d7 =>
((sget (j2.1.tail) 0).bind (getI .i64)).bind fun n8 =>
(loopL (B71_0 base) [some (.pointer (some d7)), some (.int .i64 n8), some (.int .i64 (0 : Int))] j2.2).bind fun q9 =>
(if q9.1 = 3 then
((sget q9.2.1 0).bind (getI .i64)).bind fun n10 =>
some ((.int .i64 n10), q9.2.2)
else
none)) = some r) : run (Et base) 71 [(.agg #[(vI v0_0), (vI v0_1), (vT v0_2), (vL v0_3 v0_3n)])] h = some r := run_i (an := a71) Try.func71 (by kernel_rfl) (.trans (by kernel_rfl) hx)
noncomputable def B72_1 (base : Nat) : Body := fun l h => lay s72_1 l fun s => exCode (Et base) (run (Et base)) loopL a72_1 (subC [1, 0, 1, 0, 1, 1, 1, 1, 1, 1, 1, 1, 1, 0, 1, 1, 1, 1, 0, 1, 0, 0] (bodyC Try.f72)) s h (keepK s72_1 e72_1)
noncomputable def B72_0 (base : Nat) : Body := fun l h => lay s72_0 l fun s => exCode (Et base) (run (Et base)) loopL a72_0 (subC [1, 0, 1, 0, 1, 1, 1, 1, 1, 1, 1, 0, 1, 1, 0, 1, 0, 0] (bodyC Try.f72)) s h (keepK s72_0 e72_0)
theorem B72_1_eq (base : Nat) (v0 : Option Addr) (v1 : Option Addr) (v5 : Addr) (v12 : Int) (v13 : Bool) (v14 : Int) (h : AH) : B72_1 base [some (.pointer v0), some (.pointer v1), some (vA v5), some (vI v12), some (.bool v13), some (vI v14)] h =
(((cell h v5.block (v5.off + 3)).bind getS).bind fun l1 =>
(if (decide (v14 < ((l1.2 : Nat) : Int))) = true then
(((cell h v5.block (v5.off + 3)).bind getS).bind fun l3 =>
(if 0 ≤ v14 ∧ v14 < ((l3.2 : Nat) : Int) then
((l3.1 : Option Addr)).bind fun a4 =>
c_IITL h a4.block (a4.off + Int.toNat v14 * 4) fun n5 n6 s7 l8 =>
(run (Et base) 72 [(.pointer v0), (.pointer v1), (.agg #[(vI n5), (vI n6), (vT s7), (vL l8.1 l8.2)])] h).bind fun r9 =>
(getTup 2 r9.1).bind fun l10 =>
l_IB l10 fun n11 b12 =>
(v0).bind fun a13 =>
((cell r9.2 a13.block a13.off).bind getS).bind fun l14 =>
(if 0 ≤ (IntKind.wrap .i64 ((IntKind.wrap .i64 (v12 + (1 : Int))) + v14)) ∧ (IntKind.wrap .i64 ((IntKind.wrap .i64 (v12 + (1 : Int))) + v14)) < ((l14.2 : Nat) : Int) then
((l14.1 : Option Addr)).bind fun a15 =>
(wr base r9.2 a15.block (a15.off + Int.toNat (IntKind.wrap .i64 ((IntKind.wrap .i64 (v12 + (1 : Int))) + v14)) * 1) [(vI n11)]).bind fun h16 =>
(if v13 = true then
some (.inl ([some (.pointer v0), some (.pointer v1), some (vA v5), some (vI v12), some (.bool b12), some (vI v14)], h16))
else
some (.inl ([some (.pointer v0), some (.pointer v1), some (vA v5), some (vI v12), some (.bool false), some (vI v14)], h16)))
else none)
else none)).bind fun j2 => joinK j2 fun j2 =>
j_PPAIBI j2.1 fun p17 p18 d19 n20 b21 n22 =>
some (0, [some (.pointer p17), some (.pointer p18), some (vA d19), some (vI n20), some (.bool b21), some (vI (IntKind.wrap .i64 (n22 + (1 : Int))))], j2.2)
else
some (5, [some (vI v12), some (.bool v13)], h)) : Option (Nat × Slots × AH)) := by kernel_rfl
theorem B72_0_eq (base : Nat) (v0 : Option Addr) (v5 : Addr) (v10 : Int) (v11 : Int) (h : AH) : B72_0 base [some (.pointer v0), some (vA v5), some (vI v10), some (vI v11)] h =
(((cell h v5.block (v5.off + 2)).bind getStr).bind fun s1 =>
(if (decide (v11 < (s1.size : Int))) = true then
(v0).bind fun a2 =>
((cell h a2.block a2.off).bind getS).bind fun l3 =>
((cell h v5.block (v5.off + 2)).bind getStr).bind fun s4 =>
(if 0 ≤ v11 ∧ v11 < (s4.size : Int) then
(gate (neA (some a2) (List.length h))
((some (h ++ [some ⟨[(.int .i64 (IntKind.wrap .i64 ((s4.data.toList.getD (Int.toNat v11) 0).toNat : Int)))], 3⟩])).bind fun h5 =>
(app base h5 3 1 8 l3.1 l3.2 (rawAt h5 (some ⟨(List.length h), 0, none⟩) (1 * 1)) 1).bind fun p6 =>
((some p6.1).bind getS).bind fun l7 =>
(v0).bind fun a8 =>
(wr base p6.2 a8.block a8.off [(.slice l7.1 l7.2 l7.2)]).bind fun h9 =>
some (0, [some (.pointer v0), some (.pointer (some v5)), some (.int .i64 v10), some (.int .i64 (IntKind.wrap .i64 (v11 + (1 : Int))))], h9)))
else none)
else
some (3, [some (.int .i64 v10)], h)) : Option (Nat × Slots × AH)) := by kernel_rfl
noncomputable abbrev qf72 (base : Nat) (v0 : Option Addr) (v1 : Option Addr) (v2_0 : Int) (v2_1 : Int) (v2_2 : ByteArray) (v2_3 : Option Addr) (v2_3n : Nat) (h : AH) : Option (Value × AH) :=
nw1 h 39 [(vI v2_0), (vI v2_1), (vT v2_2), (vL v2_3 v2_3n)] fun h1 =>
((cell h1 (List.length h) 0).bind (getI .i64)).bind fun n2 =>
(if (n2 == (1 : Int)) = true then
((cell h1 (List.length h) 1).bind (getI .i64)).bind fun n3 =>
(run (Et base) 132 [(vI (0 : Int)), (vI (IntKind.wrap .i64 (n3 + (1000000 : Int))))] h1).bind fun r4 =>
((some r4.1).bind (getI .i64)).bind fun n5 =>
some ((.tuple #[(vI n5), (.bool true)]), r4.2)
else
(if (n2 == (3 : Int)) = true then
((cell h1 (List.length h) 1).bind (getI .i64)).bind fun n6 =>
(run (Et base) 132 [(vI (2 : Int)), (vI n6)] h1).bind fun r7 =>
((some r7.1).bind (getI .i64)).bind fun n8 =>
some ((.tuple #[(vI n8), (.bool true)]), r7.2)
else
(if (n2 == (2 : Int)) = true then
(v1).bind fun a9 =>
((cell h1 a9.block a9.off).bind getS).bind fun l10 =>
((cell h1 (List.length h) 2).bind getStr).bind fun s11 =>
(run (Et base) 133 [(vL l10.1 l10.2), (vT s11)] h1).bind fun r12 =>
(getTup 2 r12.1).bind fun l13 =>
l_LI l13 fun l14 n15 =>
(v1).bind fun a16 =>
(wr base r12.2 a16.block a16.off [(vL l14.1 l14.2)]).bind fun h17 =>
(run (Et base) 132 [(vI (1 : Int)), (vI n15)] h17).bind fun r18 =>
((some r18.1).bind (getI .i64)).bind fun n19 =>
some ((.tuple #[(vI n19), (.bool (decide (n15 ≥ (0 : Int))))]), r18.2)
else
(if (n2 == (6 : Int)) = true then
(v0).bind fun a20 =>
((cell h1 a20.block a20.off).bind getS).bind fun l21 =>
(v0).bind fun a22 =>
((cell h1 a22.block a22.off).bind getS).bind fun l23 =>
((cell h1 (List.length h) 2).bind getStr).bind fun s24 =>
(gate (neA (some a22) (List.length h1))
(nw1 h1 3 [(vI (s24.size : Int))] fun h25 =>
(app base h25 3 1 8 l23.1 l23.2 (rawAt h25 (some ⟨(List.length h1), 0, none⟩) (1 * 1)) 1).bind fun p26 =>
((some p26.1).bind getS).bind fun l27 =>
(v0).bind fun a28 =>
(wr base p26.2 a28.block a28.off [(vL l27.1 l27.2)]).bind fun h29 =>
(loopL (B72_0 base) [some (.pointer v0), some (vP (List.length h)), some (vI ((l21.2 : Nat) : Int)), some (vI (0 : Int))] h29).bind fun q30 =>
(if q30.1 = 3 then
((sget q30.2.1 0).bind (getI .i64)).bind fun n31 =>
(run (Et base) 132 [(vI (6 : Int)), (vI n31)] q30.2.2).bind fun r32 =>
((some r32.1).bind (getI .i64)).bind fun n33 =>
some ((.tuple #[(vI n33), (.bool true)]), r32.2)
else
none)))
else
(if (n2 == (4 : Int)) = true then
(v0).bind fun a34 =>
((cell h1 a34.block a34.off).bind getS).bind fun l35 =>
(v0).bind fun a36 =>
((cell h1 a36.block a36.off).bind getS).bind fun l37 =>
((cell h1 (List.length h) 3).bind getS).bind fun l38 =>
(gate (neA (some a36) (List.length h1))
(nw1 h1 3 [(vI ((l38.2 : Nat) : Int))] fun h39 =>
(app base h39 3 1 8 l37.1 l37.2 (rawAt h39 (some ⟨(List.length h1), 0, none⟩) (1 * 1)) 1).bind fun p40 =>
((some p40.1).bind getS).bind fun l41 =>
(v0).bind fun a42 =>
(wr base p40.2 a42.block a42.off [(vL l41.1 l41.2)]).bind fun h43 =>
(v0).bind fun a44 =>
((cell h43 a44.block a44.off).bind getS).bind fun l45 =>
((cell h43 (List.length h) 3).bind getS).bind fun l46 =>
(if 0 ≤ ((l46.2 : Nat) : Int) ∧ ((l46.2 : Nat) : Int) ≤ 140737488355328 then
(app base h43 3 1 8 l45.1 l45.2 (some (rep [(vI 0)] (Int.toNat ((l46.2 : Nat) : Int)))) (Int.toNat ((l46.2 : Nat) : Int))).bind fun p47 =>
((some p47.1).bind getS).bind fun l48 =>
(v0).bind fun a49 =>
(wr base p47.2 a49.block a49.off [(vL l48.1 l48.2)]).bind fun h50 =>
(loopL (B72_1 base) [some (.pointer v0), some (.pointer v1), some (vP (List.length h)), some (vI ((l35.2 : Nat) : Int)), some (.bool true), some (vI (0 : Int))] h50).bind fun q51 =>
(if q51.1 = 5 then
j_IB q51.2.1 fun n52 b53 =>
(run (Et base) 132 [(vI (4 : Int)), (vI n52)] q51.2.2).bind fun r54 =>
((some r54.1).bind (getI .i64)).bind fun n55 =>
some ((.tuple #[(vI n55), (.bool b53)]), r54.2)
else
none)
else none)))
else
c_IITL h1 (List.length h) 0 fun n56 n57 s58 l59 =>
(run (Et base) 134 [(.pointer v0), (.pointer v1), (.agg #[(vI n56), (vI n57), (vT s58), (vL l59.1 l59.2)])] h1).bind fun r60 =>
(getTup 2 r60.1).bind fun l61 =>
l_IB l61 fun n62 b63 =>
some ((.tuple #[(vI n62), (.bool b63)]), r60.2))))))
theorem r72 {base : Nat} {v0 : Option Addr} {v1 : Option Addr} {v2_0 : Int} {v2_1 : Int} {v2_2 : ByteArray} {v2_3 : Option Addr} {v2_3n : Nat} {h : AH} {r : Value × AH} (hx : qf72 base v0 v1 v2_0 v2_1 v2_2 v2_3 v2_3n h = some r) : run (Et base) 72 [(.pointer v0), (.pointer v1), (.agg #[(vI v2_0), (vI v2_1), (vT v2_2), (vL v2_3 v2_3n)])] h = some r := run_i (an := a72) Try.func72 (by kernel_rfl) (.trans (by kernel_rfl) hx)
noncomputable def B73_0 (base : Nat) : Body := fun l h => lay s73_0 l fun s => exCode (Et base) (run (Et base)) loopL a73_0 (subC [1, 1, 0, 1, 0, 0] (bodyC Try.f73)) s h (keepK s73_0 e73_0)
theorem B73_0_eq (base : Nat) (v0 : Option Addr) (v0n : Nat) (v3 : Option Addr) (v3n : Nat) (v4 : Int) (h : AH) : B73_0 base [some (vL v0 v0n), some (vL v3 v3n), some (vI v4)] h =
((if (decide (v4 < ((v0n : Nat) : Int))) = true then
(if 0 ≤ v4 ∧ v4 < ((v0n : Nat) : Int) then
((v0 : Option Addr)).bind fun a1 =>
((cell h a1.block (a1.off + Int.toNat v4 * 4)).bind (getI .i64)).bind fun n2 =>
((cell h a1.block ((a1.off + Int.toNat v4 * 4) + 1)).bind (getI .i64)).bind fun n3 =>
((cell h a1.block (((a1.off + Int.toNat v4 * 4) + 1) + 1)).bind getStr).bind fun s4 =>
((cell h a1.block ((((a1.off + Int.toNat v4 * 4) + 1) + 1) + 1)).bind getS).bind fun l5 =>
(run (Et base) 17 [(.agg #[(.int .i64 n2), (.int .i64 n3), (.string s4), (.slice l5.1 l5.2 l5.2)])] h).bind fun r6 =>
((some r6.1).bind (getAgg 4)).bind fun l7 =>
((l7[0]?).bind (getI .i64)).bind fun n8 =>
((l7[1]?).bind (getI .i64)).bind fun n9 =>
((l7[2]?).bind getStr).bind fun s10 =>
((l7[3]?).bind getS).bind fun l11 =>
(if 0 ≤ v4 ∧ v4 < ((v3n : Nat) : Int) then
((v3 : Option Addr)).bind fun a12 =>
(wr base r6.2 a12.block (a12.off + Int.toNat v4 * 4) [(.int .i64 n8), (.int .i64 n9), (.string s10), (.slice l11.1 l11.2 l11.2)]).bind fun h13 =>
some (0, [some (.slice v0 v0n v0n), some (.slice v3 v3n v3n), some (.int .i64 (IntKind.wrap .i64 (v4 + (1 : Int))))], h13)
else none)
else none)
else
some (2, [some (.slice v3 v3n v3n)], h)) : Option (Nat × Slots × AH)) := by kernel_rfl
theorem r73 {base : Nat} {v0 : Option Addr} {v0n : Nat} {h : AH} {r : Value × AH} (hx : ((if ((v0n : Nat) : Int) = ((v0n : Nat) : Int) ∧ 0 ≤ ((v0n : Nat) : Int) ∧ ((v0n : Nat) : Int) * 56 ≤ 140737488355328 ∧ ((v0n : Nat) : Int) ≤ 140737488355328 then
(some (h ++ [some ⟨rep [(.int .i64 0), (.int .i64 0), (.string ⟨#[]⟩), (.slice none 0 0)] (Int.toNat ((v0n : Nat) : Int)), 39⟩])).bind fun h1 =>
(loopL (B73_0 base) [some (.slice v0 v0n v0n), some (.slice (some ⟨(List.length h), 0, none⟩) (Int.toNat ((v0n : Nat) : Int)) (Int.toNat ((v0n : Nat) : Int))), some (.int .i64 (0 : Int))] h1).bind fun q2 =>
(if q2.1 = 2 then
((sget q2.2.1 0).bind getS).bind fun l3 =>
some ((.slice l3.1 l3.2 l3.2), q2.2.2)
else
none)
else none)) = some r) : run (Et base) 73 [(vL v0 v0n)] h = some r := run_i (an := a73) Try.func73 (by kernel_rfl) (.trans (by kernel_rfl) hx)
noncomputable abbrev qf74 (base : Nat) (v0 : Option Addr) (v0n : Nat) (v1 : Int) (v2 : Int) (v3 : Option Addr) (v3n : Nat) (v4_0 : Int) (v4_1 : Int) (v4_2 : ByteArray) (v4_3 : Option Addr) (v4_3n : Nat) (h : AH) : Option (Value × AH) :=
nw1 h 39 [(vI v4_0), (vI v4_1), (vT v4_2), (vL v4_3 v4_3n)] fun h1 =>
(app base h1 9 1 16 none 0 (rawAt h1 v3 (v3n * 1)) v3n).bind fun p2 =>
((some p2.1).bind getS).bind fun l3 =>
(c_IITL p2.2 (List.length h) 0 fun n5 n6 s7 l8 =>
(run (Et base) 102 [(.agg #[(vI n5), (vI n6), (vT s7), (vL l8.1 l8.2)])] p2.2).bind fun r9 =>
((some r9.1).bind getB).bind fun b10 =>
(if (!b10) = true then
some (.inl ([some (vL v0 v0n), some (vI v1), some (vL v3 v3n), some (vP (List.length h)), some (vL l3.1 l3.2), some (.bool true)], r9.2))
else
(if (decide (((v0n : Nat) : Int) > v2)) = true then
some (.inl ([some (vL v0 v0n), some (vI v1), some (vL v3 v3n), some (vP (List.length h)), some (vL l3.1 l3.2), some (.bool true)], r9.2))
else
c_IITL r9.2 (List.length h) 0 fun n11 n12 s13 l14 =>
(run (Et base) 135 [(.agg #[(vI n11), (vI n12), (vT s13), (vL l14.1 l14.2)])] r9.2).bind fun r15 =>
((some r15.1).bind (getI .i64)).bind fun n16 =>
some (.inl ([some (vL v0 v0n), some (vI v1), some (vL v3 v3n), some (vP (List.length h)), some (vL l3.1 l3.2), some (.bool (decide (n16 > (IntKind.wrap .i64 (v2 - ((v0n : Nat) : Int))))))], r15.2))))).bind fun j4 => joinK j4 fun j4 =>
j_LILALB j4.1 fun l17 n18 l19 d20 l21 b22 =>
(if b22 = true then
(run (Et base) 110 [(vL l17.1 l17.2)] j4.2).bind fun r23 =>
((some r23.1).bind getS).bind fun l24 =>
some ((.tuple #[(vL l24.1 l24.2), (vL l21.1 l21.2), (vI (0 : Int)), (.bool false)]), r23.2)
else
(run (Et base) 110 [(vL l17.1 l17.2)] j4.2).bind fun r25 =>
((some r25.1).bind getS).bind fun l26 =>
nw1 r25.2 166 [(vL l26.1 l26.2), (vI n18), (vL l21.1 l21.2), (.bool false)] fun h27 =>
c_IITL h27 d20.block d20.off fun n28 n29 s30 l31 =>
(run (Et base) 136 [(vP (List.length r25.2)), (.agg #[(vI n28), (vI n29), (vT s30), (vL l31.1 l31.2)])] h27).bind fun r32 =>
((some r32.1).bind (getI .i64)).bind fun n33 =>
((cell r32.2 (List.length r25.2) 3).bind getB).bind fun b34 =>
(if b34 = true then
(run (Et base) 110 [(vL l17.1 l17.2)] r32.2).bind fun r35 =>
((some r35.1).bind getS).bind fun l36 =>
(app base r35.2 9 1 16 none 0 (rawAt r35.2 l19.1 (l19.2 * 1)) l19.2).bind fun p37 =>
((some p37.1).bind getS).bind fun l38 =>
some ((.tuple #[(vL l36.1 l36.2), (vL l38.1 l38.2), (vI (0 : Int)), (.bool false)]), p37.2)
else
((cell r32.2 (List.length r25.2) 0).bind getS).bind fun l39 =>
((cell r32.2 (List.length r25.2) 2).bind getS).bind fun l40 =>
some ((.tuple #[(vL l39.1 l39.2), (vL l40.1 l40.2), (vI n33), (.bool true)]), r32.2)))
theorem r74 {base : Nat} {v0 : Option Addr} {v0n : Nat} {v1 : Int} {v2 : Int} {v3 : Option Addr} {v3n : Nat} {v4_0 : Int} {v4_1 : Int} {v4_2 : ByteArray} {v4_3 : Option Addr} {v4_3n : Nat} {h : AH} {r : Value × AH} (hx : qf74 base v0 v0n v1 v2 v3 v3n v4_0 v4_1 v4_2 v4_3 v4_3n h = some r) : run (Et base) 74 [(vL v0 v0n), (vI v1), (vI v2), (vL v3 v3n), (.agg #[(vI v4_0), (vI v4_1), (vT v4_2), (vL v4_3 v4_3n)])] h = some r := run_i (an := a74) Try.func74 (by kernel_rfl) (.trans (by kernel_rfl) hx)
noncomputable def B75_0 (base : Nat) : Body := fun l h => lay s75_0 l fun s => exCode (Et base) (run (Et base)) loopL a75_0 (subC [1, 1, 0, 1, 0, 0] (bodyC Try.f75)) s h (keepK s75_0 e75_0)
theorem B75_0_eq (base : Nat) (v0 : Option Addr) (v0n : Nat) (v1 : Option Addr) (v1n : Nat) (v5 : Int) (h : AH) : B75_0 base [some (vL v0 v0n), some (vL v1 v1n), some (vI v5)] h =
((if (decide (v5 < ((v0n : Nat) : Int))) = true then
(if 0 ≤ v5 ∧ v5 < ((v0n : Nat) : Int) then
((v0 : Option Addr)).bind fun a1 =>
((cell h a1.block (a1.off + Int.toNat v5 * 4)).bind (getI .i64)).bind fun n2 =>
((cell h a1.block ((a1.off + Int.toNat v5 * 4) + 1)).bind (getI .i64)).bind fun n3 =>
((cell h a1.block (((a1.off + Int.toNat v5 * 4) + 1) + 1)).bind getStr).bind fun s4 =>
((cell h a1.block ((((a1.off + Int.toNat v5 * 4) + 1) + 1) + 1)).bind getS).bind fun l5 =>
(if 0 ≤ v5 ∧ v5 < ((v1n : Nat) : Int) then
((v1 : Option Addr)).bind fun a6 =>
((cell h a6.block (a6.off + Int.toNat v5 * 4)).bind (getI .i64)).bind fun n7 =>
((cell h a6.block ((a6.off + Int.toNat v5 * 4) + 1)).bind (getI .i64)).bind fun n8 =>
((cell h a6.block (((a6.off + Int.toNat v5 * 4) + 1) + 1)).bind getStr).bind fun s9 =>
((cell h a6.block ((((a6.off + Int.toNat v5 * 4) + 1) + 1) + 1)).bind getS).bind fun l10 =>
(run (Et base) 21 [(.agg #[(.int .i64 n2), (.int .i64 n3), (.string s4), (.slice l5.1 l5.2 l5.2)]), (.agg #[(.int .i64 n7), (.int .i64 n8), (.string s9), (.slice l10.1 l10.2 l10.2)])] h).bind fun r11 =>
((some r11.1).bind getB).bind fun b12 =>
(if (!b12) = true then
some (1, [some (.bool false)], r11.2)
else
some (0, [some (.slice v0 v0n v0n), some (.slice v1 v1n v1n), some (.int .i64 (IntKind.wrap .i64 (v5 + (1 : Int))))], r11.2))
else none)
else none)
else
some (2, [], h)) : Option (Nat × Slots × AH)) := by kernel_rfl
theorem r75 {base : Nat} {v0 : Option Addr} {v0n : Nat} {v1 : Option Addr} {v1n : Nat} {h : AH} {r : Value × AH} (hx : ((if (((v0n : Nat) : Int) != ((v1n : Nat) : Int)) = true then
some ((.bool false), h)
else
(loopL (B75_0 base) [some (.slice v0 v0n v0n), some (.slice v1 v1n v1n), some (.int .i64 (0 : Int))] h).bind fun q1 =>
(if q1.1 = 1 then
((sget q1.2.1 0).bind getB).bind fun b2 =>
some ((.bool b2), q1.2.2)
else
(if q1.1 = 2 then
some ((.bool true), q1.2.2)
else
none)))) = some r) : run (Et base) 75 [(vL v0 v0n), (vL v1 v1n)] h = some r := run_i (an := a75) Try.func75 (by kernel_rfl) (.trans (by kernel_rfl) hx)
noncomputable def B76_0 (base : Nat) : Body := fun l h => lay s76_0 l fun s => exCode (Et base) (run (Et base)) loopL a76_0 (subC [1, 0, 1, 0, 0] (bodyC Try.f76)) s h (keepK s76_0 e76_0)
theorem B76_0_eq (base : Nat) (v0 : Option Addr) (v0n : Nat) (v1 : Int) (v5 : Int) (h : AH) : B76_0 base [some (vL v0 v0n), some (vI v1), some (vI v5)] h =
((if (decide (v5 < ((v0n : Nat) : Int))) = true then
(if 0 ≤ v5 ∧ v5 < ((v0n : Nat) : Int) then
((v0 : Option Addr)).bind fun a1 =>
(wr base h a1.block (a1.off + Int.toNat v5 * 1) [(.int .i64 v1)]).bind fun h2 =>
some (0, [some (.slice v0 v0n v0n), some (.int .i64 (IntKind.wrap .i64 (v1 + (1 : Int)))), some (.int .i64 (IntKind.wrap .i64 (v5 + (1 : Int))))], h2)
else none)
else
some (2, [some (.int .i64 v1)], h)) : Option (Nat × Slots × AH)) := by kernel_rfl
theorem r76 {base : Nat} {v0 : Option Addr} {v0n : Nat} {v1 : Int} {h : AH} {r : Value × AH} (hx : ((loopL (B76_0 base) [some (.slice v0 v0n v0n), some (.int .i64 v1), some (.int .i64 (0 : Int))] h).bind fun q1 =>
(if q1.1 = 2 then
((sget q1.2.1 0).bind (getI .i64)).bind fun n2 =>
some ((.int .i64 n2), q1.2.2)
else
none)) = some r) : run (Et base) 76 [(vL v0 v0n), (vI v1)] h = some r := run_i (an := a76) Try.func76 (by kernel_rfl) (.trans (by kernel_rfl) hx)
noncomputable def B77_0 (base : Nat) : Body := fun l h => lay s77_0 l fun s => exCode (Et base) (run (Et base)) loopL a77_0 (subC [1, 1, 1, 0, 0, 0] (bodyC Try.f77)) s h (keepK s77_0 e77_0)
theorem B77_0_eq (base : Nat) (v0 : Int) (v3 : ByteArray) (h : AH) : B77_0 base [some (vI v0), some (vT v3)] h =
((if (decide (v0 > (0 : Int))) = true then
(some (h ++ [some ⟨[(.int .u8 (IntKind.wrap .u8 (IntKind.wrap .i64 ((48 : Int) + (Int.tmod v0 (10 : Int))))))], 5⟩])).bind fun h1 =>
((rawAt h1 (some ⟨(List.length h), 0, none⟩) 1).bind u8s).bind fun z2 =>
(if (bstr z2).size + v3.size ≤ 9223372036854775807 then
some (0, [some (.int .i64 (IntKind.wrap .i64 (Int.tdiv v0 (10 : Int)))), some (.string ((bstr z2) ++ v3))], h1)
else none)
else
some (2, [some (.string v3)], h)) : Option (Nat × Slots × AH)) := by kernel_rfl
theorem r77 {base : Nat} {v0 : Int} {h : AH} {r : Value × AH} (hx : ((if (decide (v0 ≤ (0 : Int))) = true then
some ((.string (⟨#[109, 48]⟩ : ByteArray)), h)
else
(loopL (B77_0 base) [some (.int .i64 v0), some (.string (⟨#[]⟩ : ByteArray))] h).bind fun q1 =>
(if q1.1 = 2 then
((sget q1.2.1 0).bind getStr).bind fun s2 =>
(if (⟨#[109]⟩ : ByteArray).size + s2.size ≤ 9223372036854775807 then
some ((.string ((⟨#[109]⟩ : ByteArray) ++ s2)), q1.2.2)
else none)
else
none))) = some r) : run (Et base) 77 [(vI v0)] h = some r := run_i (an := a77) Try.func77 (by kernel_rfl) (.trans (by kernel_rfl) hx)
noncomputable def B78_0 (base : Nat) : Body := fun l h => lay s78_0 l fun s => exCode (Et base) (run (Et base)) loopL a78_0 (subC [1, 0, 1, 0, 0] (bodyC Try.f78)) s h (keepK s78_0 e78_0)
theorem B78_0_eq (base : Nat) (v0 : Option Addr) (v0n : Nat) (v1 : Int) (v5 : Int) (h : AH) : B78_0 base [some (vL v0 v0n), some (vI v1), some (vI v5)] h =
((if (decide (v5 < ((v0n : Nat) : Int))) = true then
(if 0 ≤ v5 ∧ v5 < ((v0n : Nat) : Int) then
((v0 : Option Addr)).bind fun a1 =>
(wr base h a1.block ((a1.off + Int.toNat v5 * 4) + 0) [(.int .i64 v1)]).bind fun h2 =>
(if 0 ≤ v5 ∧ v5 < ((v0n : Nat) : Int) then
((v0 : Option Addr)).bind fun a3 =>
(wr base h2 a3.block ((a3.off + Int.toNat v5 * 4) + 1) [(.int .i64 (IntKind.wrap .i64 (v1 + (1 : Int))))]).bind fun h4 =>
(run (Et base) 77 [(.int .i64 (IntKind.wrap .i64 ((IntKind.wrap .i64 (v1 + (1 : Int))) + (1 : Int))))] h4).bind fun r5 =>
((some r5.1).bind getStr).bind fun s6 =>
(if 0 ≤ v5 ∧ v5 < ((v0n : Nat) : Int) then
((v0 : Option Addr)).bind fun a7 =>
(wr base r5.2 a7.block ((a7.off + Int.toNat v5 * 4) + 2) [(.string s6)]).bind fun h8 =>
(if 0 ≤ v5 ∧ v5 < ((v0n : Nat) : Int) then
((v0 : Option Addr)).bind fun a9 =>
((cell h8 a9.block ((a9.off + Int.toNat v5 * 4) + 3)).bind getS).bind fun l10 =>
(run (Et base) 78 [(.slice l10.1 l10.2 l10.2), (.int .i64 (IntKind.wrap .i64 ((IntKind.wrap .i64 ((IntKind.wrap .i64 (v1 + (1 : Int))) + (1 : Int))) + (1 : Int))))] h8).bind fun r11 =>
((some r11.1).bind (getI .i64)).bind fun n12 =>
some (0, [some (.slice v0 v0n v0n), some (.int .i64 n12), some (.int .i64 (IntKind.wrap .i64 (v5 + (1 : Int))))], r11.2)
else none)
else none)
else none)
else none)
else
some (2, [some (.int .i64 v1)], h)) : Option (Nat × Slots × AH)) := by kernel_rfl
theorem r78 {base : Nat} {v0 : Option Addr} {v0n : Nat} {v1 : Int} {h : AH} {r : Value × AH} (hx : ((loopL (B78_0 base) [some (.slice v0 v0n v0n), some (.int .i64 v1), some (.int .i64 (0 : Int))] h).bind fun q1 =>
(if q1.1 = 2 then
((sget q1.2.1 0).bind (getI .i64)).bind fun n2 =>
some ((.int .i64 n2), q1.2.2)
else
none)) = some r) : run (Et base) 78 [(vL v0 v0n), (vI v1)] h = some r := run_i (an := a78) Try.func78 (by kernel_rfl) (.trans (by kernel_rfl) hx)
noncomputable def B79_0 (base : Nat) : Body := fun l h => lay s79_0 l fun s => exCode (Et base) (run (Et base)) loopL a79_0 (subC [1, 0, 1, 0, 0] (bodyC Try.f79)) s h (keepK s79_0 e79_0)
theorem B79_0_eq (base : Nat) (v0 : Option Addr) (v0n : Nat) (v1 : Int) (v5 : Int) (h : AH) : B79_0 base [some (vL v0 v0n), some (vI v1), some (vI v5)] h =
((if (decide (v5 < ((v0n : Nat) : Int))) = true then
(if 0 ≤ v5 ∧ v5 < ((v0n : Nat) : Int) then
((v0 : Option Addr)).bind fun a1 =>
((cell h a1.block (a1.off + Int.toNat v5 * 1)).bind (getI .i64)).bind fun n2 =>
(if (n2 != v1) = true then
some (1, [some (.int .i64 (-1 : Int))], h)
else
some (0, [some (.slice v0 v0n v0n), some (.int .i64 (IntKind.wrap .i64 (v1 + (1 : Int)))), some (.int .i64 (IntKind.wrap .i64 (v5 + (1 : Int))))], h))
else none)
else
some (2, [some (.int .i64 v1)], h)) : Option (Nat × Slots × AH)) := by kernel_rfl
theorem r79 {base : Nat} {v0 : Option Addr} {v0n : Nat} {v1 : Int} {h : AH} {r : Value × AH} (hx : ((loopL (B79_0 base) [some (.slice v0 v0n v0n), some (.int .i64 v1), some (.int .i64 (0 : Int))] h).bind fun q1 =>
(if q1.1 = 1 then
((sget q1.2.1 0).bind (getI .i64)).bind fun n2 =>
some ((.int .i64 n2), q1.2.2)
else
(if q1.1 = 2 then
((sget q1.2.1 0).bind (getI .i64)).bind fun n3 =>
some ((.int .i64 n3), q1.2.2)
else
none))) = some r) : run (Et base) 79 [(vL v0 v0n), (vI v1)] h = some r := run_i (an := a79) Try.func79 (by kernel_rfl) (.trans (by kernel_rfl) hx)
theorem r83 {base : Nat} {v0 : Int} {v1 : Int} {v2 : Int} {h : AH} {r : Value × AH} (hx : ((if (decide (v0 ≥ v1)) = true then
some ((.bool (decide (v0 ≤ v2))), h)
else
some ((.bool false), h))) = some r) : run (Et base) 83 [(vI v0), (vI v1), (vI v2)] h = some r := run_i (an := a83) Try.func83 (by kernel_rfl) (.trans (by kernel_rfl) hx)
theorem r87 {base : Nat} {v0 : Int} {v1 : Int} {v2 : Int} {h : AH} {r : Value × AH} (hx : ((if (decide (v0 ≥ v1)) = true then
some ((.bool (decide (v0 ≤ v2))), h)
else
some ((.bool false), h))) = some r) : run (Et base) 87 [(vI v0), (vI v1), (vI v2)] h = some r := run_i (an := a87) Try.func87 (by kernel_rfl) (.trans (by kernel_rfl) hx)
theorem r102 {base : Nat} {v0_0 : Int} {v0_1 : Int} {v0_2 : ByteArray} {v0_3 : Option Addr} {v0_3n : Nat} {h : AH} {r : Value × AH} (hx : ((some (h ++ [some ⟨[(.int .i64 v0_0), (.int .i64 v0_1), (.string v0_2), (.slice v0_3 v0_3n v0_3n)], 39⟩])).bind fun h1 =>
((cell h1 (List.length h) 0).bind (getI .i64)).bind fun n2 =>
((cell h1 (List.length h) 1).bind (getI .i64)).bind fun n3 =>
((cell h1 (List.length h) 2).bind getStr).bind fun s4 =>
((cell h1 (List.length h) 3).bind getS).bind fun l5 =>
(run (Et base) 162 [(.agg #[(.int .i64 n2), (.int .i64 n3), (.string s4), (.slice l5.1 l5.2 l5.2)]), (.int .i64 (1 : Int)), (.int .i64 (0 : Int))] h1).bind fun r6 =>
(getTup 2 r6.1).bind fun l7 =>
((l7[0]?).bind (getI .i64)).bind fun n8 =>
((l7[1]?).bind getB).bind fun b9 =>
some ((.bool b9), r6.2)) = some r) : run (Et base) 102 [(.agg #[(vI v0_0), (vI v0_1), (vT v0_2), (vL v0_3 v0_3n)])] h = some r := run_i (an := a102) Try.func102 (by kernel_rfl) (.trans (by kernel_rfl) hx)
theorem r110 {base : Nat} {v0 : Option Addr} {v0n : Nat} {h : AH} {r : Value × AH} (hx : ((app base h 3 1 8 none 0 (rawAt h v0 (v0n * 1)) v0n).bind fun p1 =>
((some p1.1).bind getS).bind fun l2 =>
some ((.slice l2.1 l2.2 l2.2), p1.2)) = some r) : run (Et base) 110 [(vL v0 v0n)] h = some r := run_i (an := a110) Try.func110 (by kernel_rfl) (.trans (by kernel_rfl) hx)
noncomputable def B131_0 (base : Nat) : Body := fun l h => lay s131_0 l fun s => exCode (Et base) (run (Et base)) loopL a131_0 (subC [1, 1, 1, 0, 1, 0, 0] (bodyC Try.f131)) s h (keepK s131_0 e131_0)
theorem B131_0_eq (base : Nat) (v1 : Int) (v2 : Int) (v3 : Addr) (v7 : Int) (h : AH) : B131_0 base [some (vI v1), some (vI v2), some (vA v3), some (vI v7)] h =
((((cell h v3.block (v3.off + 3)).bind getS).bind fun l2 =>
(if (decide (v7 < ((l2.2 : Nat) : Int))) = true then
some (.inl ([some (vI v1), some (vI v2), some (vA v3), some (vI v7), some (.bool (decide (v2 ≥ (0 : Int))))], h))
else
some (.inl ([some (vI v1), some (vI v2), some (vA v3), some (vI v7), some (.bool false)], h)))).bind fun j1 => joinK j1 fun j1 =>
j_IIAIB j1.1 fun n3 n4 d5 n6 b7 =>
(if b7 = true then
((cell j1.2 d5.block (d5.off + 3)).bind getS).bind fun l8 =>
(if 0 ≤ n6 ∧ n6 < ((l8.2 : Nat) : Int) then
((l8.1 : Option Addr)).bind fun a9 =>
c_IITL j1.2 a9.block (a9.off + Int.toNat n6 * 4) fun n10 n11 s12 l13 =>
(run (Et base) 131 [(.agg #[(vI n10), (vI n11), (vT s12), (vL l13.1 l13.2)]), (vI (IntKind.wrap .i64 (n3 - (1 : Int)))), (vI n4)] j1.2).bind fun r14 =>
((some r14.1).bind (getI .i64)).bind fun n15 =>
some (0, [some (vI n3), some (vI n15), some (vA d5), some (vI (IntKind.wrap .i64 (n6 + (1 : Int))))], r14.2)
else none)
else
some (2, [some (vI n4)], j1.2)) : Option (Nat × Slots × AH)) := by kernel_rfl
theorem r131 {base : Nat} {v0_0 : Int} {v0_1 : Int} {v0_2 : ByteArray} {v0_3 : Option Addr} {v0_3n : Nat} {v1 : Int} {v2 : Int} {h : AH} {r : Value × AH} (hx : (nw1 h 39 [(vI v0_0), (vI v0_1), (vT v0_2), (vL v0_3 v0_3n)] fun h1 =>
((if (decide (v1 < (1 : Int))) = true then
some (.inl ([some (vI v1), some (vI v2), some (vP (List.length h)), some (.bool true)], h1))
else
(if (decide (v2 < (1 : Int))) = true then
some (.inl ([some (vI v1), some (vI v2), some (vP (List.length h)), some (.bool true)], h1))
else
c_IITL h1 (List.length h) 0 fun n3 n4 s5 l6 =>
(run (Et base) 173 [(.agg #[(vI n3), (vI n4), (vT s5), (vL l6.1 l6.2)])] h1).bind fun r7 =>
((some r7.1).bind getB).bind fun b8 =>
some (.inl ([some (vI v1), some (vI v2), some (vP (List.length h)), some (.bool (!b8))], r7.2))))).bind fun j2 => joinK j2 fun j2 =>
j_IIAB j2.1 fun n9 n10 d11 b12 =>
(if b12 = true then
some ((vI (-1 : Int)), j2.2)
else
(loopL (B131_0 base) [some (vI n9), some (vI (IntKind.wrap .i64 (n10 - (1 : Int)))), some (vA d11), some (vI (0 : Int))] j2.2).bind fun q13 =>
(if q13.1 = 2 then
((sget q13.2.1 0).bind (getI .i64)).bind fun n14 =>
some ((vI n14), q13.2.2)
else
none))) = some r) : run (Et base) 131 [(.agg #[(vI v0_0), (vI v0_1), (vT v0_2), (vL v0_3 v0_3n)]), (vI v1), (vI v2)] h = some r := run_i (an := a131) Try.func131 (by kernel_rfl) (.trans (by kernel_rfl) hx)
theorem r132 {base : Nat} {v0 : Int} {v1 : Int} {h : AH} {r : Value × AH} (hx : (((run (Et base) 83 [(.int .i64 v0), (.int .i64 (0 : Int)), (.int .i64 (6 : Int))] h).bind fun r2 =>
((some r2.1).bind getB).bind fun b3 =>
(if (!b3) = true then
some (.inl ([some (.int .i64 v0), some (.int .i64 v1), some (.bool true)], r2.2))
else
(run (Et base) 83 [(.int .i64 v1), (.int .i64 (0 : Int)), (.int .i64 (4000000 : Int))] r2.2).bind fun r4 =>
((some r4.1).bind getB).bind fun b5 =>
some (.inl ([some (.int .i64 v0), some (.int .i64 v1), some (.bool (!b5))], r4.2)))).bind fun j1 => joinK j1 fun j1 =>
((sget j1.1 0).bind (getI .i64)).bind fun n6 =>
((sget (j1.1.tail) 0).bind (getI .i64)).bind fun n7 =>
((sget (j1.1.tail.tail) 0).bind getB).bind fun b8 =>
(if b8 = true then
some ((.int .i64 (0 : Int)), j1.2)
else
some ((.int .i64 (IntKind.wrap .i64 ((IntKind.wrap .i64 (n7 * (8 : Int))) + n6))), j1.2))) = some r) : run (Et base) 132 [(vI v0), (vI v1)] h = some r := run_i (an := a132) Try.func132 (by kernel_rfl) (.trans (by kernel_rfl) hx)
theorem r133 {base : Nat} {v0 : Option Addr} {v0n : Nat} {v1 : ByteArray} {h : AH} {r : Value × AH} (hx : ((some (h ++ [some ⟨[], 9⟩])).bind fun h1 =>
(app base h1 9 1 16 (some ⟨(List.length h), 0, none⟩) 0 (rawAt h1 v0 (v0n * 1)) v0n).bind fun p2 =>
((some p2.1).bind getS).bind fun l3 =>
(run (Et base) 140 [(.slice v0 v0n v0n), (.string v1)] p2.2).bind fun r4 =>
((some r4.1).bind (getI .i64)).bind fun n5 =>
((if (decide (n5 ≥ (0 : Int))) = true then
some (.inl ([some (.string v1), some (.slice l3.1 l3.2 l3.2), some (.int .i64 n5), some (.bool true)], r4.2))
else
(run (Et base) 139 [(.string v1)] r4.2).bind fun r7 =>
((some r7.1).bind getB).bind fun b8 =>
(if (!b8) = true then
some (.inl ([some (.string v1), some (.slice l3.1 l3.2 l3.2), some (.int .i64 n5), some (.bool true)], r7.2))
else
some (.inl ([some (.string v1), some (.slice l3.1 l3.2 l3.2), some (.int .i64 n5), some (.bool (decide (((v0n : Nat) : Int) ≥ (200 : Int))))], r7.2))))).bind fun j6 => joinK j6 fun j6 =>
((sget j6.1 0).bind getStr).bind fun s9 =>
((sget (j6.1.tail) 0).bind getS).bind fun l10 =>
((sget (j6.1.tail.tail) 0).bind (getI .i64)).bind fun n11 =>
((sget (j6.1.tail.tail.tail) 0).bind getB).bind fun b12 =>
(if b12 = true then
some ((.tuple #[(.slice l10.1 l10.2 l10.2), (.int .i64 n11)]), j6.2)
else
(some (j6.2 ++ [some ⟨[(.string s9)], 9⟩])).bind fun h13 =>
(app base h13 9 1 16 l10.1 l10.2 (rawAt h13 (some ⟨(List.length j6.2), 0, none⟩) (1 * 1)) 1).bind fun p14 =>
((some p14.1).bind getS).bind fun l15 =>
some ((.tuple #[(.slice l15.1 l15.2 l15.2), (.int .i64 ((l10.2 : Nat) : Int))]), p14.2))) = some r) : run (Et base) 133 [(vL v0 v0n), (vT v1)] h = some r := run_i (an := a133) Try.func133 (by kernel_rfl) (.trans (by kernel_rfl) hx)
noncomputable def B134_0 (base : Nat) : Body := fun l h => lay s134_0 l fun s => exCode (Et base) (run (Et base)) loopL a134_0 (subC [1, 1, 1, 1, 1, 1, 0, 1, 0, 0] (bodyC Try.f134)) s h (keepK s134_0 e134_0)
theorem B134_0_eq (base : Nat) (v0 : Option Addr) (v1 : Option Addr) (v5 : Addr) (v8 : Int) (v9 : Int) (v10 : Bool) (v11 : Int) (h : AH) : B134_0 base [some (.pointer v0), some (.pointer v1), some (vA v5), some (vI v8), some (vI v9), some (.bool v10), some (vI v11)] h =
((if (decide (v11 < v8)) = true then
(((cell h v5.block (v5.off + 3)).bind getS).bind fun l2 =>
(if 0 ≤ v11 ∧ v11 < ((l2.2 : Nat) : Int) then
((l2.1 : Option Addr)).bind fun a3 =>
c_IITL h a3.block (a3.off + Int.toNat v11 * 4) fun n4 n5 s6 l7 =>
(run (Et base) 72 [(.pointer v0), (.pointer v1), (.agg #[(vI n4), (vI n5), (vT s6), (vL l7.1 l7.2)])] h).bind fun r8 =>
(getTup 2 r8.1).bind fun l9 =>
l_IB l9 fun n10 b11 =>
(v0).bind fun a12 =>
((cell r8.2 a12.block a12.off).bind getS).bind fun l13 =>
(if 0 ≤ (IntKind.wrap .i64 (v9 + (IntKind.wrap .i64 ((2 : Int) * v11)))) ∧ (IntKind.wrap .i64 (v9 + (IntKind.wrap .i64 ((2 : Int) * v11)))) < ((l13.2 : Nat) : Int) then
((l13.1 : Option Addr)).bind fun a14 =>
(wr base r8.2 a14.block (a14.off + Int.toNat (IntKind.wrap .i64 (v9 + (IntKind.wrap .i64 ((2 : Int) * v11)))) * 1) [(vI n10)]).bind fun h15 =>
(v0).bind fun a16 =>
((cell h15 a16.block a16.off).bind getS).bind fun l17 =>
(run (Et base) 132 [(vI (5 : Int)), (vI (IntKind.wrap .i64 ((IntKind.wrap .i64 (v9 + (IntKind.wrap .i64 ((2 : Int) * v11)))) + (2 : Int))))] h15).bind fun r18 =>
((some r18.1).bind (getI .i64)).bind fun n19 =>
(gate (sameA h15 r18.2 (some a16) 1)
((if 0 ≤ (IntKind.wrap .i64 ((IntKind.wrap .i64 (v9 + (IntKind.wrap .i64 ((2 : Int) * v11)))) + (1 : Int))) ∧ (IntKind.wrap .i64 ((IntKind.wrap .i64 (v9 + (IntKind.wrap .i64 ((2 : Int) * v11)))) + (1 : Int))) < ((l17.2 : Nat) : Int) then
((l17.1 : Option Addr)).bind fun a20 =>
(wr base r18.2 a20.block (a20.off + Int.toNat (IntKind.wrap .i64 ((IntKind.wrap .i64 (v9 + (IntKind.wrap .i64 ((2 : Int) * v11)))) + (1 : Int))) * 1) [(vI n19)]).bind fun h21 =>
(if v10 = true then
some (.inl ([some (.pointer v0), some (.pointer v1), some (vA v5), some (vI v8), some (vI v9), some (.bool b11), some (vI v11)], h21))
else
some (.inl ([some (.pointer v0), some (.pointer v1), some (vA v5), some (vI v8), some (vI v9), some (.bool false), some (vI v11)], h21)))
else none)))
else none)
else none)).bind fun j1 => joinK j1 fun j1 =>
j_PPAIIBI j1.1 fun p22 p23 d24 n25 n26 b27 n28 =>
some (0, [some (.pointer p22), some (.pointer p23), some (vA d24), some (vI n25), some (vI n26), some (.bool b27), some (vI (IntKind.wrap .i64 (n28 + (1 : Int))))], j1.2)
else
some (2, [some (.pointer v0), some (vI v8), some (vI v9), some (.bool v10)], h)) : Option (Nat × Slots × AH)) := by kernel_rfl
theorem r134 {base : Nat} {v0 : Option Addr} {v1 : Option Addr} {v2_0 : Int} {v2_1 : Int} {v2_2 : ByteArray} {v2_3 : Option Addr} {v2_3n : Nat} {h : AH} {r : Value × AH} (hx : (nw1 h 39 [(vI v2_0), (vI v2_1), (vT v2_2), (vL v2_3 v2_3n)] fun h1 =>
((cell h1 (List.length h) 3).bind getS).bind fun l2 =>
(if (((l2.2 : Nat) : Int) == (0 : Int)) = true then
(run (Et base) 132 [(vI (3 : Int)), (vI (0 : Int))] h1).bind fun r3 =>
((some r3.1).bind (getI .i64)).bind fun n4 =>
some ((.tuple #[(vI n4), (.bool true)]), r3.2)
else
(v0).bind fun a5 =>
((cell h1 a5.block a5.off).bind getS).bind fun l6 =>
(v0).bind fun a7 =>
((cell h1 a7.block a7.off).bind getS).bind fun l8 =>
(if 0 ≤ (IntKind.wrap .i64 ((2 : Int) * ((l2.2 : Nat) : Int))) ∧ (IntKind.wrap .i64 ((2 : Int) * ((l2.2 : Nat) : Int))) ≤ 140737488355328 then
(app base h1 3 1 8 l8.1 l8.2 (some (rep [(vI 0)] (Int.toNat (IntKind.wrap .i64 ((2 : Int) * ((l2.2 : Nat) : Int)))))) (Int.toNat (IntKind.wrap .i64 ((2 : Int) * ((l2.2 : Nat) : Int))))).bind fun p9 =>
((some p9.1).bind getS).bind fun l10 =>
(v0).bind fun a11 =>
(wr base p9.2 a11.block a11.off [(vL l10.1 l10.2)]).bind fun h12 =>
(loopL (B134_0 base) [some (.pointer v0), some (.pointer v1), some (vP (List.length h)), some (vI ((l2.2 : Nat) : Int)), some (vI ((l6.2 : Nat) : Int)), some (.bool true), some (vI (0 : Int))] h12).bind fun q13 =>
(if q13.1 = 2 then
j_PIIB q13.2.1 fun p14 n15 n16 b17 =>
(p14).bind fun a18 =>
((cell q13.2.2 a18.block a18.off).bind getS).bind fun l19 =>
(run (Et base) 132 [(vI (3 : Int)), (vI (0 : Int))] q13.2.2).bind fun r20 =>
((some r20.1).bind (getI .i64)).bind fun n21 =>
(gate (sameA q13.2.2 r20.2 (some a18) 1)
((if 0 ≤ (IntKind.wrap .i64 ((IntKind.wrap .i64 (n16 + (IntKind.wrap .i64 ((2 : Int) * n15)))) - (1 : Int))) ∧ (IntKind.wrap .i64 ((IntKind.wrap .i64 (n16 + (IntKind.wrap .i64 ((2 : Int) * n15)))) - (1 : Int))) < ((l19.2 : Nat) : Int) then
((l19.1 : Option Addr)).bind fun a22 =>
(wr base r20.2 a22.block (a22.off + Int.toNat (IntKind.wrap .i64 ((IntKind.wrap .i64 (n16 + (IntKind.wrap .i64 ((2 : Int) * n15)))) - (1 : Int))) * 1) [(vI n21)]).bind fun h23 =>
(run (Et base) 132 [(vI (5 : Int)), (vI n16)] h23).bind fun r24 =>
((some r24.1).bind (getI .i64)).bind fun n25 =>
some ((.tuple #[(vI n25), (.bool b17)]), r24.2)
else none)))
else
none)
else none))) = some r) : run (Et base) 134 [(.pointer v0), (.pointer v1), (.agg #[(vI v2_0), (vI v2_1), (vT v2_2), (vL v2_3 v2_3n)])] h = some r := run_i (an := a134) Try.func134 (by kernel_rfl) (.trans (by kernel_rfl) hx)
noncomputable def B135_0 (base : Nat) : Body := fun l h => lay s135_0 l fun s => exCode (Et base) (run (Et base)) loopL a135_0 (subC [1, 1, 1, 0, 1, 0, 0] (bodyC Try.f135)) s h (keepK s135_0 e135_0)
theorem B135_0_eq (base : Nat) (v3 : Int) (v27 : Option Addr) (v27n : Nat) (v28 : Int) (v29 : Int) (h : AH) : B135_0 base [some (vI v3), some (vL v27 v27n), some (vI v28), some (vI v29)] h =
((if (decide (v29 < v28)) = true then
(if 0 ≤ v29 ∧ v29 < ((v27n : Nat) : Int) then
((v27 : Option Addr)).bind fun a1 =>
((cell h a1.block (a1.off + Int.toNat v29 * 4)).bind (getI .i64)).bind fun n2 =>
((cell h a1.block ((a1.off + Int.toNat v29 * 4) + 1)).bind (getI .i64)).bind fun n3 =>
((cell h a1.block (((a1.off + Int.toNat v29 * 4) + 1) + 1)).bind getStr).bind fun s4 =>
((cell h a1.block ((((a1.off + Int.toNat v29 * 4) + 1) + 1) + 1)).bind getS).bind fun l5 =>
(some (h ++ [some ⟨[(.int .i64 0), (.int .i64 0), (.string ⟨#[]⟩), (.slice none 0 0)], 39⟩])).bind fun h6 =>
(wr base h6 (List.length h) 0 [(.int .i64 n2), (.int .i64 n3), (.string s4), (.slice l5.1 l5.2 l5.2)]).bind fun h7 =>
((cell h7 (List.length h) 0).bind (getI .i64)).bind fun n8 =>
((cell h7 (List.length h) 1).bind (getI .i64)).bind fun n9 =>
((cell h7 (List.length h) 2).bind getStr).bind fun s10 =>
((cell h7 (List.length h) 3).bind getS).bind fun l11 =>
(run (Et base) 135 [(.agg #[(.int .i64 n8), (.int .i64 n9), (.string s10), (.slice l11.1 l11.2 l11.2)])] h7).bind fun r12 =>
((some r12.1).bind (getI .i64)).bind fun n13 =>
some (0, [some (.int .i64 (IntKind.wrap .i64 (v3 + n13))), some (.slice v27 v27n v27n), some (.int .i64 v28), some (.int .i64 (IntKind.wrap .i64 (v29 + (1 : Int))))], r12.2)
else none)
else
some (3, [some (.int .i64 v3)], h)) : Option (Nat × Slots × AH)) := by kernel_rfl
theorem r135 {base : Nat} {v0_0 : Int} {v0_1 : Int} {v0_2 : ByteArray} {v0_3 : Option Addr} {v0_3n : Nat} {h : AH} {r : Value × AH} (hx : ((some (h ++ [some ⟨[(.int .i64 v0_0), (.int .i64 v0_1), (.string v0_2), (.slice v0_3 v0_3n v0_3n)], 39⟩])).bind fun h1 =>
(((cell h1 (List.length h) 0).bind (getI .i64)).bind fun n3 =>
(if (n3 == (6 : Int)) = true then
((cell h1 (List.length h) 2).bind getStr).bind fun s4 =>
(some ((.int .i64 (IntKind.wrap .i64 ((1 : Int) + (s4.size : Int)))), h1)).map .inr
else
(if (n3 == (4 : Int)) = true then
((cell h1 (List.length h) 3).bind getS).bind fun l5 =>
some (.inl ([some (.pointer (some ⟨(List.length h), 0, none⟩)), some (.int .i64 (IntKind.wrap .i64 ((1 : Int) + ((l5.2 : Nat) : Int))))], h1))
else
(if (n3 == (5 : Int)) = true then
((cell h1 (List.length h) 3).bind getS).bind fun l6 =>
some (.inl ([some (.pointer (some ⟨(List.length h), 0, none⟩)), some (.int .i64 (IntKind.wrap .i64 ((2 : Int) * ((l6.2 : Nat) : Int))))], h1))
else
(some ((.int .i64 (0 : Int)), h1)).map .inr)))).bind fun j2 => joinK j2 fun j2 =>
((sget j2.1 0).bind getA).bind fun d7 =>
((sget (j2.1.tail) 0).bind (getI .i64)).bind fun n8 =>
((cell j2.2 d7.block (d7.off + 3)).bind getS).bind fun l9 =>
(loopL (B135_0 base) [some (.int .i64 n8), some (.slice l9.1 l9.2 l9.2), some (.int .i64 ((l9.2 : Nat) : Int)), some (.int .i64 (0 : Int))] j2.2).bind fun q10 =>
(if q10.1 = 3 then
((sget q10.2.1 0).bind (getI .i64)).bind fun n11 =>
some ((.int .i64 n11), q10.2.2)
else
none)) = some r) : run (Et base) 135 [(.agg #[(vI v0_0), (vI v0_1), (vT v0_2), (vL v0_3 v0_3n)])] h = some r := run_i (an := a135) Try.func135 (by kernel_rfl) (.trans (by kernel_rfl) hx)
end Go.Proofs.Ytjmkbglnjklbcaa.Am
