/- What each of these functions comes to on the abstract machine, one equation a function and one a loop.
Conditions: none. -/
import Derived.Test.YtkdenmdijdmnjaaTb
set_option linter.unusedVariables false
set_option maxRecDepth 100000
namespace Go.Proofs.Ytkdenmdijdmnjaa.Am
open Go Go.RowKit
noncomputable abbrev qf8 (base : Nat) (v0_0 : Option Addr) (v0_0n : Nat) (v0_1 : Option Addr) (v0_1n : Nat) (v0_2 : Int) (v1 : Option Addr) (v1n : Nat) (v2 : Option Addr) (v2n : Nat) (v3 : Int) (v4 : Int) (h : AH) : Option (Value × AH):=
nw1 h 58 [(vL v0_0 v0_0n),(vL v0_1 v0_1n),(vI v0_2)] fun h1=>
(if (decide (((v2n : Nat) : Int) > (1048576 : Int))) = true then
some ((.bool true),h1)
else
c_LLI h1 (List.length h) 0 fun l2 l3 n4=>
(run (Et base) 28 [(.agg #[(vL l2.1 l2.2),(vL l3.1 l3.2),(vI n4)]),(vI (1048576 : Int))] h1).bind fun r5=>
((some r5.1).bind (getI .i64)).bind fun n6=>
(if (decide (n6 < (0 : Int))) = true then
some ((.bool true),r5.2)
else
(run (Et base) 29 [(vL v1 v1n),(vI n6)] r5.2).bind fun r7=>
((some r7.1).bind (getI .i64)).bind fun n8=>
(if (decide (n8 < (0 : Int))) = true then
some ((.bool true),r7.2)
else
c_LLI r7.2 (List.length h) 0 fun l9 l10 n11=>
(run (Et base) 31 [(.agg #[(vL l9.1 l9.2),(vL l10.1 l10.2),(vI n11)])] r7.2).bind fun r12=>
gG (some r12.1) 3 fun l13=>
l_LLI l13 fun l14 l15 n16=>
(run (Et base) 32 [(vL v1 v1n)] r12.2).bind fun r17=>
((some r17.1).bind getS).bind fun l18=>
(run (Et base) 33 [(vL v2 v2n)] r17.2).bind fun r19=>
((some r19.1).bind getS).bind fun l20=>
(run (Et base) 47 [(.agg #[(vL l14.1 l14.2),(vL l15.1 l15.2),(vI n16)]),(vL l18.1 l18.2),(vL l20.1 l20.2),(vI v3),(vI v4)] r19.2).bind fun r21=>
(getTup 3 r21.1).bind fun l22=>
gG (l22[0]?) 3 fun l23=>
l_LLI l23 fun l24 l25 n26=>
((l22[1]?).bind getS).bind fun l27=>
((l22[2]?).bind getB).bind fun b28=>
nw1 r21.2 63 [(vL none 0),(vL none 0),(vI 0)] fun h29=>
(wr base h29 (List.length r21.2) 0 [(vL l24.1 l24.2),(vL l25.1 l25.2),(vI n26)]).bind fun h30=>
c_LLI h30 (List.length h) 0 fun l31 l32 n33=>
(run (Et base) 31 [(.agg #[(vL l31.1 l31.2),(vL l32.1 l32.2),(vI n33)])] h30).bind fun r34=>
gG (some r34.1) 3 fun l35=>
l_LLI l35 fun l36 l37 n38=>
nw1 r34.2 63 [(vL none 0),(vL none 0),(vI 0)] fun h39=>
(wr base h39 (List.length r34.2) 0 [(vL l36.1 l36.2),(vL l37.1 l37.2),(vI n38)]).bind fun h40=>
(run (Et base) 32 [(vL v1 v1n)] h40).bind fun r41=>
((some r41.1).bind getS).bind fun l42=>
(run (Et base) 33 [(vL v2 v2n)] r41.2).bind fun r43=>
((some r43.1).bind getS).bind fun l44=>
c_LLI r43.2 (List.length r34.2) 0 fun l45 l46 n47=>
(run (Et base) 48 [(.agg #[(vL l45.1 l45.2),(vL l46.1 l46.2),(vI n47)]),(vL l42.1 l42.2),(vL l44.1 l44.2),(vI v3),(vI v4)] r43.2).bind fun r48=>
(getTup 3 r48.1).bind fun l49=>
gG (l49[0]?) 3 fun l50=>
l_LLI l50 fun l51 l52 n53=>
((l49[1]?).bind getS).bind fun l54=>
((l49[2]?).bind getB).bind fun b55=>
nw1 r48.2 63 [(vL none 0),(vL none 0),(vI 0)] fun h56=>
(wr base h56 (List.length r48.2) 0 [(vL l51.1 l51.2),(vL l52.1 l52.2),(vI n53)]).bind fun h57=>
(c_LLI h57 (List.length r48.2) 0 fun l59 l60 n61=>
c_LLI h57 (List.length r21.2) 0 fun l62 l63 n64=>
(run (Et base) 35 [(.agg #[(vL l59.1 l59.2),(vL l60.1 l60.2),(vI n61)]),(.agg #[(vL l62.1 l62.2),(vL l63.1 l63.2),(vI n64)])] h57).bind fun r65=>
((some r65.1).bind getB).bind fun b66=>
(if (!b66) = true then
some (.inl ([some (vL v1 v1n),some (vL v2 v2n),some (vI v3),some (vI v4),some (vP (List.length h)),some (vP (List.length r21.2)),some (vL l27.1 l27.2),some (.bool b28),some (vP (List.length r34.2)),some (vL l42.1 l42.2),some (vL l44.1 l44.2),some (vP (List.length r48.2)),some (vL l54.1 l54.2),some (.bool b55),some (.bool true)],r65.2))
else
(run (Et base) 37 [(vL l54.1 l54.2),(vL l27.1 l27.2)] r65.2).bind fun r67=>
((some r67.1).bind getB).bind fun b68=>
(if (!b68) = true then
some (.inl ([some (vL v1 v1n),some (vL v2 v2n),some (vI v3),some (vI v4),some (vP (List.length h)),some (vP (List.length r21.2)),some (vL l27.1 l27.2),some (.bool b28),some (vP (List.length r34.2)),some (vL l42.1 l42.2),some (vL l44.1 l44.2),some (vP (List.length r48.2)),some (vL l54.1 l54.2),some (.bool b55),some (.bool true)],r67.2))
else
some (.inl ([some (vL v1 v1n),some (vL v2 v2n),some (vI v3),some (vI v4),some (vP (List.length h)),some (vP (List.length r21.2)),some (vL l27.1 l27.2),some (.bool b28),some (vP (List.length r34.2)),some (vL l42.1 l42.2),some (vL l44.1 l44.2),some (vP (List.length r48.2)),some (vL l54.1 l54.2),some (.bool b55),some (.bool (!(b55 == b28)))],r67.2))))).bind fun j58=>joinK j58 fun j58=>
j_LLIIAALBALLALBB j58.1 fun l69 l70 n71 n72 d73 d74 l75 b76 d77 l78 l79 d80 l81 b82 b83=>
(if b83 = true then
some ((.bool false),j58.2)
else
c_LLI j58.2 d77.block d77.off fun l84 l85 n86=>
c_LLI j58.2 d73.block d73.off fun l87 l88 n89=>
(run (Et base) 31 [(.agg #[(vL l87.1 l87.2),(vL l88.1 l88.2),(vI n89)])] j58.2).bind fun r90=>
gG (some r90.1) 3 fun l91=>
l_LLI l91 fun l92 l93 n94=>
(gate (sameA j58.2 r90.2 (some d77) 3)
((run (Et base) 35 [(.agg #[(vL l84.1 l84.2),(vL l85.1 l85.2),(vI n86)]),(.agg #[(vL l92.1 l92.2),(vL l93.1 l93.2),(vI n94)])] r90.2).bind fun r95=>
((some r95.1).bind getB).bind fun b96=>
(if (!b96) = true then
some ((.bool false),r95.2)
else
(run (Et base) 32 [(vL l69.1 l69.2)] r95.2).bind fun r97=>
((some r97.1).bind getS).bind fun l98=>
(run (Et base) 36 [(vL l78.1 l78.2),(vL l98.1 l98.2)] r97.2).bind fun r99=>
((some r99.1).bind getB).bind fun b100=>
(if (!b100) = true then
some ((.bool false),r99.2)
else
(run (Et base) 33 [(vL l70.1 l70.2)] r99.2).bind fun r101=>
((some r101.1).bind getS).bind fun l102=>
(run (Et base) 37 [(vL l79.1 l79.2),(vL l102.1 l102.2)] r101.2).bind fun r103=>
((some r103.1).bind getB).bind fun b104=>
(if (!b104) = true then
some ((.bool false),r103.2)
else
c_LLI r103.2 d77.block d77.off fun l105 l106 n107=>
(run (Et base) 40 [(.agg #[(vL l105.1 l105.2),(vL l106.1 l106.2),(vI n107)]),(vI (1 : Int))] r103.2).bind fun r108=>
((some r108.1).bind (getI .i64)).bind fun n109=>
(run (Et base) 41 [(vL l78.1 l78.2),(vI n109)] r108.2).bind fun r110=>
((some r110.1).bind (getI .i64)).bind fun n111=>
(run (Et base) 42 [(vL l79.1 l79.2),(vI n111)] r110.2).bind fun r112=>
((some r112.1).bind (getI .i64)).bind fun n113=>
((if (decide (n113 < (0 : Int))) = true then
some (.inl ([some (vL l69.1 l69.2),some (vL l70.1 l70.2),some (vI n71),some (vI n72),some (vA d73),some (vA d74),some (vL l75.1 l75.2),some (.bool b76),some (vA d80),some (vL l81.1 l81.2),some (.bool true)],r112.2))
else
c_LLI r112.2 d80.block d80.off fun l115 l116 n117=>
c_LLI r112.2 d74.block d74.off fun l118 l119 n120=>
(run (Et base) 35 [(.agg #[(vL l115.1 l115.2),(vL l116.1 l116.2),(vI n117)]),(.agg #[(vL l118.1 l118.2),(vL l119.1 l119.2),(vI n120)])] r112.2).bind fun r121=>
((some r121.1).bind getB).bind fun b122=>
(if (!b122) = true then
some (.inl ([some (vL l69.1 l69.2),some (vL l70.1 l70.2),some (vI n71),some (vI n72),some (vA d73),some (vA d74),some (vL l75.1 l75.2),some (.bool b76),some (vA d80),some (vL l81.1 l81.2),some (.bool true)],r121.2))
else
(run (Et base) 37 [(vL l81.1 l81.2),(vL l75.1 l75.2)] r121.2).bind fun r123=>
((some r123.1).bind getB).bind fun b124=>
(if (!b124) = true then
some (.inl ([some (vL l69.1 l69.2),some (vL l70.1 l70.2),some (vI n71),some (vI n72),some (vA d73),some (vA d74),some (vL l75.1 l75.2),some (.bool b76),some (vA d80),some (vL l81.1 l81.2),some (.bool true)],r123.2))
else
some (.inl ([some (vL l69.1 l69.2),some (vL l70.1 l70.2),some (vI n71),some (vI n72),some (vA d73),some (vA d74),some (vL l75.1 l75.2),some (.bool b76),some (vA d80),some (vL l81.1 l81.2),some (.bool (!(b82 == b76)))],r123.2)))))).bind fun j114=>joinK j114 fun j114=>
j_LLIIAALBALB j114.1 fun l125 l126 n127 n128 d129 d130 l131 b132 d133 l134 b135=>
(if b135 = true then
some ((.bool false),j114.2)
else
c_LLI j114.2 d133.block d133.off fun l136 l137 n138=>
(run (Et base) 40 [(.agg #[(vL l136.1 l136.2),(vL l137.1 l137.2),(vI n138)]),(vI (1 : Int))] j114.2).bind fun r139=>
((some r139.1).bind (getI .i64)).bind fun n140=>
(run (Et base) 42 [(vL l134.1 l134.2),(vI n140)] r139.2).bind fun r141=>
((some r141.1).bind (getI .i64)).bind fun n142=>
c_LLI r141.2 d133.block d133.off fun l143 l144 n145=>
(run (Et base) 43 [(.agg #[(vL l143.1 l143.2),(vL l144.1 l144.2),(vI n145)]),(vI (1 : Int))] r141.2).bind fun r146=>
((some r146.1).bind (getI .i64)).bind fun n147=>
(if (decide (n147 < (0 : Int))) = true then
some ((.bool false),r146.2)
else
(run (Et base) 44 [(vL l134.1 l134.2),(vI n147)] r146.2).bind fun r148=>
((some r148.1).bind (getI .i64)).bind fun n149=>
(if (decide (n149 < (0 : Int))) = true then
some ((.bool false),r148.2)
else
(if (n149 != n142) = true then
some ((.bool false),r148.2)
else
c_LLI r148.2 d129.block d129.off fun l150 l151 n152=>
(run (Et base) 31 [(.agg #[(vL l150.1 l150.2),(vL l151.1 l151.2),(vI n152)])] r148.2).bind fun r153=>
gG (some r153.1) 3 fun l154=>
l_LLI l154 fun l155 l156 n157=>
(run (Et base) 32 [(vL l125.1 l125.2)] r153.2).bind fun r158=>
((some r158.1).bind getS).bind fun l159=>
(run (Et base) 33 [(vL l126.1 l126.2)] r158.2).bind fun r160=>
((some r160.1).bind getS).bind fun l161=>
(run (Et base) 48 [(.agg #[(vL l155.1 l155.2),(vL l156.1 l156.2),(vI n157)]),(vL l159.1 l159.2),(vL l161.1 l161.2),(vI n127),(vI n128)] r160.2).bind fun r162=>
(getTup 3 r162.1).bind fun l163=>
gG (l163[0]?) 3 fun l164=>
l_LLI l164 fun l165 l166 n167=>
((l163[1]?).bind getS).bind fun l168=>
((l163[2]?).bind getB).bind fun b169=>
nw1 r162.2 63 [(vL none 0),(vL none 0),(vI 0)] fun h170=>
(wr base h170 (List.length r162.2) 0 [(vL l165.1 l165.2),(vL l166.1 l166.2),(vI n167)]).bind fun h171=>
(c_LLI h171 (List.length r162.2) 0 fun l173 l174 n175=>
c_LLI h171 d130.block d130.off fun l176 l177 n178=>
(run (Et base) 35 [(.agg #[(vL l173.1 l173.2),(vL l174.1 l174.2),(vI n175)]),(.agg #[(vL l176.1 l176.2),(vL l177.1 l177.2),(vI n178)])] h171).bind fun r179=>
((some r179.1).bind getB).bind fun b180=>
(if (!b180) = true then
some (.inl ([some (vA d133),some (vL l134.1 l134.2),some (vI n142),some (.bool true)],r179.2))
else
(run (Et base) 37 [(vL l168.1 l168.2),(vL l131.1 l131.2)] r179.2).bind fun r181=>
((some r181.1).bind getB).bind fun b182=>
(if (!b182) = true then
some (.inl ([some (vA d133),some (vL l134.1 l134.2),some (vI n142),some (.bool true)],r181.2))
else
some (.inl ([some (vA d133),some (vL l134.1 l134.2),some (vI n142),some (.bool (!(b169 == b132)))],r181.2))))).bind fun j172=>joinK j172 fun j172=>
j_ALIB j172.1 fun d183 l184 n185 b186=>
(if b186 = true then
some ((.bool false),j172.2)
else
c_LLI j172.2 d183.block d183.off fun l187 l188 n189=>
(run (Et base) 43 [(.agg #[(vL l187.1 l187.2),(vL l188.1 l188.2),(vI n189)]),(vI (1 : Int))] j172.2).bind fun r190=>
((some r190.1).bind (getI .i64)).bind fun n191=>
(if (decide (n191 < (0 : Int))) = true then
some ((.bool false),r190.2)
else
(run (Et base) 44 [(vL l184.1 l184.2),(vI n191)] r190.2).bind fun r192=>
((some r192.1).bind (getI .i64)).bind fun n193=>
(if (decide (n193 < (0 : Int))) = true then
some ((.bool false),r192.2)
else
(if (n193 != n185) = true then
some ((.bool false),r192.2)
else
some ((.bool true),r192.2))))))))))))))))))
theorem r8 {base : Nat} {v0_0 : Option Addr} {v0_0n : Nat} {v0_1 : Option Addr} {v0_1n : Nat} {v0_2 : Int} {v1 : Option Addr} {v1n : Nat} {v2 : Option Addr} {v2n : Nat} {v3 : Int} {v4 : Int} {h : AH} {r : Value × AH} (hx : qf8 base v0_0 v0_0n v0_1 v0_1n v0_2 v1 v1n v2 v2n v3 v4 h = some r) : run (Et base) 8 [(.agg #[(vL v0_0 v0_0n),(vL v0_1 v0_1n),(vI v0_2)]),(vL v1 v1n),(vL v2 v2n),(vI v3),(vI v4)] h = some r:=run_i (an:=a8) Try.func8 (by kernel_rfl) (.trans (by kernel_rfl) hx)
theorem r28 {base : Nat} {v0_0 : Option Addr} {v0_0n : Nat} {v0_1 : Option Addr} {v0_1n : Nat} {v0_2 : Int} {v1 : Int} {h : AH} {r : Value × AH} (hx : ((some (h ++ [some ⟨[(.slice v0_0 v0_0n v0_0n),(.slice v0_1 v0_1n v0_1n),(.int .i64 v0_2)],58⟩])).bind fun h1=>
((cell h1 (List.length h) 0).bind getS).bind fun l2=>
(run (Et base) 94 [(.slice l2.1 l2.2 l2.2),(.int .i64 v1)] h1).bind fun r3=>
((some r3.1).bind (getI .i64)).bind fun n4=>
(if (decide (n4 < (0 : Int))) = true then
some ((.int .i64 (-1 : Int)),r3.2)
else
((cell r3.2 (List.length h) 1).bind getS).bind fun l5=>
(run (Et base) 94 [(.slice l5.1 l5.2 l5.2),(.int .i64 n4)] r3.2).bind fun r6=>
((some r6.1).bind (getI .i64)).bind fun n7=>
(if (decide (n7 < (0 : Int))) = true then
some ((.int .i64 (-1 : Int)),r6.2)
else
some ((.int .i64 n7),r6.2)))) = some r) : run (Et base) 28 [(.agg #[(vL v0_0 v0_0n),(vL v0_1 v0_1n),(vI v0_2)]),(vI v1)] h = some r:=run_i (an:=a28) Try.func28 (by kernel_rfl) (.trans (by kernel_rfl) hx)
noncomputable def B29_0 (base : Nat) : Body:=fun l h=>lay s29_0 l fun s=>exCode (Et base) (run (Et base)) loopL a29_0 (subC [1,1,1,0,1,0,0] (bodyC Try.f29)) s h (keepK s29_0 e29_0)
theorem B29_0_eq (base : Nat) (v0 : Option Addr) (v0n : Nat) (v1 : Int) (v5 : Int) (h : AH) : B29_0 base [some (vL v0 v0n),some (vI v1),some (vI v5)] h =
((if (decide (v5 < ((v0n : Nat) : Int))) = true then
(if 0≤v5∧v5 < ((v0n : Nat) : Int) then
((v0 : Option Addr)).bind fun a1=>
((cell h a1.block (a1.off + Int.toNat v5 * 1)).bind getStr).bind fun s2=>
(if (decide ((IntKind.wrap .i64 (v1 - (s2.size : Int))) < (0 : Int))) = true then
some (1,[some (.int .i64 (-1 : Int))],h)
else
some (0,[some (.slice v0 v0n v0n),some (.int .i64 (IntKind.wrap .i64 (v1 - (s2.size : Int)))),some (.int .i64 (IntKind.wrap .i64 (v5 + (1 : Int))))],h))
else none)
else
some (2,[some (.int .i64 v1)],h)) : Option (Nat × Slots × AH)):=by kernel_rfl
theorem r29 {base : Nat} {v0 : Option Addr} {v0n : Nat} {v1 : Int} {h : AH} {r : Value × AH} (hx : ((if (decide ((IntKind.wrap .i64 (v1 - ((v0n : Nat) : Int))) < (0 : Int))) = true then
some ((.int .i64 (-1 : Int)),h)
else
(loopL (B29_0 base) [some (.slice v0 v0n v0n),some (.int .i64 (IntKind.wrap .i64 (v1 - ((v0n : Nat) : Int)))),some (.int .i64 (0 : Int))] h).bind fun q1=>
(if q1.1 = 1 then
((sget q1.2.1 0).bind (getI .i64)).bind fun n2=>
some ((.int .i64 n2),q1.2.2)
else
(if q1.1 = 2 then
((sget q1.2.1 0).bind (getI .i64)).bind fun n3=>
some ((.int .i64 n3),q1.2.2)
else
none)))) = some r) : run (Et base) 29 [(vL v0 v0n),(vI v1)] h = some r:=run_i (an:=a29) Try.func29 (by kernel_rfl) (.trans (by kernel_rfl) hx)
theorem r31 {base : Nat} {v0_0 : Option Addr} {v0_0n : Nat} {v0_1 : Option Addr} {v0_1n : Nat} {v0_2 : Int} {h : AH} {r : Value × AH} (hx : ((some (h ++ [some ⟨[(.slice v0_0 v0_0n v0_0n),(.slice v0_1 v0_1n v0_1n),(.int .i64 v0_2)],58⟩])).bind fun h1=>
(some (h1 ++ [some ⟨[(.slice none 0 0),(.slice none 0 0),(.int .i64 0)],63⟩])).bind fun h2=>
(some (h2 ++ [some ⟨[(.slice none 0 0),(.slice none 0 0),(.int .i64 0)],63⟩])).bind fun h3=>
((cell h3 (List.length h) 0).bind getS).bind fun l4=>
(run (Et base) 33 [(.slice l4.1 l4.2 l4.2)] h3).bind fun r5=>
((some r5.1).bind getS).bind fun l6=>
(wr base r5.2 (List.length h2) 0 [(.slice l6.1 l6.2 l6.2)]).bind fun h7=>
((cell h7 (List.length h) 1).bind getS).bind fun l8=>
(run (Et base) 33 [(.slice l8.1 l8.2 l8.2)] h7).bind fun r9=>
((some r9.1).bind getS).bind fun l10=>
(wr base r9.2 (List.length h2) 1 [(.slice l10.1 l10.2 l10.2)]).bind fun h11=>
((cell h11 (List.length h) 2).bind (getI .i64)).bind fun n12=>
(wr base h11 (List.length h2) 2 [(.int .i64 n12)]).bind fun h13=>
((cell h13 (List.length h2) 0).bind getS).bind fun l14=>
((cell h13 (List.length h2) 1).bind getS).bind fun l15=>
((cell h13 (List.length h2) 2).bind (getI .i64)).bind fun n16=>
(wr base h13 (List.length h1) 0 [(.slice l14.1 l14.2 l14.2),(.slice l15.1 l15.2 l15.2),(.int .i64 n16)]).bind fun h17=>
((cell h17 (List.length h1) 0).bind getS).bind fun l18=>
((cell h17 (List.length h1) 1).bind getS).bind fun l19=>
((cell h17 (List.length h1) 2).bind (getI .i64)).bind fun n20=>
some ((.agg #[(.slice l18.1 l18.2 l18.2),(.slice l19.1 l19.2 l19.2),(.int .i64 n20)]),h17)) = some r) : run (Et base) 31 [(.agg #[(vL v0_0 v0_0n),(vL v0_1 v0_1n),(vI v0_2)])] h = some r:=run_i (an:=a31) Try.func31 (by kernel_rfl) (.trans (by kernel_rfl) hx)
noncomputable def B32_0 (base : Nat) : Body:=fun l h=>lay s32_0 l fun s=>exCode (Et base) (run (Et base)) loopL a32_0 (subC [1,1,0,1,0,0] (bodyC Try.f32)) s h (keepK s32_0 e32_0)
theorem B32_0_eq (base : Nat) (v0 : Option Addr) (v0n : Nat) (v3 : Option Addr) (v3n : Nat) (v4 : Int) (h : AH) : B32_0 base [some (vL v0 v0n),some (vL v3 v3n),some (vI v4)] h =
((if (decide (v4 < ((v0n : Nat) : Int))) = true then
(if 0≤v4∧v4 < ((v0n : Nat) : Int) then
((v0 : Option Addr)).bind fun a1=>
((cell h a1.block (a1.off + Int.toNat v4 * 1)).bind getStr).bind fun s2=>
(if 0≤v4∧v4 < ((v3n : Nat) : Int) then
((v3 : Option Addr)).bind fun a3=>
(wr base h a3.block (a3.off + Int.toNat v4 * 1) [(.string s2)]).bind fun h4=>
some (0,[some (.slice v0 v0n v0n),some (.slice v3 v3n v3n),some (.int .i64 (IntKind.wrap .i64 (v4 + (1 : Int))))],h4)
else none)
else none)
else
some (2,[some (.slice v3 v3n v3n)],h)) : Option (Nat × Slots × AH)):=by kernel_rfl
theorem r32 {base : Nat} {v0 : Option Addr} {v0n : Nat} {h : AH} {r : Value × AH} (hx : ((if ((v0n : Nat) : Int) = ((v0n : Nat) : Int)∧0≤((v0n : Nat) : Int)∧((v0n : Nat) : Int) * 16≤140737488355328∧((v0n : Nat) : Int)≤140737488355328 then
(some (h ++ [some ⟨rep [(.string ⟨#[]⟩)] (Int.toNat ((v0n : Nat) : Int)),9⟩])).bind fun h1=>
(loopL (B32_0 base) [some (.slice v0 v0n v0n),some (.slice (some ⟨(List.length h),0,none⟩) (Int.toNat ((v0n : Nat) : Int)) (Int.toNat ((v0n : Nat) : Int))),some (.int .i64 (0 : Int))] h1).bind fun q2=>
(if q2.1 = 2 then
((sget q2.2.1 0).bind getS).bind fun l3=>
some ((.slice l3.1 l3.2 l3.2),q2.2.2)
else
none)
else none)) = some r) : run (Et base) 32 [(vL v0 v0n)] h = some r:=run_i (an:=a32) Try.func32 (by kernel_rfl) (.trans (by kernel_rfl) hx)
noncomputable def B33_0 (base : Nat) : Body:=fun l h=>lay s33_0 l fun s=>exCode (Et base) (run (Et base)) loopL a33_0 (subC [1,1,0,1,0,0] (bodyC Try.f33)) s h (keepK s33_0 e33_0)
theorem B33_0_eq (base : Nat) (v0 : Option Addr) (v0n : Nat) (v3 : Option Addr) (v3n : Nat) (v4 : Int) (h : AH) : B33_0 base [some (vL v0 v0n),some (vL v3 v3n),some (vI v4)] h =
((if (decide (v4 < ((v0n : Nat) : Int))) = true then
(if 0≤v4∧v4 < ((v0n : Nat) : Int) then
((v0 : Option Addr)).bind fun a1=>
((cell h a1.block (a1.off + Int.toNat v4 * 1)).bind (getI .i64)).bind fun n2=>
(if 0≤v4∧v4 < ((v3n : Nat) : Int) then
((v3 : Option Addr)).bind fun a3=>
(wr base h a3.block (a3.off + Int.toNat v4 * 1) [(.int .i64 n2)]).bind fun h4=>
some (0,[some (.slice v0 v0n v0n),some (.slice v3 v3n v3n),some (.int .i64 (IntKind.wrap .i64 (v4 + (1 : Int))))],h4)
else none)
else none)
else
some (2,[some (.slice v3 v3n v3n)],h)) : Option (Nat × Slots × AH)):=by kernel_rfl
theorem r33 {base : Nat} {v0 : Option Addr} {v0n : Nat} {h : AH} {r : Value × AH} (hx : ((if ((v0n : Nat) : Int) = ((v0n : Nat) : Int)∧0≤((v0n : Nat) : Int)∧((v0n : Nat) : Int) * 8≤140737488355328∧((v0n : Nat) : Int)≤140737488355328 then
(some (h ++ [some ⟨rep [(.int .i64 0)] (Int.toNat ((v0n : Nat) : Int)),3⟩])).bind fun h1=>
(loopL (B33_0 base) [some (.slice v0 v0n v0n),some (.slice (some ⟨(List.length h),0,none⟩) (Int.toNat ((v0n : Nat) : Int)) (Int.toNat ((v0n : Nat) : Int))),some (.int .i64 (0 : Int))] h1).bind fun q2=>
(if q2.1 = 2 then
((sget q2.2.1 0).bind getS).bind fun l3=>
some ((.slice l3.1 l3.2 l3.2),q2.2.2)
else
none)
else none)) = some r) : run (Et base) 33 [(vL v0 v0n)] h = some r:=run_i (an:=a33) Try.func33 (by kernel_rfl) (.trans (by kernel_rfl) hx)
theorem r35 {base : Nat} {v0_0 : Option Addr} {v0_0n : Nat} {v0_1 : Option Addr} {v0_1n : Nat} {v0_2 : Int} {v1_0 : Option Addr} {v1_0n : Nat} {v1_1 : Option Addr} {v1_1n : Nat} {v1_2 : Int} {h : AH} {r : Value × AH} (hx : ((some (h ++ [some ⟨[(.slice v0_0 v0_0n v0_0n),(.slice v0_1 v0_1n v0_1n),(.int .i64 v0_2)],63⟩])).bind fun h1=>
(some (h1 ++ [some ⟨[(.slice v1_0 v1_0n v1_0n),(.slice v1_1 v1_1n v1_1n),(.int .i64 v1_2)],63⟩])).bind fun h2=>
((cell h2 (List.length h) 0).bind getS).bind fun l3=>
((cell h2 (List.length h1) 0).bind getS).bind fun l4=>
(run (Et base) 37 [(.slice l3.1 l3.2 l3.2),(.slice l4.1 l4.2 l4.2)] h2).bind fun r5=>
((some r5.1).bind getB).bind fun b6=>
(if (!b6) = true then
some ((.bool false),r5.2)
else
((cell r5.2 (List.length h) 1).bind getS).bind fun l7=>
((cell r5.2 (List.length h1) 1).bind getS).bind fun l8=>
(run (Et base) 37 [(.slice l7.1 l7.2 l7.2),(.slice l8.1 l8.2 l8.2)] r5.2).bind fun r9=>
((some r9.1).bind getB).bind fun b10=>
(if (!b10) = true then
some ((.bool false),r9.2)
else
((cell r9.2 (List.length h) 2).bind (getI .i64)).bind fun n11=>
((cell r9.2 (List.length h1) 2).bind (getI .i64)).bind fun n12=>
(if (n11 != n12) = true then
some ((.bool false),r9.2)
else
some ((.bool true),r9.2))))) = some r) : run (Et base) 35 [(.agg #[(vL v0_0 v0_0n),(vL v0_1 v0_1n),(vI v0_2)]),(.agg #[(vL v1_0 v1_0n),(vL v1_1 v1_1n),(vI v1_2)])] h = some r:=run_i (an:=a35) Try.func35 (by kernel_rfl) (.trans (by kernel_rfl) hx)
noncomputable def B36_0 (base : Nat) : Body:=fun l h=>lay s36_0 l fun s=>exCode (Et base) (run (Et base)) loopL a36_0 (subC [1,1,0,1,0,0] (bodyC Try.f36)) s h (keepK s36_0 e36_0)
theorem B36_0_eq (base : Nat) (v0 : Option Addr) (v0n : Nat) (v1 : Option Addr) (v1n : Nat) (v5 : Int) (h : AH) : B36_0 base [some (vL v0 v0n),some (vL v1 v1n),some (vI v5)] h =
((if (decide (v5 < ((v0n : Nat) : Int))) = true then
(if 0≤v5∧v5 < ((v0n : Nat) : Int) then
((v0 : Option Addr)).bind fun a1=>
((cell h a1.block (a1.off + Int.toNat v5 * 1)).bind getStr).bind fun s2=>
(if 0≤v5∧v5 < ((v1n : Nat) : Int) then
((v1 : Option Addr)).bind fun a3=>
((cell h a3.block (a3.off + Int.toNat v5 * 1)).bind getStr).bind fun s4=>
(if (!(s2.toList == s4.toList)) = true then
some (1,[some (.bool false)],h)
else
some (0,[some (.slice v0 v0n v0n),some (.slice v1 v1n v1n),some (.int .i64 (IntKind.wrap .i64 (v5 + (1 : Int))))],h))
else none)
else none)
else
some (2,[],h)) : Option (Nat × Slots × AH)):=by kernel_rfl
theorem r36 {base : Nat} {v0 : Option Addr} {v0n : Nat} {v1 : Option Addr} {v1n : Nat} {h : AH} {r : Value × AH} (hx : ((if (((v0n : Nat) : Int) != ((v1n : Nat) : Int)) = true then
some ((.bool false),h)
else
(loopL (B36_0 base) [some (.slice v0 v0n v0n),some (.slice v1 v1n v1n),some (.int .i64 (0 : Int))] h).bind fun q1=>
(if q1.1 = 1 then
((sget q1.2.1 0).bind getB).bind fun b2=>
some ((.bool b2),q1.2.2)
else
(if q1.1 = 2 then
some ((.bool true),q1.2.2)
else
none)))) = some r) : run (Et base) 36 [(vL v0 v0n),(vL v1 v1n)] h = some r:=run_i (an:=a36) Try.func36 (by kernel_rfl) (.trans (by kernel_rfl) hx)
noncomputable def B37_0 (base : Nat) : Body:=fun l h=>lay s37_0 l fun s=>exCode (Et base) (run (Et base)) loopL a37_0 (subC [1,1,0,1,0,0] (bodyC Try.f37)) s h (keepK s37_0 e37_0)
theorem B37_0_eq (base : Nat) (v0 : Option Addr) (v0n : Nat) (v1 : Option Addr) (v1n : Nat) (v5 : Int) (h : AH) : B37_0 base [some (vL v0 v0n),some (vL v1 v1n),some (vI v5)] h =
((if (decide (v5 < ((v0n : Nat) : Int))) = true then
(if 0≤v5∧v5 < ((v0n : Nat) : Int) then
((v0 : Option Addr)).bind fun a1=>
((cell h a1.block (a1.off + Int.toNat v5 * 1)).bind (getI .i64)).bind fun n2=>
(if 0≤v5∧v5 < ((v1n : Nat) : Int) then
((v1 : Option Addr)).bind fun a3=>
((cell h a3.block (a3.off + Int.toNat v5 * 1)).bind (getI .i64)).bind fun n4=>
(if (n2 != n4) = true then
some (1,[some (.bool false)],h)
else
some (0,[some (.slice v0 v0n v0n),some (.slice v1 v1n v1n),some (.int .i64 (IntKind.wrap .i64 (v5 + (1 : Int))))],h))
else none)
else none)
else
some (2,[],h)) : Option (Nat × Slots × AH)):=by kernel_rfl
theorem r37 {base : Nat} {v0 : Option Addr} {v0n : Nat} {v1 : Option Addr} {v1n : Nat} {h : AH} {r : Value × AH} (hx : ((if (((v0n : Nat) : Int) != ((v1n : Nat) : Int)) = true then
some ((.bool false),h)
else
(loopL (B37_0 base) [some (.slice v0 v0n v0n),some (.slice v1 v1n v1n),some (.int .i64 (0 : Int))] h).bind fun q1=>
(if q1.1 = 1 then
((sget q1.2.1 0).bind getB).bind fun b2=>
some ((.bool b2),q1.2.2)
else
(if q1.1 = 2 then
some ((.bool true),q1.2.2)
else
none)))) = some r) : run (Et base) 37 [(vL v0 v0n),(vL v1 v1n)] h = some r:=run_i (an:=a37) Try.func37 (by kernel_rfl) (.trans (by kernel_rfl) hx)
theorem r38 {base : Nat} {v0_0 : Option Addr} {v0_0n : Nat} {v0_1 : Option Addr} {v0_1n : Nat} {v0_2 : Int} {v1 : Option Addr} {v1n : Nat} {v2 : Option Addr} {v2n : Nat} {h : AH} {r : Value × AH} (hx : ((some (h ++ [some ⟨[(.slice v0_0 v0_0n v0_0n),(.slice v0_1 v0_1n v0_1n),(.int .i64 v0_2)],63⟩])).bind fun h1=>
(some (h1 ++ [some ⟨[(.slice none 0 0),(.slice none 0 0),(.int .i64 0)],63⟩])).bind fun h2=>
((cell h2 (List.length h) 0).bind getS).bind fun l3=>
((cell h2 (List.length h) 1).bind getS).bind fun l4=>
((cell h2 (List.length h) 2).bind (getI .i64)).bind fun n5=>
(run (Et base) 98 [(.agg #[(.slice l3.1 l3.2 l3.2),(.slice l4.1 l4.2 l4.2),(.int .i64 n5)]),(.slice v1 v1n v1n),(.slice v2 v2n v2n),(.bool true)] h2).bind fun r6=>
(getTup 3 r6.1).bind fun l7=>
((l7[0]?).bind (getAgg 3)).bind fun l8=>
((l8[0]?).bind getS).bind fun l9=>
((l8[1]?).bind getS).bind fun l10=>
((l8[2]?).bind (getI .i64)).bind fun n11=>
((l7[1]?).bind getS).bind fun l12=>
((l7[2]?).bind getB).bind fun b13=>
(wr base r6.2 (List.length h1) 0 [(.slice l9.1 l9.2 l9.2),(.slice l10.1 l10.2 l10.2),(.int .i64 n11)]).bind fun h14=>
((cell h14 (List.length h1) 0).bind getS).bind fun l15=>
((cell h14 (List.length h1) 1).bind getS).bind fun l16=>
((cell h14 (List.length h1) 2).bind (getI .i64)).bind fun n17=>
some ((.tuple #[(.agg #[(.slice l15.1 l15.2 l15.2),(.slice l16.1 l16.2 l16.2),(.int .i64 n17)]),(.slice l12.1 l12.2 l12.2),(.bool b13)]),h14)) = some r) : run (Et base) 38 [(.agg #[(vL v0_0 v0_0n),(vL v0_1 v0_1n),(vI v0_2)]),(vL v1 v1n),(vL v2 v2n)] h = some r:=run_i (an:=a38) Try.func38 (by kernel_rfl) (.trans (by kernel_rfl) hx)
theorem r39 {base : Nat} {v0_0 : Option Addr} {v0_0n : Nat} {v0_1 : Option Addr} {v0_1n : Nat} {v0_2 : Int} {v1 : Option Addr} {v1n : Nat} {v2 : Option Addr} {v2n : Nat} {h : AH} {r : Value × AH} (hx : ((some (h ++ [some ⟨[(.slice v0_0 v0_0n v0_0n),(.slice v0_1 v0_1n v0_1n),(.int .i64 v0_2)],63⟩])).bind fun h1=>
(some (h1 ++ [some ⟨[(.slice none 0 0),(.slice none 0 0),(.int .i64 0)],63⟩])).bind fun h2=>
((cell h2 (List.length h) 0).bind getS).bind fun l3=>
((cell h2 (List.length h) 1).bind getS).bind fun l4=>
((cell h2 (List.length h) 2).bind (getI .i64)).bind fun n5=>
(run (Et base) 99 [(.agg #[(.slice l3.1 l3.2 l3.2),(.slice l4.1 l4.2 l4.2),(.int .i64 n5)]),(.slice v1 v1n v1n),(.slice v2 v2n v2n),(.bool true)] h2).bind fun r6=>
(getTup 3 r6.1).bind fun l7=>
((l7[0]?).bind (getAgg 3)).bind fun l8=>
((l8[0]?).bind getS).bind fun l9=>
((l8[1]?).bind getS).bind fun l10=>
((l8[2]?).bind (getI .i64)).bind fun n11=>
((l7[1]?).bind getS).bind fun l12=>
((l7[2]?).bind getB).bind fun b13=>
(wr base r6.2 (List.length h1) 0 [(.slice l9.1 l9.2 l9.2),(.slice l10.1 l10.2 l10.2),(.int .i64 n11)]).bind fun h14=>
((cell h14 (List.length h1) 0).bind getS).bind fun l15=>
((cell h14 (List.length h1) 1).bind getS).bind fun l16=>
((cell h14 (List.length h1) 2).bind (getI .i64)).bind fun n17=>
some ((.tuple #[(.agg #[(.slice l15.1 l15.2 l15.2),(.slice l16.1 l16.2 l16.2),(.int .i64 n17)]),(.slice l12.1 l12.2 l12.2),(.bool b13)]),h14)) = some r) : run (Et base) 39 [(.agg #[(vL v0_0 v0_0n),(vL v0_1 v0_1n),(vI v0_2)]),(vL v1 v1n),(vL v2 v2n)] h = some r:=run_i (an:=a39) Try.func39 (by kernel_rfl) (.trans (by kernel_rfl) hx)
theorem r40 {base : Nat} {v0_0 : Option Addr} {v0_0n : Nat} {v0_1 : Option Addr} {v0_1n : Nat} {v0_2 : Int} {v1 : Int} {h : AH} {r : Value × AH} (hx : ((some (h ++ [some ⟨[(.slice v0_0 v0_0n v0_0n),(.slice v0_1 v0_1n v0_1n),(.int .i64 v0_2)],63⟩])).bind fun h1=>
((cell h1 (List.length h) 0).bind getS).bind fun l2=>
(run (Et base) 42 [(.slice l2.1 l2.2 l2.2),(.int .i64 v1)] h1).bind fun r3=>
((some r3.1).bind (getI .i64)).bind fun n4=>
((cell r3.2 (List.length h) 1).bind getS).bind fun l5=>
(run (Et base) 42 [(.slice l5.1 l5.2 l5.2),(.int .i64 n4)] r3.2).bind fun r6=>
((some r6.1).bind (getI .i64)).bind fun n7=>
some ((.int .i64 n7),r6.2)) = some r) : run (Et base) 40 [(.agg #[(vL v0_0 v0_0n),(vL v0_1 v0_1n),(vI v0_2)]),(vI v1)] h = some r:=run_i (an:=a40) Try.func40 (by kernel_rfl) (.trans (by kernel_rfl) hx)
noncomputable def B41_0 (base : Nat) : Body:=fun l h=>lay s41_0 l fun s=>exCode (Et base) (run (Et base)) loopL a41_0 (subC [1,0,1,0,0] (bodyC Try.f41)) s h (keepK s41_0 e41_0)
theorem B41_0_eq (base : Nat) (v0 : Option Addr) (v0n : Nat) (v1 : Int) (v5 : Int) (h : AH) : B41_0 base [some (vL v0 v0n),some (vI v1),some (vI v5)] h =
((if (decide (v5 < ((v0n : Nat) : Int))) = true then
(run (Et base) 100 [(.int .i64 v1)] h).bind fun r1=>
((some r1.1).bind getStr).bind fun s2=>
(if 0≤v5∧v5 < ((v0n : Nat) : Int) then
((v0 : Option Addr)).bind fun a3=>
(wr base r1.2 a3.block (a3.off + Int.toNat v5 * 1) [(.string s2)]).bind fun h4=>
some (0,[some (.slice v0 v0n v0n),some (.int .i64 (IntKind.wrap .i64 (v1 + (1 : Int)))),some (.int .i64 (IntKind.wrap .i64 (v5 + (1 : Int))))],h4)
else none)
else
some (2,[some (.int .i64 v1)],h)) : Option (Nat × Slots × AH)):=by kernel_rfl
theorem r41 {base : Nat} {v0 : Option Addr} {v0n : Nat} {v1 : Int} {h : AH} {r : Value × AH} (hx : ((loopL (B41_0 base) [some (.slice v0 v0n v0n),some (.int .i64 v1),some (.int .i64 (0 : Int))] h).bind fun q1=>
(if q1.1 = 2 then
((sget q1.2.1 0).bind (getI .i64)).bind fun n2=>
some ((.int .i64 n2),q1.2.2)
else
none)) = some r) : run (Et base) 41 [(vL v0 v0n),(vI v1)] h = some r:=run_i (an:=a41) Try.func41 (by kernel_rfl) (.trans (by kernel_rfl) hx)
noncomputable def B42_0 (base : Nat) : Body:=fun l h=>lay s42_0 l fun s=>exCode (Et base) (run (Et base)) loopL a42_0 (subC [1,0,1,0,0] (bodyC Try.f42)) s h (keepK s42_0 e42_0)
theorem B42_0_eq (base : Nat) (v0 : Option Addr) (v0n : Nat) (v1 : Int) (v5 : Int) (h : AH) : B42_0 base [some (vL v0 v0n),some (vI v1),some (vI v5)] h =
((if (decide (v5 < ((v0n : Nat) : Int))) = true then
(if 0≤v5∧v5 < ((v0n : Nat) : Int) then
((v0 : Option Addr)).bind fun a1=>
(wr base h a1.block (a1.off + Int.toNat v5 * 1) [(.int .i64 v1)]).bind fun h2=>
some (0,[some (.slice v0 v0n v0n),some (.int .i64 (IntKind.wrap .i64 (v1 + (1 : Int)))),some (.int .i64 (IntKind.wrap .i64 (v5 + (1 : Int))))],h2)
else none)
else
some (2,[some (.int .i64 v1)],h)) : Option (Nat × Slots × AH)):=by kernel_rfl
theorem r42 {base : Nat} {v0 : Option Addr} {v0n : Nat} {v1 : Int} {h : AH} {r : Value × AH} (hx : ((loopL (B42_0 base) [some (.slice v0 v0n v0n),some (.int .i64 v1),some (.int .i64 (0 : Int))] h).bind fun q1=>
(if q1.1 = 2 then
((sget q1.2.1 0).bind (getI .i64)).bind fun n2=>
some ((.int .i64 n2),q1.2.2)
else
none)) = some r) : run (Et base) 42 [(vL v0 v0n),(vI v1)] h = some r:=run_i (an:=a42) Try.func42 (by kernel_rfl) (.trans (by kernel_rfl) hx)
theorem r43 {base : Nat} {v0_0 : Option Addr} {v0_0n : Nat} {v0_1 : Option Addr} {v0_1n : Nat} {v0_2 : Int} {v1 : Int} {h : AH} {r : Value × AH} (hx : ((some (h ++ [some ⟨[(.slice v0_0 v0_0n v0_0n),(.slice v0_1 v0_1n v0_1n),(.int .i64 v0_2)],63⟩])).bind fun h1=>
((cell h1 (List.length h) 0).bind getS).bind fun l2=>
(run (Et base) 44 [(.slice l2.1 l2.2 l2.2),(.int .i64 v1)] h1).bind fun r3=>
((some r3.1).bind (getI .i64)).bind fun n4=>
(if (decide (n4 < (0 : Int))) = true then
some ((.int .i64 (-1 : Int)),r3.2)
else
((cell r3.2 (List.length h) 1).bind getS).bind fun l5=>
(run (Et base) 44 [(.slice l5.1 l5.2 l5.2),(.int .i64 n4)] r3.2).bind fun r6=>
((some r6.1).bind (getI .i64)).bind fun n7=>
(if (decide (n7 < (0 : Int))) = true then
some ((.int .i64 (-1 : Int)),r6.2)
else
some ((.int .i64 n7),r6.2)))) = some r) : run (Et base) 43 [(.agg #[(vL v0_0 v0_0n),(vL v0_1 v0_1n),(vI v0_2)]),(vI v1)] h = some r:=run_i (an:=a43) Try.func43 (by kernel_rfl) (.trans (by kernel_rfl) hx)
noncomputable def B44_0 (base : Nat) : Body:=fun l h=>lay s44_0 l fun s=>exCode (Et base) (run (Et base)) loopL a44_0 (subC [1,0,1,0,0] (bodyC Try.f44)) s h (keepK s44_0 e44_0)
theorem B44_0_eq (base : Nat) (v0 : Option Addr) (v0n : Nat) (v1 : Int) (v5 : Int) (h : AH) : B44_0 base [some (vL v0 v0n),some (vI v1),some (vI v5)] h =
((if (decide (v5 < ((v0n : Nat) : Int))) = true then
(if 0≤v5∧v5 < ((v0n : Nat) : Int) then
((v0 : Option Addr)).bind fun a1=>
((cell h a1.block (a1.off + Int.toNat v5 * 1)).bind (getI .i64)).bind fun n2=>
(if (n2 != v1) = true then
some (1,[some (.int .i64 (-1 : Int))],h)
else
some (0,[some (.slice v0 v0n v0n),some (.int .i64 (IntKind.wrap .i64 (v1 + (1 : Int)))),some (.int .i64 (IntKind.wrap .i64 (v5 + (1 : Int))))],h))
else none)
else
some (2,[some (.int .i64 v1)],h)) : Option (Nat × Slots × AH)):=by kernel_rfl
theorem r44 {base : Nat} {v0 : Option Addr} {v0n : Nat} {v1 : Int} {h : AH} {r : Value × AH} (hx : ((loopL (B44_0 base) [some (.slice v0 v0n v0n),some (.int .i64 v1),some (.int .i64 (0 : Int))] h).bind fun q1=>
(if q1.1 = 1 then
((sget q1.2.1 0).bind (getI .i64)).bind fun n2=>
some ((.int .i64 n2),q1.2.2)
else
(if q1.1 = 2 then
((sget q1.2.1 0).bind (getI .i64)).bind fun n3=>
some ((.int .i64 n3),q1.2.2)
else
none))) = some r) : run (Et base) 44 [(vL v0 v0n),(vI v1)] h = some r:=run_i (an:=a44) Try.func44 (by kernel_rfl) (.trans (by kernel_rfl) hx)
theorem r45 {base : Nat} {v0_0 : Option Addr} {v0_0n : Nat} {v0_1 : Option Addr} {v0_1n : Nat} {v0_2 : Int} {v1 : Option Addr} {v1n : Nat} {v2 : Option Addr} {v2n : Nat} {h : AH} {r : Value × AH} (hx : ((some (h ++ [some ⟨[(.slice v0_0 v0_0n v0_0n),(.slice v0_1 v0_1n v0_1n),(.int .i64 v0_2)],63⟩])).bind fun h1=>
(some (h1 ++ [some ⟨[(.slice none 0 0),(.slice none 0 0),(.int .i64 0)],63⟩])).bind fun h2=>
((cell h2 (List.length h) 0).bind getS).bind fun l3=>
((cell h2 (List.length h) 1).bind getS).bind fun l4=>
((cell h2 (List.length h) 2).bind (getI .i64)).bind fun n5=>
(run (Et base) 98 [(.agg #[(.slice l3.1 l3.2 l3.2),(.slice l4.1 l4.2 l4.2),(.int .i64 n5)]),(.slice v1 v1n v1n),(.slice v2 v2n v2n),(.bool false)] h2).bind fun r6=>
(getTup 3 r6.1).bind fun l7=>
((l7[0]?).bind (getAgg 3)).bind fun l8=>
((l8[0]?).bind getS).bind fun l9=>
((l8[1]?).bind getS).bind fun l10=>
((l8[2]?).bind (getI .i64)).bind fun n11=>
((l7[1]?).bind getS).bind fun l12=>
((l7[2]?).bind getB).bind fun b13=>
(wr base r6.2 (List.length h1) 0 [(.slice l9.1 l9.2 l9.2),(.slice l10.1 l10.2 l10.2),(.int .i64 n11)]).bind fun h14=>
((cell h14 (List.length h1) 0).bind getS).bind fun l15=>
((cell h14 (List.length h1) 1).bind getS).bind fun l16=>
((cell h14 (List.length h1) 2).bind (getI .i64)).bind fun n17=>
some ((.tuple #[(.agg #[(.slice l15.1 l15.2 l15.2),(.slice l16.1 l16.2 l16.2),(.int .i64 n17)]),(.slice l12.1 l12.2 l12.2),(.bool b13)]),h14)) = some r) : run (Et base) 45 [(.agg #[(vL v0_0 v0_0n),(vL v0_1 v0_1n),(vI v0_2)]),(vL v1 v1n),(vL v2 v2n)] h = some r:=run_i (an:=a45) Try.func45 (by kernel_rfl) (.trans (by kernel_rfl) hx)
theorem r46 {base : Nat} {v0_0 : Option Addr} {v0_0n : Nat} {v0_1 : Option Addr} {v0_1n : Nat} {v0_2 : Int} {v1 : Option Addr} {v1n : Nat} {v2 : Option Addr} {v2n : Nat} {h : AH} {r : Value × AH} (hx : ((some (h ++ [some ⟨[(.slice v0_0 v0_0n v0_0n),(.slice v0_1 v0_1n v0_1n),(.int .i64 v0_2)],63⟩])).bind fun h1=>
(some (h1 ++ [some ⟨[(.slice none 0 0),(.slice none 0 0),(.int .i64 0)],63⟩])).bind fun h2=>
((cell h2 (List.length h) 0).bind getS).bind fun l3=>
((cell h2 (List.length h) 1).bind getS).bind fun l4=>
((cell h2 (List.length h) 2).bind (getI .i64)).bind fun n5=>
(run (Et base) 99 [(.agg #[(.slice l3.1 l3.2 l3.2),(.slice l4.1 l4.2 l4.2),(.int .i64 n5)]),(.slice v1 v1n v1n),(.slice v2 v2n v2n),(.bool false)] h2).bind fun r6=>
(getTup 3 r6.1).bind fun l7=>
((l7[0]?).bind (getAgg 3)).bind fun l8=>
((l8[0]?).bind getS).bind fun l9=>
((l8[1]?).bind getS).bind fun l10=>
((l8[2]?).bind (getI .i64)).bind fun n11=>
((l7[1]?).bind getS).bind fun l12=>
((l7[2]?).bind getB).bind fun b13=>
(wr base r6.2 (List.length h1) 0 [(.slice l9.1 l9.2 l9.2),(.slice l10.1 l10.2 l10.2),(.int .i64 n11)]).bind fun h14=>
((cell h14 (List.length h1) 0).bind getS).bind fun l15=>
((cell h14 (List.length h1) 1).bind getS).bind fun l16=>
((cell h14 (List.length h1) 2).bind (getI .i64)).bind fun n17=>
some ((.tuple #[(.agg #[(.slice l15.1 l15.2 l15.2),(.slice l16.1 l16.2 l16.2),(.int .i64 n17)]),(.slice l12.1 l12.2 l12.2),(.bool b13)]),h14)) = some r) : run (Et base) 46 [(.agg #[(vL v0_0 v0_0n),(vL v0_1 v0_1n),(vI v0_2)]),(vL v1 v1n),(vL v2 v2n)] h = some r:=run_i (an:=a46) Try.func46 (by kernel_rfl) (.trans (by kernel_rfl) hx)
noncomputable abbrev qf47 (base : Nat) (v0_0 : Option Addr) (v0_0n : Nat) (v0_1 : Option Addr) (v0_1n : Nat) (v0_2 : Int) (v1 : Option Addr) (v1n : Nat) (v2 : Option Addr) (v2n : Nat) (v3 : Int) (v4 : Int) (h : AH) : Option (Value × AH):=
nw1 h 63 [(vL v0_0 v0_0n),(vL v0_1 v0_1n),(vI v0_2)] fun h1=>
nw1 h1 63 [(vL none 0),(vL none 0),(vI 0)] fun h2=>
((run (Et base) 90 [(vI v3),(vI (0 : Int)),(vI (2000 : Int))] h2).bind fun r4=>
((some r4.1).bind getB).bind fun b5=>
(if (!b5) = true then
some (.inl ([some (vL v1 v1n),some (vL v2 v2n),some (vI v3),some (vI v4),some (vP (List.length h)),some (vP (List.length h1)),some (.bool true)],r4.2))
else
(run (Et base) 90 [(vI v4),(vI (0 : Int)),(vI (2000 : Int))] r4.2).bind fun r6=>
((some r6.1).bind getB).bind fun b7=>
(if (!b7) = true then
some (.inl ([some (vL v1 v1n),some (vL v2 v2n),some (vI v3),some (vI v4),some (vP (List.length h)),some (vP (List.length h1)),some (.bool true)],r6.2))
else
c_LLI r6.2 (List.length h) 0 fun l8 l9 n10=>
(run (Et base) 95 [(.agg #[(vL l8.1 l8.2),(vL l9.1 l9.2),(vI n10)]),(vL v1 v1n),(vL v2 v2n)] r6.2).bind fun r11=>
((some r11.1).bind getB).bind fun b12=>
some (.inl ([some (vL v1 v1n),some (vL v2 v2n),some (vI v3),some (vI v4),some (vP (List.length h)),some (vP (List.length h1)),some (.bool (!b12))],r11.2))))).bind fun j3=>joinK j3 fun j3=>
j_LLIIAAB j3.1 fun l13 l14 n15 n16 d17 d18 b19=>
(if b19 = true then
c_LLI j3.2 d17.block d17.off fun l20 l21 n22=>
(run (Et base) 101 [(.agg #[(vL l20.1 l20.2),(vL l21.1 l21.2),(vI n22)])] j3.2).bind fun r23=>
gG (some r23.1) 3 fun l24=>
l_LLI l24 fun l25 l26 n27=>
nw1 r23.2 3 [] fun h28=>
(app base h28 3 1 8 (some ⟨(List.length r23.2),0,none⟩) 0 (rawAt h28 l14.1 (l14.2 * 1)) l14.2).bind fun p29=>
((some p29.1).bind getS).bind fun l30=>
(wr base p29.2 d18.block d18.off [(vL l25.1 l25.2),(vL l26.1 l26.2),(vI n27)]).bind fun h31=>
c_LLI h31 d18.block d18.off fun l32 l33 n34=>
some ((.tuple #[(.agg #[(vL l32.1 l32.2),(vL l33.1 l33.2),(vI n34)]),(vL l30.1 l30.2),(.bool false)]),h31)
else
c_LLI j3.2 d17.block d17.off fun l35 l36 n37=>
(run (Et base) 102 [(.agg #[(vL l35.1 l35.2),(vL l36.1 l36.2),(vI n37)]),(vL l13.1 l13.2),(vL l14.1 l14.2),(vI n15),(vI n16)] j3.2).bind fun r38=>
(getTup 3 r38.1).bind fun l39=>
gG (l39[0]?) 3 fun l40=>
l_LLI l40 fun l41 l42 n43=>
((l39[1]?).bind getS).bind fun l44=>
((l39[2]?).bind getB).bind fun b45=>
(wr base r38.2 d18.block d18.off [(vL l41.1 l41.2),(vL l42.1 l42.2),(vI n43)]).bind fun h46=>
c_LLI h46 d18.block d18.off fun l47 l48 n49=>
some ((.tuple #[(.agg #[(vL l47.1 l47.2),(vL l48.1 l48.2),(vI n49)]),(vL l44.1 l44.2),(.bool b45)]),h46))
theorem r47 {base : Nat} {v0_0 : Option Addr} {v0_0n : Nat} {v0_1 : Option Addr} {v0_1n : Nat} {v0_2 : Int} {v1 : Option Addr} {v1n : Nat} {v2 : Option Addr} {v2n : Nat} {v3 : Int} {v4 : Int} {h : AH} {r : Value × AH} (hx : qf47 base v0_0 v0_0n v0_1 v0_1n v0_2 v1 v1n v2 v2n v3 v4 h = some r) : run (Et base) 47 [(.agg #[(vL v0_0 v0_0n),(vL v0_1 v0_1n),(vI v0_2)]),(vL v1 v1n),(vL v2 v2n),(vI v3),(vI v4)] h = some r:=run_i (an:=a47) Try.func47 (by kernel_rfl) (.trans (by kernel_rfl) hx)
noncomputable abbrev qf48 (base : Nat) (v0_0 : Option Addr) (v0_0n : Nat) (v0_1 : Option Addr) (v0_1n : Nat) (v0_2 : Int) (v1 : Option Addr) (v1n : Nat) (v2 : Option Addr) (v2n : Nat) (v3 : Int) (v4 : Int) (h : AH) : Option (Value × AH):=
nw1 h 63 [(vL v0_0 v0_0n),(vL v0_1 v0_1n),(vI v0_2)] fun h1=>
nw1 h1 3 [(vI v3)] fun h2=>
nw1 h2 3 [(vI v4)] fun h3=>
nw1 h3 63 [(vL none 0),(vL none 0),(vI 0)] fun h4=>
(((cell h4 (List.length h1) 0).bind (getI .i64)).bind fun n6=>
(run (Et base) 83 [(vI n6),(vI (0 : Int)),(vI (2000 : Int))] h4).bind fun r7=>
((some r7.1).bind getB).bind fun b8=>
(if (!b8) = true then
some (.inl ([some (vL v1 v1n),some (vL v2 v2n),some (vP (List.length h)),some (vP (List.length h1)),some (vP (List.length h2)),some (vP (List.length h3)),some (.bool true)],r7.2))
else
((cell r7.2 (List.length h2) 0).bind (getI .i64)).bind fun n9=>
(run (Et base) 83 [(vI n9),(vI (0 : Int)),(vI (2000 : Int))] r7.2).bind fun r10=>
((some r10.1).bind getB).bind fun b11=>
(if (!b11) = true then
some (.inl ([some (vL v1 v1n),some (vL v2 v2n),some (vP (List.length h)),some (vP (List.length h1)),some (vP (List.length h2)),some (vP (List.length h3)),some (.bool true)],r10.2))
else
c_LLI r10.2 (List.length h) 0 fun l12 l13 n14=>
(run (Et base) 50 [(.agg #[(vL l12.1 l12.2),(vL l13.1 l13.2),(vI n14)]),(vL v1 v1n),(vL v2 v2n)] r10.2).bind fun r15=>
((some r15.1).bind getB).bind fun b16=>
some (.inl ([some (vL v1 v1n),some (vL v2 v2n),some (vP (List.length h)),some (vP (List.length h1)),some (vP (List.length h2)),some (vP (List.length h3)),some (.bool (!b16))],r15.2))))).bind fun j5=>joinK j5 fun j5=>
j_LLAAAAB j5.1 fun l17 l18 d19 d20 d21 d22 b23=>
(if b23 = true then
c_LLI j5.2 d19.block d19.off fun l24 l25 n26=>
(run (Et base) 103 [(.agg #[(vL l24.1 l24.2),(vL l25.1 l25.2),(vI n26)])] j5.2).bind fun r27=>
gG (some r27.1) 3 fun l28=>
l_LLI l28 fun l29 l30 n31=>
(run (Et base) 104 [(vL l18.1 l18.2)] r27.2).bind fun r32=>
((some r32.1).bind getS).bind fun l33=>
(wr base r32.2 d22.block d22.off [(vL l29.1 l29.2),(vL l30.1 l30.2),(vI n31)]).bind fun h34=>
c_LLI h34 d22.block d22.off fun l35 l36 n37=>
some ((.tuple #[(.agg #[(vL l35.1 l35.2),(vL l36.1 l36.2),(vI n37)]),(vL l33.1 l33.2),(.bool false)]),h34)
else
c_LLI j5.2 d19.block d19.off fun l38 l39 n40=>
(run (Et base) 103 [(.agg #[(vL l38.1 l38.2),(vL l39.1 l39.2),(vI n40)])] j5.2).bind fun r41=>
gG (some r41.1) 3 fun l42=>
l_LLI l42 fun l43 l44 n45=>
(run (Et base) 104 [(vL l18.1 l18.2)] r41.2).bind fun r46=>
((some r46.1).bind getS).bind fun l47=>
nw1 r46.2 63 [(vL none 0),(vL none 0),(vI 0)] fun h48=>
(wr base h48 (List.length r46.2) 0 [(vL l43.1 l43.2),(vL l44.1 l44.2),(vI n45)]).bind fun h49=>
(c_LLI h49 (List.length r46.2) 0 fun l51 l52 n53=>
((run (Et base) 105 [(.agg #[(vL l51.1 l51.2),(vL l52.1 l52.2),(vI n53)]),(vA d20),(vA d21)] h49).bind fun r55=>
((some r55.1).bind getB).bind fun b56=>
some ((.bool b56),r55.2)).bind fun r54=>
((some r54.1).bind getB).bind fun b57=>
(if (!b57) = true then
c_LLI r54.2 (List.length r46.2) 0 fun l58 l59 n60=>
(run (Et base) 46 [(.agg #[(vL l58.1 l58.2),(vL l59.1 l59.2),(vI n60)]),(vL l17.1 l17.2),(vL l47.1 l47.2)] r54.2).bind fun r61=>
(getTup 3 r61.1).bind fun l62=>
gG (l62[0]?) 3 fun l63=>
l_LLI l63 fun l64 l65 n66=>
((l62[1]?).bind getS).bind fun l67=>
((l62[2]?).bind getB).bind fun b68=>
(wr base r61.2 (List.length r46.2) 0 [(vL l64.1 l64.2),(vL l65.1 l65.2),(vI n66)]).bind fun h69=>
some (.inl ([some (vL l17.1 l17.2),some (vL l18.1 l18.2),some (vA d19),some (vA d22),some (.func (.func 105) #[] #[(vA d20),(vA d21)]),some (vP (List.length r46.2)),some (vL l67.1 l67.2)],h69))
else
some (.inl ([some (vL l17.1 l17.2),some (vL l18.1 l18.2),some (vA d19),some (vA d22),some (.func (.func 105) #[] #[(vA d20),(vA d21)]),some (vP (List.length r46.2)),some (vL l47.1 l47.2)],r54.2)))).bind fun j50=>joinK j50 fun j50=>
j_LLAA j50.1 fun l70 l71 d72 d73=>
((sget (j50.1.tail.tail.tail.tail) 0).bind getF).bind fun f74=>
j_AL (j50.1.tail.tail.tail.tail.tail) fun d75 l76=>
(c_LLI j50.2 d75.block d75.off fun l78 l79 n80=>
(callU (Et base) (run (Et base)) f74.1 (f74.2.1.toList ++ [(.agg #[(vL l78.1 l78.2),(vL l79.1 l79.2),(vI n80)])] ++ f74.2.2.toList) j50.2).bind fun r81=>
((some r81.1).bind getB).bind fun b82=>
(if (!b82) = true then
c_LLI r81.2 d75.block d75.off fun l83 l84 n85=>
(run (Et base) 39 [(.agg #[(vL l83.1 l83.2),(vL l84.1 l84.2),(vI n85)]),(vL l70.1 l70.2),(vL l76.1 l76.2)] r81.2).bind fun r86=>
(getTup 3 r86.1).bind fun l87=>
gG (l87[0]?) 3 fun l88=>
l_LLI l88 fun l89 l90 n91=>
((l87[1]?).bind getS).bind fun l92=>
((l87[2]?).bind getB).bind fun b93=>
(wr base r86.2 d75.block d75.off [(vL l89.1 l89.2),(vL l90.1 l90.2),(vI n91)]).bind fun h94=>
some (.inl ([some (vL l71.1 l71.2),some (vA d72),some (vA d73),some (.func f74.1 f74.2.1 f74.2.2),some (vA d75),some (vL l92.1 l92.2)],h94))
else
some (.inl ([some (vL l71.1 l71.2),some (vA d72),some (vA d73),some (.func f74.1 f74.2.1 f74.2.2),some (vA d75),some (vL l76.1 l76.2)],r81.2)))).bind fun j77=>joinK j77 fun j77=>
j_LAA j77.1 fun l95 d96 d97=>
((sget (j77.1.tail.tail.tail) 0).bind getF).bind fun f98=>
j_AL (j77.1.tail.tail.tail.tail) fun d99 l100=>
c_LLI j77.2 d99.block d99.off fun l101 l102 n103=>
(callU (Et base) (run (Et base)) f98.1 (f98.2.1.toList ++ [(.agg #[(vL l101.1 l101.2),(vL l102.1 l102.2),(vI n103)])] ++ f98.2.2.toList) j77.2).bind fun r104=>
((some r104.1).bind getB).bind fun b105=>
(if (!b105) = true then
c_LLI r104.2 d96.block d96.off fun l106 l107 n108=>
(run (Et base) 103 [(.agg #[(vL l106.1 l106.2),(vL l107.1 l107.2),(vI n108)])] r104.2).bind fun r109=>
gG (some r109.1) 3 fun l110=>
l_LLI l110 fun l111 l112 n113=>
(run (Et base) 104 [(vL l95.1 l95.2)] r109.2).bind fun r114=>
((some r114.1).bind getS).bind fun l115=>
(wr base r114.2 d97.block d97.off [(vL l111.1 l111.2),(vL l112.1 l112.2),(vI n113)]).bind fun h116=>
c_LLI h116 d97.block d97.off fun l117 l118 n119=>
some ((.tuple #[(.agg #[(vL l117.1 l117.2),(vL l118.1 l118.2),(vI n119)]),(vL l115.1 l115.2),(.bool false)]),h116)
else
c_LLI r104.2 d99.block d99.off fun l120 l121 n122=>
(wr base r104.2 d97.block d97.off [(vL l120.1 l120.2),(vL l121.1 l121.2),(vI n122)]).bind fun h123=>
c_LLI h123 d97.block d97.off fun l124 l125 n126=>
some ((.tuple #[(.agg #[(vL l124.1 l124.2),(vL l125.1 l125.2),(vI n126)]),(vL l100.1 l100.2),(.bool true)]),h123)))
theorem r48 {base : Nat} {v0_0 : Option Addr} {v0_0n : Nat} {v0_1 : Option Addr} {v0_1n : Nat} {v0_2 : Int} {v1 : Option Addr} {v1n : Nat} {v2 : Option Addr} {v2n : Nat} {v3 : Int} {v4 : Int} {h : AH} {r : Value × AH} (hx : qf48 base v0_0 v0_0n v0_1 v0_1n v0_2 v1 v1n v2 v2n v3 v4 h = some r) : run (Et base) 48 [(.agg #[(vL v0_0 v0_0n),(vL v0_1 v0_1n),(vI v0_2)]),(vL v1 v1n),(vL v2 v2n),(vI v3),(vI v4)] h = some r:=run_i (an:=a48) Try.func48 (by kernel_rfl) (.trans (by kernel_rfl) hx)
noncomputable def B50_0 (base : Nat) : Body:=fun l h=>lay s50_0 l fun s=>exCode (Et base) (run (Et base)) loopL a50_0 (subC [1,1,0,1,0,0] (bodyC Try.f50)) s h (keepK s50_0 e50_0)
theorem B50_0_eq (base : Nat) (v1 : Option Addr) (v1n : Nat) (v3 : Addr) (v35 : Option Addr) (v35n : Nat) (v36 : Int) (v37 : Int) (h : AH) : B50_0 base [some (vL v1 v1n),some (vA v3),some (vL v35 v35n),some (vI v36),some (vI v37)] h =
((if (decide (v37 < v36)) = true then
(if 0≤v37∧v37 < ((v35n : Nat) : Int) then
((v35 : Option Addr)).bind fun a1=>
((cell h a1.block (a1.off + Int.toNat v37 * 1)).bind (getI .i64)).bind fun n2=>
c_LLI h v3.block v3.off fun l3 l4 n5=>
(run (Et base) 108 [(.agg #[(vL l3.1 l3.2),(vL l4.1 l4.2),(vI n5)]),(vL v1 v1n),(vI n2)] h).bind fun r6=>
(getTup 2 r6.1).bind fun l7=>
gG (l7[0]?) 4 fun l8=>
l_IITL l8 fun n9 n10 s11 l12=>
((l7[1]?).bind getB).bind fun b13=>
nw1 r6.2 42 [(vI 0),(vI 0),(vT ⟨#[]⟩),(vL none 0)] fun h14=>
(wr base h14 (List.length r6.2) 0 [(vI n9),(vI n10),(vT s11),(vL l12.1 l12.2)]).bind fun h15=>
((if (!b13) = true then
some (.inl ([some (vL v1 v1n),some (vA v3),some (vL v35 v35n),some (vI v36),some (vI v37),some (.bool true)],h15))
else
(run (Et base) 109 [(vA v3),(vI n2)] h15).bind fun r17=>
((some r17.1).bind getB).bind fun b18=>
some (.inl ([some (vL v1 v1n),some (vA v3),some (vL v35 v35n),some (vI v36),some (vI v37),some (.bool (!b18))],r17.2)))).bind fun j16=>joinK j16 fun j16=>
j_LALIIB j16.1 fun l19 d20 l21 n22 n23 b24=>
(if b24 = true then
some (1,[some (.bool false)],j16.2)
else
some (0,[some (vL l19.1 l19.2),some (vA d20),some (vL l21.1 l21.2),some (vI n22),some (vI (IntKind.wrap .i64 (n23 + (1 : Int))))],j16.2))
else none)
else
some (2,[],h)) : Option (Nat × Slots × AH)):=by kernel_rfl
theorem r50 {base : Nat} {v0_0 : Option Addr} {v0_0n : Nat} {v0_1 : Option Addr} {v0_1n : Nat} {v0_2 : Int} {v1 : Option Addr} {v1n : Nat} {v2 : Option Addr} {v2n : Nat} {h : AH} {r : Value × AH} (hx : (nw1 h 63 [(vL v0_0 v0_0n),(vL v0_1 v0_1n),(vI v0_2)] fun h1=>
(((cell h1 (List.length h) 0).bind getS).bind fun l3=>
(if (decide (((l3.2 : Nat) : Int) > (1000 : Int))) = true then
some (.inl ([some (vL v1 v1n),some (vL v2 v2n),some (vP (List.length h)),some (.bool true)],h1))
else
((cell h1 (List.length h) 1).bind getS).bind fun l4=>
(if (decide (((l4.2 : Nat) : Int) > (1000 : Int))) = true then
some (.inl ([some (vL v1 v1n),some (vL v2 v2n),some (vP (List.length h)),some (.bool true)],h1))
else
((cell h1 (List.length h) 2).bind (getI .i64)).bind fun n5=>
((cell h1 (List.length h) 1).bind getS).bind fun l6=>
(run (Et base) 83 [(vI n5),(vI (0 : Int)),(vI ((l6.2 : Nat) : Int))] h1).bind fun r7=>
((some r7.1).bind getB).bind fun b8=>
(if (!b8) = true then
some (.inl ([some (vL v1 v1n),some (vL v2 v2n),some (vP (List.length h)),some (.bool true)],r7.2))
else
(run (Et base) 107 [(vL v1 v1n)] r7.2).bind fun r9=>
((some r9.1).bind getB).bind fun b10=>
some (.inl ([some (vL v1 v1n),some (vL v2 v2n),some (vP (List.length h)),some (.bool (!b10))],r9.2)))))).bind fun j2=>joinK j2 fun j2=>
j_LLAB j2.1 fun l11 l12 d13 b14=>
(if b14 = true then
some ((.bool false),j2.2)
else
(loopL (B50_0 base) [some (vL l11.1 l11.2),some (vA d13),some (vL l12.1 l12.2),some (vI ((l12.2 : Nat) : Int)),some (vI (0 : Int))] j2.2).bind fun q15=>
(if q15.1 = 1 then
((sget q15.2.1 0).bind getB).bind fun b16=>
some ((.bool b16),q15.2.2)
else
(if q15.1 = 2 then
some ((.bool true),q15.2.2)
else
none)))) = some r) : run (Et base) 50 [(.agg #[(vL v0_0 v0_0n),(vL v0_1 v0_1n),(vI v0_2)]),(vL v1 v1n),(vL v2 v2n)] h = some r:=run_i (an:=a50) Try.func50 (by kernel_rfl) (.trans (by kernel_rfl) hx)
theorem r58 {base : Nat} {v0_0 : Int} {v0_1 : Int} {v0_2 : ByteArray} {v0_3 : Option Addr} {v0_3n : Nat} {h : AH} {r : Value × AH} (hx : ((some (h ++ [some ⟨[(.int .i64 v0_0),(.int .i64 v0_1),(.string v0_2),(.slice v0_3 v0_3n v0_3n)],42⟩])).bind fun h1=>
((cell h1 (List.length h) 0).bind (getI .i64)).bind fun n2=>
((cell h1 (List.length h) 1).bind (getI .i64)).bind fun n3=>
((cell h1 (List.length h) 2).bind getStr).bind fun s4=>
((cell h1 (List.length h) 3).bind getS).bind fun l5=>
(run (Et base) 117 [(.agg #[(.int .i64 n2),(.int .i64 n3),(.string s4),(.slice l5.1 l5.2 l5.2)]),(.int .i64 (6 : Int)),(.int .i64 (100 : Int))] h1).bind fun r6=>
((some r6.1).bind (getI .i64)).bind fun n7=>
some ((.bool (decide (n7 ≥ (0 : Int)))),r6.2)) = some r) : run (Et base) 58 [(.agg #[(vI v0_0),(vI v0_1),(vT v0_2),(vL v0_3 v0_3n)])] h = some r:=run_i (an:=a58) Try.func58 (by kernel_rfl) (.trans (by kernel_rfl) hx)
theorem r65 {base : Nat} {v0_0 : Int} {v0_1 : Int} {v0_2 : ByteArray} {v0_3 : Option Addr} {v0_3n : Nat} {h : AH} {r : Value × AH} (hx : ((some (h ++ [some ⟨[(.int .i64 v0_0),(.int .i64 v0_1),(.string v0_2),(.slice v0_3 v0_3n v0_3n)],42⟩])).bind fun h1=>
((cell h1 (List.length h) 0).bind (getI .i64)).bind fun n2=>
((cell h1 (List.length h) 1).bind (getI .i64)).bind fun n3=>
((cell h1 (List.length h) 2).bind getStr).bind fun s4=>
((cell h1 (List.length h) 3).bind getS).bind fun l5=>
(run (Et base) 124 [(.agg #[(.int .i64 n2),(.int .i64 n3),(.string s4),(.slice l5.1 l5.2 l5.2)]),(.int .i64 (1 : Int)),(.int .i64 (0 : Int))] h1).bind fun r6=>
(getTup 2 r6.1).bind fun l7=>
((l7[0]?).bind (getI .i64)).bind fun n8=>
((l7[1]?).bind getB).bind fun b9=>
some ((.bool b9),r6.2)) = some r) : run (Et base) 65 [(.agg #[(vI v0_0),(vI v0_1),(vT v0_2),(vL v0_3 v0_3n)])] h = some r:=run_i (an:=a65) Try.func65 (by kernel_rfl) (.trans (by kernel_rfl) hx)
theorem r83 {base : Nat} {v0 : Int} {v1 : Int} {v2 : Int} {h : AH} {r : Value × AH} (hx : ((if (decide (v0 ≥ v1)) = true then
some ((.bool (decide (v0≤v2))),h)
else
some ((.bool false),h))) = some r) : run (Et base) 83 [(vI v0),(vI v1),(vI v2)] h = some r:=run_i (an:=a83) Try.func83 (by kernel_rfl) (.trans (by kernel_rfl) hx)
theorem r90 {base : Nat} {v0 : Int} {v1 : Int} {v2 : Int} {h : AH} {r : Value × AH} (hx : ((if (decide (v0 ≥ v1)) = true then
some ((.bool (decide (v0≤v2))),h)
else
some ((.bool false),h))) = some r) : run (Et base) 90 [(vI v0),(vI v1),(vI v2)] h = some r:=run_i (an:=a90) Try.func90 (by kernel_rfl) (.trans (by kernel_rfl) hx)
theorem r94 {base : Nat} {v0 : Option Addr} {v0n : Nat} {v1 : Int} {h : AH} {r : Value × AH} (hx : ((if (decide ((IntKind.wrap .i64 (v1 - ((v0n : Nat) : Int))) < (0 : Int))) = true then
some ((.int .i64 (-1 : Int)),h)
else
some ((.int .i64 (IntKind.wrap .i64 (v1 - ((v0n : Nat) : Int)))),h))) = some r) : run (Et base) 94 [(vL v0 v0n),(vI v1)] h = some r:=run_i (an:=a94) Try.func94 (by kernel_rfl) (.trans (by kernel_rfl) hx)
noncomputable def B95_0 (base : Nat) : Body:=fun l h=>lay s95_0 l fun s=>exCode (Et base) (run (Et base)) loopL a95_0 (subC [1,1,0,1,0,0] (bodyC Try.f95)) s h (keepK s95_0 e95_0)
theorem B95_0_eq (base : Nat) (v1 : Option Addr) (v1n : Nat) (v2 : Option Addr) (v2n : Nat) (v3 : Addr) (v7 : Int) (h : AH) : B95_0 base [some (vL v1 v1n),some (vL v2 v2n),some (vA v3),some (vI v7)] h =
((if (decide (v7 < ((v2n : Nat) : Int))) = true then
c_LLI h v3.block v3.off fun l1 l2 n3=>
(if 0≤v7∧v7 < ((v2n : Nat) : Int) then
((v2 : Option Addr)).bind fun a4=>
((cell h a4.block (a4.off + Int.toNat v7 * 1)).bind (getI .i64)).bind fun n5=>
(run (Et base) 111 [(.agg #[(vL l1.1 l1.2),(vL l2.1 l2.2),(vI n3)]),(vL v1 v1n),(vI n5)] h).bind fun r6=>
(getTup 2 r6.1).bind fun l7=>
gG (l7[0]?) 4 fun l8=>
l_IITL l8 fun n9 n10 s11 l12=>
((l7[1]?).bind getB).bind fun b13=>
(gate (neA (some ⟨a4.block,(a4.off + Int.toNat v7 * 1),none⟩) (List.length r6.2))
((gate (neA (some v3) (List.length r6.2))
(nw1 r6.2 42 [(vI 0),(vI 0),(vT ⟨#[]⟩),(vL none 0)] fun h14=>
(wr base h14 (List.length r6.2) 0 [(vI n9),(vI n10),(vT s11),(vL l12.1 l12.2)]).bind fun h15=>
((if (!b13) = true then
some (.inl ([some (vL v1 v1n),some (vL v2 v2n),some (vA v3),some (vI v7),some (.bool true)],h15))
else
c_LLI h15 v3.block v3.off fun l17 l18 n19=>
(if 0≤v7∧v7 < ((v2n : Nat) : Int) then
((v2 : Option Addr)).bind fun a20=>
((cell h15 a20.block (a20.off + Int.toNat v7 * 1)).bind (getI .i64)).bind fun n21=>
(run (Et base) 145 [(.agg #[(vL l17.1 l17.2),(vL l18.1 l18.2),(vI n19)]),(vI n21),(vI (200000 : Int))] h15).bind fun r22=>
((some r22.1).bind getB).bind fun b23=>
some (.inl ([some (vL v1 v1n),some (vL v2 v2n),some (vA v3),some (vI v7),some (.bool (!b23))],r22.2))
else none))).bind fun j16=>joinK j16 fun j16=>
j_LLAIB j16.1 fun l24 l25 d26 n27 b28=>
(if b28 = true then
some (1,[some (.bool false)],j16.2)
else
some (0,[some (vL l24.1 l24.2),some (vL l25.1 l25.2),some (vA d26),some (vI (IntKind.wrap .i64 (n27 + (1 : Int))))],j16.2))))))
else none)
else
some (2,[],h)) : Option (Nat × Slots × AH)):=by kernel_rfl
theorem r95 {base : Nat} {v0_0 : Option Addr} {v0_0n : Nat} {v0_1 : Option Addr} {v0_1n : Nat} {v0_2 : Int} {v1 : Option Addr} {v1n : Nat} {v2 : Option Addr} {v2n : Nat} {h : AH} {r : Value × AH} (hx : (nw1 h 63 [(vL v0_0 v0_0n),(vL v0_1 v0_1n),(vI v0_2)] fun h1=>
(((cell h1 (List.length h) 0).bind getS).bind fun l3=>
(if (decide (((l3.2 : Nat) : Int) > (1000 : Int))) = true then
some (.inl ([some (vL v1 v1n),some (vL v2 v2n),some (vP (List.length h)),some (.bool true)],h1))
else
((cell h1 (List.length h) 1).bind getS).bind fun l4=>
(if (decide (((l4.2 : Nat) : Int) > (1000 : Int))) = true then
some (.inl ([some (vL v1 v1n),some (vL v2 v2n),some (vP (List.length h)),some (.bool true)],h1))
else
((cell h1 (List.length h) 2).bind (getI .i64)).bind fun n5=>
((cell h1 (List.length h) 1).bind getS).bind fun l6=>
(run (Et base) 90 [(vI n5),(vI (0 : Int)),(vI ((l6.2 : Nat) : Int))] h1).bind fun r7=>
((some r7.1).bind getB).bind fun b8=>
(if (!b8) = true then
some (.inl ([some (vL v1 v1n),some (vL v2 v2n),some (vP (List.length h)),some (.bool true)],r7.2))
else
(run (Et base) 144 [(vL v1 v1n)] r7.2).bind fun r9=>
((some r9.1).bind getB).bind fun b10=>
some (.inl ([some (vL v1 v1n),some (vL v2 v2n),some (vP (List.length h)),some (.bool (!b10))],r9.2)))))).bind fun j2=>joinK j2 fun j2=>
j_LLAB j2.1 fun l11 l12 d13 b14=>
(if b14 = true then
some ((.bool false),j2.2)
else
(loopL (B95_0 base) [some (vL l11.1 l11.2),some (vL l12.1 l12.2),some (vA d13),some (vI (0 : Int))] j2.2).bind fun q15=>
(if q15.1 = 1 then
((sget q15.2.1 0).bind getB).bind fun b16=>
some ((.bool b16),q15.2.2)
else
(if q15.1 = 2 then
some ((.bool true),q15.2.2)
else
none)))) = some r) : run (Et base) 95 [(.agg #[(vL v0_0 v0_0n),(vL v0_1 v0_1n),(vI v0_2)]),(vL v1 v1n),(vL v2 v2n)] h = some r:=run_i (an:=a95) Try.func95 (by kernel_rfl) (.trans (by kernel_rfl) hx)
noncomputable def B96_0 (base : Nat) : Body:=fun l h=>lay s96_0 l fun s=>exCode (Et base) (run (Et base)) loopL a96_0 (subC [1,1,1,1,0,1,0,0] (bodyC Try.f96)) s h (keepK s96_0 e96_0)
theorem B96_0_eq (base : Nat) (v1 : Option Addr) (v1n : Nat) (v2 : Bool) (v6 : Addr) (v8 : Addr) (v9 : Option Addr) (v9n : Nat) (v10 : Int) (h : AH) : B96_0 base [some (vL v1 v1n),some (.bool v2),some (vA v6),some (vA v8),some (vL v9 v9n),some (vI v10)] h =
((if (decide (v10 < ((v1n : Nat) : Int))) = true then
(if 0≤v10∧v10 < ((v1n : Nat) : Int) then
((v1 : Option Addr)).bind fun a1=>
((cell h a1.block (a1.off + Int.toNat v10 * 1)).bind (getI .i64)).bind fun n2=>
(run (Et base) 147 [(.pointer (some v8)),(.int .i64 n2)] h).bind fun r3=>
((some r3.1).bind (getI .i64)).bind fun n4=>
(some (r3.2 ++ [some ⟨[(.int .i64 n4)],3⟩])).bind fun h5=>
(app base h5 3 1 8 v9 v9n (rawAt h5 (some ⟨(List.length r3.2),0,none⟩) (1 * 1)) 1).bind fun p6=>
((some p6.1).bind getS).bind fun l7=>
some (0,[some (.slice v1 v1n v1n),some (.bool v2),some (.pointer (some v6)),some (.pointer (some v8)),some (.slice l7.1 l7.2 l7.2),some (.int .i64 (IntKind.wrap .i64 (v10 + (1 : Int))))],p6.2)
else none)
else
some (2,[some (.bool v2),some (.pointer (some v6)),some (.pointer (some v8)),some (.slice v9 v9n v9n)],h)) : Option (Nat × Slots × AH)):=by kernel_rfl
noncomputable abbrev qf96 (base : Nat) (v0_0 : Option Addr) (v0_0n : Nat) (v0_1 : Option Addr) (v0_1n : Nat) (v0_2 : Int) (v1 : Option Addr) (v1n : Nat) (v2 : Bool) (h : AH) : Option (Value × AH):=
nw1 h 63 [(vL v0_0 v0_0n),(vL v0_1 v0_1n),(vI v0_2)] fun h1=>
nw1 h1 63 [(vL none 0),(vL none 0),(vI 0)] fun h2=>
c_LLI h2 (List.length h) 0 fun l3 l4 n5=>
((cell h2 (List.length h) 0).bind getS).bind fun l6=>
(run (Et base) 146 [(vI ((l6.2 : Nat) : Int))] h2).bind fun r7=>
((some r7.1).bind getS).bind fun l8=>
(gate (sameA h2 r7.2 (some ⟨(List.length h),0,none⟩) 3)
((gate (sameA h2 r7.2 (some ⟨(List.length h),1,none⟩) 1)
(((cell r7.2 (List.length h) 1).bind getS).bind fun l9=>
(run (Et base) 146 [(vI ((l9.2 : Nat) : Int))] r7.2).bind fun r10=>
((some r10.1).bind getS).bind fun l11=>
(gate (sameA r7.2 r10.2 (some ⟨(List.length h),0,none⟩) 3)
(nw1 r10.2 168 [(vL l3.1 l3.2),(vL l4.1 l4.2),(vI n5),(vL none 0),(vL none 0),(vI (0 : Int)),(vL l8.1 l8.2),(vL l11.1 l11.2),(.bool v2)] fun h12=>
((if (!v2) = true then
nw1 h12 3 [] fun h14=>
((cell h14 (List.length h) 0).bind getS).bind fun l15=>
(app base h14 3 1 8 (some ⟨(List.length h12),0,none⟩) 0 (rawAt h14 l15.1 (l15.2 * 1)) l15.2).bind fun p16=>
((some p16.1).bind getS).bind fun l17=>
(wr base p16.2 (List.length r10.2) 3 [(vL l17.1 l17.2)]).bind fun h18=>
some (.inl ([some (vL v1 v1n),some (.bool v2),some (vP (List.length h1)),some (vP (List.length r10.2))],h18))
else
some (.inl ([some (vL v1 v1n),some (.bool v2),some (vP (List.length h1)),some (vP (List.length r10.2))],h12)))).bind fun j13=>joinK j13 fun j13=>
j_LBAA j13.1 fun l19 b20 d21 d22=>
nw1 j13.2 3 [] fun h23=>
(loopL (B96_0 base) [some (vL l19.1 l19.2),some (.bool b20),some (vA d21),some (vA d22),some (vL (some ⟨(List.length j13.2),0,none⟩) 0),some (vI (0 : Int))] h23).bind fun q24=>
(if q24.1 = 2 then
j_BAAL q24.2.1 fun b25 d26 d27 l28=>
((if (!b25) = true then
((cell q24.2.2 d27.block ((d27.off + 3) + 1)).bind getS).bind fun l30=>
(wr base q24.2.2 d27.block ((d27.off + 3) + 2) [(vI ((l30.2 : Nat) : Int))]).bind fun h31=>
some (.inl ([some (vA d26),some (vA d27),some (vL l28.1 l28.2)],h31))
else
some (.inl ([some (vA d26),some (vA d27),some (vL l28.1 l28.2)],q24.2.2)))).bind fun j29=>joinK j29 fun j29=>
j_AAL j29.1 fun d32 d33 l34=>
c_LLI j29.2 d33.block (d33.off + 3) fun l35 l36 n37=>
(wr base j29.2 d32.block d32.off [(vL l35.1 l35.2),(vL l36.1 l36.2),(vI n37)]).bind fun h38=>
c_LLI h38 d32.block d32.off fun l39 l40 n41=>
some ((.tuple #[(.agg #[(vL l39.1 l39.2),(vL l40.1 l40.2),(vI n41)]),(vL l34.1 l34.2)]),h38)
else
none)))))))
theorem r96 {base : Nat} {v0_0 : Option Addr} {v0_0n : Nat} {v0_1 : Option Addr} {v0_1n : Nat} {v0_2 : Int} {v1 : Option Addr} {v1n : Nat} {v2 : Bool} {h : AH} {r : Value × AH} (hx : qf96 base v0_0 v0_0n v0_1 v0_1n v0_2 v1 v1n v2 h = some r) : run (Et base) 96 [(.agg #[(vL v0_0 v0_0n),(vL v0_1 v0_1n),(vI v0_2)]),(vL v1 v1n),(.bool v2)] h = some r:=run_i (an:=a96) Try.func96 (by kernel_rfl) (.trans (by kernel_rfl) hx)
noncomputable def B97_0 (base : Nat) : Body:=fun l h=>lay s97_0 l fun s=>exCode (Et base) (run (Et base)) loopL a97_0 (subC [1,1,1,1,1,1,1,1,1,1,1,1,0,1,0,0] (bodyC Try.f97)) s h (keepK s97_0 e97_0)
theorem B97_0_eq (base : Nat) (v0 : Option Addr) (v1 : Int) (v9 : Int) (v10 : Bool) (v12 : Int) (v110 : Int) (v111 : Int) (h : AH) : B97_0 base [some (.pointer v0),some (vI v1),some (vI v9),some (.bool v10),some (vI v12),some (vI v110),some (vI v111)] h =
((if (decide (v111 < v110)) = true then
(v0).bind fun a1=>
(run (Et base) 149 [(vI v1)] h).bind fun r2=>
((some r2.1).bind (getI .i64)).bind fun n3=>
(run (Et base) 154 [(.pointer (some ⟨a1.block,(a1.off + 0),none⟩)),(vI (IntKind.wrap .i64 (n3 + v111)))] r2.2).bind fun r4=>
(getTup 2 r4.1).bind fun l5=>
l_IB l5 fun n6 b7=>
(((run (Et base) 152 [(vI v1)] r4.2).bind fun r10=>
((some r10.1).bind (getI .i64)).bind fun n11=>
(if (n11 == (5 : Int)) = true then
some (.inl ([some (.pointer v0),some (vI v1),some (vI v9),some (.bool v10),some (vI v12),some (vI v111),some (vI n6),some (vI v110),some (vI v111),some (.bool true)],r10.2))
else
(run (Et base) 152 [(vI v1)] r10.2).bind fun r12=>
((some r12.1).bind (getI .i64)).bind fun n13=>
(if (n13 == (4 : Int)) = true then
some (.inl ([some (.pointer v0),some (vI v1),some (vI v9),some (.bool v10),some (vI v12),some (vI v111),some (vI n6),some (vI v110),some (vI v111),some (.bool (decide (v111 > (0 : Int))))],r12.2))
else
some (.inl ([some (.pointer v0),some (vI v1),some (vI v9),some (.bool v10),some (vI v12),some (vI v111),some (vI n6),some (vI v110),some (vI v111),some (.bool false)],r12.2))))).bind fun j9=>joinK j9 fun j9=>
j_PIIBIIIIIB j9.1 fun p14 n15 n16 b17 n18 n19 n20 n21 n22 b23=>
(if b23 = true then
(run (Et base) 97 [(.pointer p14),(vI n20)] j9.2).bind fun r24=>
((some r24.1).bind (getI .i64)).bind fun n25=>
some (.inl ([some (.pointer p14),some (vI n15),some (vI n16),some (.bool b17),some (vI n18),some (vI n19),some (vI n25),some (vI n21),some (vI n22)],r24.2))
else
some (.inl ([some (.pointer p14),some (vI n15),some (vI n16),some (.bool b17),some (vI n18),some (vI n19),some (vI n20),some (vI n21),some (vI n22)],j9.2)))).bind fun j8=>joinK j8 fun j8=>
j_PIIBIIIII j8.1 fun p26 n27 n28 b29 n30 n31 n32 n33 n34=>
(if b29 = true then
(p26).bind fun a35=>
((cell j8.2 a35.block (a35.off + 4)).bind getS).bind fun l36=>
(if 0≤(IntKind.wrap .i64 (n28 + n31))∧(IntKind.wrap .i64 (n28 + n31)) < ((l36.2 : Nat) : Int) then
((l36.1 : Option Addr)).bind fun a37=>
(wr base j8.2 a37.block (a37.off + Int.toNat (IntKind.wrap .i64 (n28 + n31)) * 1) [(vI n32)]).bind fun h38=>
some (0,[some (.pointer p26),some (vI n27),some (vI n28),some (.bool b29),some (vI n30),some (vI n33),some (vI (IntKind.wrap .i64 (n34 + (1 : Int))))],h38)
else none)
else
(p26).bind fun a39=>
((cell j8.2 a39.block (a39.off + 5)).bind getS).bind fun l40=>
(if 0≤(IntKind.wrap .i64 (n28 + n31))∧(IntKind.wrap .i64 (n28 + n31)) < ((l40.2 : Nat) : Int) then
((l40.1 : Option Addr)).bind fun a41=>
(wr base j8.2 a41.block (a41.off + Int.toNat (IntKind.wrap .i64 (n28 + n31)) * 1) [(vI n32)]).bind fun h42=>
some (0,[some (.pointer p26),some (vI n27),some (vI n28),some (.bool b29),some (vI n30),some (vI n33),some (vI (IntKind.wrap .i64 (n34 + (1 : Int))))],h42)
else none))
else
some (2,[some (vI v12)],h)) : Option (Nat × Slots × AH)):=by kernel_rfl
noncomputable abbrev qf97 (base : Nat) (v0 : Option Addr) (v1 : Int) (h : AH) : Option (Value × AH):=
(v0).bind fun a1=>
(run (Et base) 149 [(vI v1)] h).bind fun r2=>
((some r2.1).bind (getI .i64)).bind fun n3=>
(run (Et base) 148 [(.pointer (some ⟨a1.block,(a1.off + 0),none⟩)),(vI n3)] r2.2).bind fun r4=>
((some r4.1).bind (getI .i64)).bind fun n5=>
((run (Et base) 150 [(vI v1)] r4.2).bind fun r7=>
((some r7.1).bind getB).bind fun b8=>
(if (!b8) = true then
some (.inl ([some (.pointer v0),some (vI v1),some (vI n5),some (.bool true)],r7.2))
else
(if (n5 == (0 : Int)) = true then
(v0).bind fun a9=>
((cell r7.2 a9.block (a9.off + 3)).bind getB).bind fun b10=>
some (.inl ([some (.pointer v0),some (vI v1),some (vI n5),some (.bool (!b10))],r7.2))
else
some (.inl ([some (.pointer v0),some (vI v1),some (vI n5),some (.bool false)],r7.2))))).bind fun j6=>joinK j6 fun j6=>
j_PIIB j6.1 fun p11 n12 n13 b14=>
(if b14 = true then
some ((vI n12),j6.2)
else
(p11).bind fun a15=>
((cell j6.2 a15.block (a15.off + 6)).bind getM).bind fun m16=>
(run (Et base) 149 [(vI n12)] j6.2).bind fun r17=>
((some r17.1).bind (getI .i64)).bind fun n18=>
(gate (sameA j6.2 r17.2 (some ⟨a15.block,(a15.off + 6),none⟩) 1)
((mget r17.2 m16).bind fun w19=>
(if (mfind w19 n18).isSome = true then
(run (Et base) 152 [(vI n12)] r17.2).bind fun r20=>
((some r20.1).bind (getI .i64)).bind fun n21=>
(run (Et base) 151 [(vI n21),(vI ((mfind w19 n18).getD 0))] r20.2).bind fun r22=>
((some r22.1).bind (getI .i64)).bind fun n23=>
some ((vI n23),r22.2)
else
(p11).bind fun a24=>
(run (Et base) 153 [(.pointer (some ⟨a24.block,(a24.off + 0),none⟩)),(vI n12)] r17.2).bind fun r25=>
((some r25.1).bind (getI .i64)).bind fun n26=>
((p11).bind fun a28=>
((cell r25.2 a28.block (a28.off + 3)).bind getB).bind fun b29=>
(if b29 = true then
some (.inl ([some (.pointer p11),some (vI n12),some (vI n26),some (.bool true)],r25.2))
else
some (.inl ([some (.pointer p11),some (vI n12),some (vI n26),some (.bool (n13 == (1 : Int)))],r25.2)))).bind fun j27=>joinK j27 fun j27=>
j_PIIB j27.1 fun p30 n31 n32 b33=>
((if b33 = true then
(p30).bind fun a35=>
((cell j27.2 a35.block (a35.off + 4)).bind getS).bind fun l36=>
(p30).bind fun a37=>
((cell j27.2 a37.block (a37.off + 4)).bind getS).bind fun l38=>
(if 0≤n32∧n32≤140737488355328 then
(app base j27.2 3 1 8 l38.1 l38.2 (some (rep [(vI 0)] (Int.toNat n32))) (Int.toNat n32)).bind fun p39=>
((some p39.1).bind getS).bind fun l40=>
(p30).bind fun a41=>
(wr base p39.2 a41.block (a41.off + 4) [(vL l40.1 l40.2)]).bind fun h42=>
some (.inl ([some (.pointer p30),some (vI n31),some (vI n32),some (vI ((l36.2 : Nat) : Int)),some (.bool b33)],h42))
else none)
else
(p30).bind fun a43=>
((cell j27.2 a43.block (a43.off + 5)).bind getS).bind fun l44=>
(p30).bind fun a45=>
((cell j27.2 a45.block (a45.off + 5)).bind getS).bind fun l46=>
(if 0≤n32∧n32≤140737488355328 then
(app base j27.2 3 1 8 l46.1 l46.2 (some (rep [(vI 0)] (Int.toNat n32))) (Int.toNat n32)).bind fun p47=>
((some p47.1).bind getS).bind fun l48=>
(p30).bind fun a49=>
(wr base p47.2 a49.block (a49.off + 5) [(vL l48.1 l48.2)]).bind fun h50=>
some (.inl ([some (.pointer p30),some (vI n31),some (vI n32),some (vI ((l44.2 : Nat) : Int)),some (.bool b33)],h50))
else none))).bind fun j34=>joinK j34 fun j34=>
j_PIIIB j34.1 fun p51 n52 n53 n54 b55=>
((if (!b55) = true then
some (.inl ([some (.pointer p51),some (vI n52),some (vI n53),some (vI n54),some (.bool b55),some (vI (IntKind.wrap .i64 (n54 + (100000 : Int))))],j34.2))
else
some (.inl ([some (.pointer p51),some (vI n52),some (vI n53),some (vI n54),some (.bool b55),some (vI n54)],j34.2)))).bind fun j56=>joinK j56 fun j56=>
j_PIIIBI j56.1 fun p57 n58 n59 n60 b61 n62=>
(run (Et base) 152 [(vI n58)] j56.2).bind fun r63=>
((some r63.1).bind (getI .i64)).bind fun n64=>
(run (Et base) 151 [(vI n64),(vI n62)] r63.2).bind fun r65=>
((some r65.1).bind (getI .i64)).bind fun n66=>
(p57).bind fun a67=>
((cell r65.2 a67.block (a67.off + 6)).bind getM).bind fun m68=>
(run (Et base) 149 [(vI n58)] r65.2).bind fun r69=>
((some r69.1).bind (getI .i64)).bind fun n70=>
(gate (sameA r65.2 r69.2 (some ⟨a67.block,(a67.off + 6),none⟩) 1)
((mget r69.2 m68).bind fun w71=>
(some (List.set r69.2 m68 (some (mblk (mput w71 n70 n62))))).bind fun h72=>
(loopL (B97_0 base) [some (.pointer p57),some (vI n58),some (vI n60),some (.bool b61),some (vI n66),some (vI n59),some (vI (0 : Int))] h72).bind fun q73=>
(if q73.1 = 2 then
((sget q73.2.1 0).bind (getI .i64)).bind fun n74=>
some ((vI n74),q73.2.2)
else
none)))))))
theorem r97 {base : Nat} {v0 : Option Addr} {v1 : Int} {h : AH} {r : Value × AH} (hx : qf97 base v0 v1 h = some r) : run (Et base) 97 [(.pointer v0),(vI v1)] h = some r:=run_i (an:=a97) Try.func97 (by kernel_rfl) (.trans (by kernel_rfl) hx)
theorem r98 {base : Nat} {v0_0 : Option Addr} {v0_0n : Nat} {v0_1 : Option Addr} {v0_1n : Nat} {v0_2 : Int} {v1 : Option Addr} {v1n : Nat} {v2 : Option Addr} {v2n : Nat} {v3 : Bool} {h : AH} {r : Value × AH} (hx : (nw1 h 63 [(vL v0_0 v0_0n),(vL v0_1 v0_1n),(vI v0_2)] fun h1=>
nw1 h1 63 [(vL none 0),(vL none 0),(vI 0)] fun h2=>
(c_LLI h2 (List.length h) 0 fun l4 l5 n6=>
(run (Et base) 95 [(.agg #[(vL l4.1 l4.2),(vL l5.1 l5.2),(vI n6)]),(vL v1 v1n),(vL v2 v2n)] h2).bind fun r7=>
((some r7.1).bind getB).bind fun b8=>
(if b8 = true then
c_LLI r7.2 (List.length h) 0 fun l9 l10 n11=>
(run (Et base) 96 [(.agg #[(vL l9.1 l9.2),(vL l10.1 l10.2),(vI n11)]),(vL v2 v2n),(.bool v3)] r7.2).bind fun r12=>
(getTup 2 r12.1).bind fun l13=>
gG (l13[0]?) 3 fun l14=>
l_LLI l14 fun l15 l16 n17=>
((l13[1]?).bind getS).bind fun l18=>
nw1 r12.2 63 [(vL none 0),(vL none 0),(vI 0)] fun h19=>
(wr base h19 (List.length r12.2) 0 [(vL l15.1 l15.2),(vL l16.1 l16.2),(vI n17)]).bind fun h20=>
((cell h20 (List.length r12.2) 0).bind getS).bind fun l21=>
(if (decide (((l21.2 : Nat) : Int)≤(1000 : Int))) = true then
c_LLI h20 (List.length r12.2) 0 fun l22 l23 n24=>
(wr base h20 (List.length h1) 0 [(vL l22.1 l22.2),(vL l23.1 l23.2),(vI n24)]).bind fun h25=>
(c_LLI h25 (List.length h1) 0 fun l26 l27 n28=>
some ((.tuple #[(.agg #[(vL l26.1 l26.2),(vL l27.1 l27.2),(vI n28)]),(vL l18.1 l18.2),(.bool true)]),h25)).map .inr
else
some (.inl ([some (vL v2 v2n),some (vP (List.length h)),some (vP (List.length h1))],h20)))
else
some (.inl ([some (vL v2 v2n),some (vP (List.length h)),some (vP (List.length h1))],r7.2)))).bind fun j3=>joinK j3 fun j3=>
j_LAA j3.1 fun l29 d30 d31=>
c_LLI j3.2 d30.block d30.off fun l32 l33 n34=>
(run (Et base) 101 [(.agg #[(vL l32.1 l32.2),(vL l33.1 l33.2),(vI n34)])] j3.2).bind fun r35=>
gG (some r35.1) 3 fun l36=>
l_LLI l36 fun l37 l38 n39=>
nw1 r35.2 3 [] fun h40=>
(app base h40 3 1 8 (some ⟨(List.length r35.2),0,none⟩) 0 (rawAt h40 l29.1 (l29.2 * 1)) l29.2).bind fun p41=>
((some p41.1).bind getS).bind fun l42=>
(wr base p41.2 d31.block d31.off [(vL l37.1 l37.2),(vL l38.1 l38.2),(vI n39)]).bind fun h43=>
c_LLI h43 d31.block d31.off fun l44 l45 n46=>
some ((.tuple #[(.agg #[(vL l44.1 l44.2),(vL l45.1 l45.2),(vI n46)]),(vL l42.1 l42.2),(.bool false)]),h43)) = some r) : run (Et base) 98 [(.agg #[(vL v0_0 v0_0n),(vL v0_1 v0_1n),(vI v0_2)]),(vL v1 v1n),(vL v2 v2n),(.bool v3)] h = some r:=run_i (an:=a98) Try.func98 (by kernel_rfl) (.trans (by kernel_rfl) hx)
noncomputable def B99_0 (base : Nat) : Body:=fun l h=>lay s99_0 l fun s=>exCode (Et base) (run (Et base)) loopL a99_0 (subC [1,1,1,1,1,0,1,0,0] (bodyC Try.f99)) s h (keepK s99_0 e99_0)
theorem B99_0_eq (base : Nat) (v2 : Option Addr) (v2n : Nat) (v4 : Addr) (v8 : Addr) (v11 : Addr) (v12 : Option Addr) (v12n : Nat) (v38 : Option Addr) (v38n : Nat) (v39 : Int) (v40 : Int) (h : AH) : B99_0 base [some (vL v2 v2n),some (vA v4),some (vA v8),some (vA v11),some (vL v12 v12n),some (vL v38 v38n),some (vI v39),some (vI v40)] h =
((if (decide (v40 < v39)) = true then
(if 0≤v40∧v40 < ((v38n : Nat) : Int) then
((v38 : Option Addr)).bind fun a1=>
((cell h a1.block (a1.off + Int.toNat v40 * 1)).bind (getI .i64)).bind fun n2=>
(run (Et base) 97 [(.pointer (some v11)),(.int .i64 n2)] h).bind fun r3=>
((some r3.1).bind (getI .i64)).bind fun n4=>
(some (r3.2 ++ [some ⟨[(.int .i64 n4)],3⟩])).bind fun h5=>
(app base h5 3 1 8 v12 v12n (rawAt h5 (some ⟨(List.length r3.2),0,none⟩) (1 * 1)) 1).bind fun p6=>
((some p6.1).bind getS).bind fun l7=>
some (0,[some (.slice v2 v2n v2n),some (.pointer (some v4)),some (.pointer (some v8)),some (.pointer (some v11)),some (.slice l7.1 l7.2 l7.2),some (.slice v38 v38n v38n),some (.int .i64 v39),some (.int .i64 (IntKind.wrap .i64 (v40 + (1 : Int))))],p6.2)
else none)
else
some (2,[some (.slice v2 v2n v2n),some (.pointer (some v4)),some (.pointer (some v8)),some (.pointer (some v11)),some (.slice v12 v12n v12n)],h)) : Option (Nat × Slots × AH)):=by kernel_rfl
noncomputable abbrev qf99 (base : Nat) (v0_0 : Option Addr) (v0_0n : Nat) (v0_1 : Option Addr) (v0_1n : Nat) (v0_2 : Int) (v1 : Option Addr) (v1n : Nat) (v2 : Option Addr) (v2n : Nat) (v3 : Bool) (h : AH) : Option (Value × AH):=
nw1 h 63 [(vL v0_0 v0_0n),(vL v0_1 v0_1n),(vI v0_2)] fun h1=>
nw1 h1 63 [(vL none 0),(vL none 0),(vI 0)] fun h2=>
c_LLI h2 (List.length h) 0 fun l3 l4 n5=>
(run (Et base) 50 [(.agg #[(vL l3.1 l3.2),(vL l4.1 l4.2),(vI n5)]),(vL v1 v1n),(vL v2 v2n)] h2).bind fun r6=>
((some r6.1).bind getB).bind fun b7=>
(if (!b7) = true then
c_LLI r6.2 (List.length h) 0 fun l8 l9 n10=>
(run (Et base) 103 [(.agg #[(vL l8.1 l8.2),(vL l9.1 l9.2),(vI n10)])] r6.2).bind fun r11=>
gG (some r11.1) 3 fun l12=>
l_LLI l12 fun l13 l14 n15=>
(run (Et base) 104 [(vL v2 v2n)] r11.2).bind fun r16=>
((some r16.1).bind getS).bind fun l17=>
(wr base r16.2 (List.length h1) 0 [(vL l13.1 l13.2),(vL l14.1 l14.2),(vI n15)]).bind fun h18=>
c_LLI h18 (List.length h1) 0 fun l19 l20 n21=>
some ((.tuple #[(.agg #[(vL l19.1 l19.2),(vL l20.1 l20.2),(vI n21)]),(vL l17.1 l17.2),(.bool false)]),h18)
else
c_LLI r6.2 (List.length h) 0 fun l22 l23 n24=>
(some (r6.2 ++ [some (mblk [])])).bind fun h25=>
nw1 h25 119 [(vL l22.1 l22.2),(vL l23.1 l23.2),(vI n24),(.bool v3),(vL none 0),(vL none 0),(.map (some (List.length r6.2)))] fun h26=>
((if (!v3) = true then
((cell h26 (List.length h) 0).bind getS).bind fun l28=>
(run (Et base) 104 [(vL l28.1 l28.2)] h26).bind fun r29=>
((some r29.1).bind getS).bind fun l30=>
(wr base r29.2 (List.length h25) 4 [(vL l30.1 l30.2)]).bind fun h31=>
some (.inl ([some (vL v2 v2n),some (vP (List.length h)),some (vP (List.length h1)),some (vP (List.length h25))],h31))
else
some (.inl ([some (vL v2 v2n),some (vP (List.length h)),some (vP (List.length h1)),some (vP (List.length h25))],h26)))).bind fun j27=>joinK j27 fun j27=>
j_LAAA j27.1 fun l32 d33 d34 d35=>
(loopL (B99_0 base) [some (vL l32.1 l32.2),some (vA d33),some (vA d34),some (vA d35),some (vL none 0),some (vL l32.1 l32.2),some (vI ((l32.2 : Nat) : Int)),some (vI (0 : Int))] j27.2).bind fun q36=>
(if q36.1 = 2 then
j_LAAAL q36.2.1 fun l37 d38 d39 d40 l41=>
((cell q36.2.2 d40.block (d40.off + 4)).bind getS).bind fun l42=>
(if (decide (((l42.2 : Nat) : Int) > (1000 : Int))) = true then
c_LLI q36.2.2 d38.block d38.off fun l43 l44 n45=>
(run (Et base) 103 [(.agg #[(vL l43.1 l43.2),(vL l44.1 l44.2),(vI n45)])] q36.2.2).bind fun r46=>
gG (some r46.1) 3 fun l47=>
l_LLI l47 fun l48 l49 n50=>
(run (Et base) 104 [(vL l37.1 l37.2)] r46.2).bind fun r51=>
((some r51.1).bind getS).bind fun l52=>
(wr base r51.2 d39.block d39.off [(vL l48.1 l48.2),(vL l49.1 l49.2),(vI n50)]).bind fun h53=>
c_LLI h53 d39.block d39.off fun l54 l55 n56=>
some ((.tuple #[(.agg #[(vL l54.1 l54.2),(vL l55.1 l55.2),(vI n56)]),(vL l52.1 l52.2),(.bool false)]),h53)
else
((cell q36.2.2 d40.block (d40.off + 4)).bind getS).bind fun l57=>
((cell q36.2.2 d40.block (d40.off + 5)).bind getS).bind fun l58=>
((cell q36.2.2 d40.block (d40.off + 5)).bind getS).bind fun l59=>
(wr base q36.2.2 d39.block d39.off [(vL l57.1 l57.2),(vL l58.1 l58.2),(vI ((l59.2 : Nat) : Int))]).bind fun h60=>
c_LLI h60 d39.block d39.off fun l61 l62 n63=>
some ((.tuple #[(.agg #[(vL l61.1 l61.2),(vL l62.1 l62.2),(vI n63)]),(vL l41.1 l41.2),(.bool true)]),h60))
else
none))
theorem r99 {base : Nat} {v0_0 : Option Addr} {v0_0n : Nat} {v0_1 : Option Addr} {v0_1n : Nat} {v0_2 : Int} {v1 : Option Addr} {v1n : Nat} {v2 : Option Addr} {v2n : Nat} {v3 : Bool} {h : AH} {r : Value × AH} (hx : qf99 base v0_0 v0_0n v0_1 v0_1n v0_2 v1 v1n v2 v2n v3 h = some r) : run (Et base) 99 [(.agg #[(vL v0_0 v0_0n),(vL v0_1 v0_1n),(vI v0_2)]),(vL v1 v1n),(vL v2 v2n),(.bool v3)] h = some r:=run_i (an:=a99) Try.func99 (by kernel_rfl) (.trans (by kernel_rfl) hx)
noncomputable def B100_0 (base : Nat) : Body:=fun l h=>lay s100_0 l fun s=>exCode (Et base) (run (Et base)) loopL a100_0 (subC [1,1,1,0,0,0] (bodyC Try.f100)) s h (keepK s100_0 e100_0)
theorem B100_0_eq (base : Nat) (v0 : Int) (v3 : ByteArray) (h : AH) : B100_0 base [some (vI v0),some (vT v3)] h =
((if (decide (v0 > (0 : Int))) = true then
(some (h ++ [some ⟨[(.int .u8 (IntKind.wrap .u8 (IntKind.wrap .i64 ((48 : Int) + (Int.tmod v0 (10 : Int))))))],5⟩])).bind fun h1=>
((rawAt h1 (some ⟨(List.length h),0,none⟩) 1).bind u8s).bind fun z2=>
(if (bstr z2).size + v3.size≤9223372036854775807 then
some (0,[some (.int .i64 (IntKind.wrap .i64 (Int.tdiv v0 (10 : Int)))),some (.string ((bstr z2) ++ v3))],h1)
else none)
else
some (2,[some (.string v3)],h)) : Option (Nat × Slots × AH)):=by kernel_rfl
theorem r100 {base : Nat} {v0 : Int} {h : AH} {r : Value × AH} (hx : ((if (decide (v0≤(0 : Int))) = true then
some ((.string (⟨#[109,48]⟩ : ByteArray)),h)
else
(loopL (B100_0 base) [some (.int .i64 v0),some (.string (⟨#[]⟩ : ByteArray))] h).bind fun q1=>
(if q1.1 = 2 then
((sget q1.2.1 0).bind getStr).bind fun s2=>
(if (⟨#[109]⟩ : ByteArray).size + s2.size≤9223372036854775807 then
some ((.string ((⟨#[109]⟩ : ByteArray) ++ s2)),q1.2.2)
else none)
else
none))) = some r) : run (Et base) 100 [(vI v0)] h = some r:=run_i (an:=a100) Try.func100 (by kernel_rfl) (.trans (by kernel_rfl) hx)
theorem r101 {base : Nat} {v0_0 : Option Addr} {v0_0n : Nat} {v0_1 : Option Addr} {v0_1n : Nat} {v0_2 : Int} {h : AH} {r : Value × AH} (hx : (nw1 h 63 [(vL v0_0 v0_0n),(vL v0_1 v0_1n),(vI v0_2)] fun h1=>
nw1 h1 63 [(vL none 0),(vL none 0),(vI 0)] fun h2=>
nw1 h2 3 [] fun h3=>
(gate (neA (some ⟨(List.length h),0,none⟩) (List.length h2))
(((cell h3 (List.length h) 0).bind getS).bind fun l4=>
(app base h3 3 1 8 (some ⟨(List.length h2),0,none⟩) 0 (rawAt h3 l4.1 (l4.2 * 1)) l4.2).bind fun p5=>
((some p5.1).bind getS).bind fun l6=>
(gate (neA (some ⟨(List.length h),0,none⟩) (List.length p5.2))
(nw1 p5.2 3 [] fun h7=>
(gate (neA (some ⟨(List.length h),1,none⟩) (List.length p5.2))
((gate (neA (some ⟨(List.length h),1,none⟩) (List.length h2))
((gate (sameA h3 h7 (some ⟨(List.length h),1,none⟩) 1)
(((cell h7 (List.length h) 1).bind getS).bind fun l8=>
(app base h7 3 1 8 (some ⟨(List.length p5.2),0,none⟩) 0 (rawAt h7 l8.1 (l8.2 * 1)) l8.2).bind fun p9=>
((some p9.1).bind getS).bind fun l10=>
(gate (neA (some ⟨(List.length h),2,none⟩) (List.length p5.2))
((gate (neA (some ⟨(List.length h),2,none⟩) (List.length h2))
((gate (sameA h7 p9.2 (some ⟨(List.length h),2,none⟩) 1)
((gate (sameA h3 p9.2 (some ⟨(List.length h),2,none⟩) 1)
(((cell p9.2 (List.length h) 2).bind (getI .i64)).bind fun n11=>
(wr base p9.2 (List.length h1) 0 [(vL l6.1 l6.2),(vL l10.1 l10.2),(vI n11)]).bind fun h12=>
c_LLI h12 (List.length h1) 0 fun l13 l14 n15=>
some ((.agg #[(vL l13.1 l13.2),(vL l14.1 l14.2),(vI n15)]),h12)))))))))))))))))))) = some r) : run (Et base) 101 [(.agg #[(vL v0_0 v0_0n),(vL v0_1 v0_1n),(vI v0_2)])] h = some r:=run_i (an:=a101) Try.func101 (by kernel_rfl) (.trans (by kernel_rfl) hx)
noncomputable abbrev qf102 (base : Nat) (v0_0 : Option Addr) (v0_0n : Nat) (v0_1 : Option Addr) (v0_1n : Nat) (v0_2 : Int) (v1 : Option Addr) (v1n : Nat) (v2 : Option Addr) (v2n : Nat) (v3 : Int) (v4 : Int) (h : AH) : Option (Value × AH):=
nw1 h 63 [(vL v0_0 v0_0n),(vL v0_1 v0_1n),(vI v0_2)] fun h1=>
nw1 h1 63 [(vL none 0),(vL none 0),(vI 0)] fun h2=>
c_LLI h2 (List.length h) 0 fun l3 l4 n5=>
(run (Et base) 155 [(.agg #[(vL l3.1 l3.2),(vL l4.1 l4.2),(vI n5)]),(vI v3),(vI v4)] h2).bind fun r6=>
((some r6.1).bind getB).bind fun b7=>
(if b7 = true then
c_LLI r6.2 (List.length h) 0 fun l8 l9 n10=>
(run (Et base) 101 [(.agg #[(vL l8.1 l8.2),(vL l9.1 l9.2),(vI n10)])] r6.2).bind fun r11=>
gG (some r11.1) 3 fun l12=>
l_LLI l12 fun l13 l14 n15=>
nw1 r11.2 3 [] fun h16=>
(app base h16 3 1 8 (some ⟨(List.length r11.2),0,none⟩) 0 (rawAt h16 v2 (v2n * 1)) v2n).bind fun p17=>
((some p17.1).bind getS).bind fun l18=>
(wr base p17.2 (List.length h1) 0 [(vL l13.1 l13.2),(vL l14.1 l14.2),(vI n15)]).bind fun h19=>
c_LLI h19 (List.length h1) 0 fun l20 l21 n22=>
some ((.tuple #[(.agg #[(vL l20.1 l20.2),(vL l21.1 l21.2),(vI n22)]),(vL l18.1 l18.2),(.bool true)]),h19)
else
c_LLI r6.2 (List.length h) 0 fun l23 l24 n25=>
(run (Et base) 45 [(.agg #[(vL l23.1 l23.2),(vL l24.1 l24.2),(vI n25)]),(vL v1 v1n),(vL v2 v2n)] r6.2).bind fun r26=>
(getTup 3 r26.1).bind fun l27=>
gG (l27[0]?) 3 fun l28=>
l_LLI l28 fun l29 l30 n31=>
((l27[1]?).bind getS).bind fun l32=>
((l27[2]?).bind getB).bind fun b33=>
nw1 r26.2 63 [(vL none 0),(vL none 0),(vI 0)] fun h34=>
(wr base h34 (List.length r26.2) 0 [(vL l29.1 l29.2),(vL l30.1 l30.2),(vI n31)]).bind fun h35=>
((if b33 = true then
c_LLI h35 (List.length r26.2) 0 fun l37 l38 n39=>
(run (Et base) 155 [(.agg #[(vL l37.1 l37.2),(vL l38.1 l38.2),(vI n39)]),(vI v3),(vI v4)] h35).bind fun r40=>
((some r40.1).bind getB).bind fun b41=>
some (.inl ([some (vL v1 v1n),some (vL v2 v2n),some (vI v3),some (vI v4),some (vP (List.length h)),some (vP (List.length h1)),some (vP (List.length r26.2)),some (vL l32.1 l32.2),some (.bool b41)],r40.2))
else
some (.inl ([some (vL v1 v1n),some (vL v2 v2n),some (vI v3),some (vI v4),some (vP (List.length h)),some (vP (List.length h1)),some (vP (List.length r26.2)),some (vL l32.1 l32.2),some (.bool false)],h35)))).bind fun j36=>joinK j36 fun j36=>
j_LLIIAAALB j36.1 fun l42 l43 n44 n45 d46 d47 d48 l49 b50=>
(if b50 = true then
c_LLI j36.2 d48.block d48.off fun l51 l52 n53=>
(wr base j36.2 d47.block d47.off [(vL l51.1 l51.2),(vL l52.1 l52.2),(vI n53)]).bind fun h54=>
c_LLI h54 d47.block d47.off fun l55 l56 n57=>
some ((.tuple #[(.agg #[(vL l55.1 l55.2),(vL l56.1 l56.2),(vI n57)]),(vL l49.1 l49.2),(.bool true)]),h54)
else
c_LLI j36.2 d48.block d48.off fun l58 l59 n60=>
(run (Et base) 38 [(.agg #[(vL l58.1 l58.2),(vL l59.1 l59.2),(vI n60)]),(vL l42.1 l42.2),(vL l49.1 l49.2)] j36.2).bind fun r61=>
(getTup 3 r61.1).bind fun l62=>
gG (l62[0]?) 3 fun l63=>
l_LLI l63 fun l64 l65 n66=>
((l62[1]?).bind getS).bind fun l67=>
((l62[2]?).bind getB).bind fun b68=>
nw1 r61.2 63 [(vL none 0),(vL none 0),(vI 0)] fun h69=>
(wr base h69 (List.length r61.2) 0 [(vL l64.1 l64.2),(vL l65.1 l65.2),(vI n66)]).bind fun h70=>
((if b68 = true then
c_LLI h70 (List.length r61.2) 0 fun l72 l73 n74=>
(run (Et base) 155 [(.agg #[(vL l72.1 l72.2),(vL l73.1 l73.2),(vI n74)]),(vI n44),(vI n45)] h70).bind fun r75=>
((some r75.1).bind getB).bind fun b76=>
some (.inl ([some (vL l43.1 l43.2),some (vA d46),some (vA d47),some (vP (List.length r61.2)),some (vL l67.1 l67.2),some (.bool b76)],r75.2))
else
some (.inl ([some (vL l43.1 l43.2),some (vA d46),some (vA d47),some (vP (List.length r61.2)),some (vL l67.1 l67.2),some (.bool false)],h70)))).bind fun j71=>joinK j71 fun j71=>
j_LAAALB j71.1 fun l77 d78 d79 d80 l81 b82=>
(if b82 = true then
c_LLI j71.2 d80.block d80.off fun l83 l84 n85=>
(wr base j71.2 d79.block d79.off [(vL l83.1 l83.2),(vL l84.1 l84.2),(vI n85)]).bind fun h86=>
c_LLI h86 d79.block d79.off fun l87 l88 n89=>
some ((.tuple #[(.agg #[(vL l87.1 l87.2),(vL l88.1 l88.2),(vI n89)]),(vL l81.1 l81.2),(.bool true)]),h86)
else
c_LLI j71.2 d78.block d78.off fun l90 l91 n92=>
(run (Et base) 101 [(.agg #[(vL l90.1 l90.2),(vL l91.1 l91.2),(vI n92)])] j71.2).bind fun r93=>
gG (some r93.1) 3 fun l94=>
l_LLI l94 fun l95 l96 n97=>
nw1 r93.2 3 [] fun h98=>
(app base h98 3 1 8 (some ⟨(List.length r93.2),0,none⟩) 0 (rawAt h98 l77.1 (l77.2 * 1)) l77.2).bind fun p99=>
((some p99.1).bind getS).bind fun l100=>
(wr base p99.2 d79.block d79.off [(vL l95.1 l95.2),(vL l96.1 l96.2),(vI n97)]).bind fun h101=>
c_LLI h101 d79.block d79.off fun l102 l103 n104=>
some ((.tuple #[(.agg #[(vL l102.1 l102.2),(vL l103.1 l103.2),(vI n104)]),(vL l100.1 l100.2),(.bool false)]),h101))))
theorem r102 {base : Nat} {v0_0 : Option Addr} {v0_0n : Nat} {v0_1 : Option Addr} {v0_1n : Nat} {v0_2 : Int} {v1 : Option Addr} {v1n : Nat} {v2 : Option Addr} {v2n : Nat} {v3 : Int} {v4 : Int} {h : AH} {r : Value × AH} (hx : qf102 base v0_0 v0_0n v0_1 v0_1n v0_2 v1 v1n v2 v2n v3 v4 h = some r) : run (Et base) 102 [(.agg #[(vL v0_0 v0_0n),(vL v0_1 v0_1n),(vI v0_2)]),(vL v1 v1n),(vL v2 v2n),(vI v3),(vI v4)] h = some r:=run_i (an:=a102) Try.func102 (by kernel_rfl) (.trans (by kernel_rfl) hx)
end Go.Proofs.Ytkdenmdijdmnjaa.Am
