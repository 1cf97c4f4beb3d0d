/- What each of these functions comes to on the abstract machine, one equation a function and one a loop.
Conditions: none. -/
import Derived.Test.YtjmkbglnjklbcaaTb
set_option linter.unusedVariables false
set_option maxRecDepth 100000
namespace Go.Proofs.Ytjmkbglnjklbcaa.Am
open Go Go.RowKit
noncomputable abbrev qf8 (base : Nat) (v0 : Option Addr) (v0n : Nat) (v1_0 : Int) (v1_1 : Int) (v1_2 : Option Addr) (v1_2n : Nat) (v1_3 : Option Addr) (v1_3n : Nat) (v1_4 : Option Addr) (v1_4n : Nat) (v1_5 : Int) (v2_0 : Option Addr) (v2_0n : Nat) (v2_1 : Option Addr) (v2_1n : Nat) (v2_2 : Int) (v3 : Option Addr) (v3n : Nat) (h : AH) : Option (Value × AH) :=
nw1 h 74 [(vI v1_0), (vI v1_1), (vL v1_2 v1_2n), (vL v1_3 v1_3n), (vL v1_4 v1_4n), (vI v1_5)] fun h1 =>
nw1 h1 48 [(vL v2_0 v2_0n), (vL v2_1 v2_1n), (vI v2_2)] fun h2 =>
(run (Et base) 52 [(vL v0 v0n), (vI (1048576 : Int))] h2).bind fun r3 =>
((some r3.1).bind (getI .i64)).bind fun n4 =>
(if (decide (n4 < (0 : Int))) = true then
some ((.bool true), r3.2)
else
c_IILLLI r3.2 (List.length h) 0 fun n5 n6 l7 l8 l9 n10 =>
(run (Et base) 43 [(.agg #[(vI n5), (vI n6), (vL l7.1 l7.2), (vL l8.1 l8.2), (vL l9.1 l9.2), (vI n10)]), (vI n4)] r3.2).bind fun r11 =>
((some r11.1).bind (getI .i64)).bind fun n12 =>
(if (decide (n12 < (0 : Int))) = true then
some ((.bool true), r11.2)
else
c_LLI r11.2 (List.length h1) 0 fun l13 l14 n15 =>
(run (Et base) 27 [(.agg #[(vL l13.1 l13.2), (vL l14.1 l14.2), (vI n15)]), (vI n12)] r11.2).bind fun r16 =>
((some r16.1).bind (getI .i64)).bind fun n17 =>
(if (decide (n17 < (0 : Int))) = true then
some ((.bool true), r16.2)
else
(run (Et base) 12 [(vL v3 v3n), (vI n17)] r16.2).bind fun r18 =>
((some r18.1).bind (getI .i64)).bind fun n19 =>
(if (decide (n19 < (0 : Int))) = true then
some ((.bool true), r18.2)
else
(run (Et base) 54 [(vL v0 v0n)] r18.2).bind fun r20 =>
((some r20.1).bind getS).bind fun l21 =>
(gate (sameA r18.2 r20.2 (some ⟨(List.length h), 0, none⟩) 6)
(c_IILLLI r20.2 (List.length h) 0 fun n22 n23 l24 l25 l26 n27 =>
(run (Et base) 45 [(.agg #[(vI n22), (vI n23), (vL l24.1 l24.2), (vL l25.1 l25.2), (vL l26.1 l26.2), (vI n27)])] r20.2).bind fun r28 =>
gG (some r28.1) 6 fun l29 =>
l_IILLLI l29 fun n30 n31 l32 l33 l34 n35 =>
(gate (sameA r20.2 r28.2 (some ⟨(List.length h1), 0, none⟩) 3)
((gate (sameA r18.2 r28.2 (some ⟨(List.length h1), 0, none⟩) 3)
(c_LLI r28.2 (List.length h1) 0 fun l36 l37 n38 =>
(run (Et base) 29 [(.agg #[(vL l36.1 l36.2), (vL l37.1 l37.2), (vI n38)])] r28.2).bind fun r39 =>
gG (some r39.1) 3 fun l40 =>
l_LLI l40 fun l41 l42 n43 =>
(run (Et base) 16 [(vL v3 v3n)] r39.2).bind fun r44 =>
((some r44.1).bind getS).bind fun l45 =>
(run (Et base) 53 [(vL l21.1 l21.2), (.agg #[(vI n30), (vI n31), (vL l32.1 l32.2), (vL l33.1 l33.2), (vL l34.1 l34.2), (vI n35)]), (.agg #[(vL l41.1 l41.2), (vL l42.1 l42.2), (vI n43)]), (vL l45.1 l45.2)] r44.2).bind fun r46 =>
((some r46.1).bind getB).bind fun b47 =>
(run (Et base) 54 [(vL v0 v0n)] r46.2).bind fun r48 =>
((some r48.1).bind getS).bind fun l49 =>
c_IILLLI r48.2 (List.length h) 0 fun n50 n51 l52 l53 l54 n55 =>
(run (Et base) 45 [(.agg #[(vI n50), (vI n51), (vL l52.1 l52.2), (vL l53.1 l53.2), (vL l54.1 l54.2), (vI n55)])] r48.2).bind fun r56 =>
gG (some r56.1) 6 fun l57 =>
l_IILLLI l57 fun n58 n59 l60 l61 l62 n63 =>
nw1 r56.2 78 [(vI 0), (vI 0), (vL none 0), (vL none 0), (vL none 0), (vI 0)] fun h64 =>
(wr base h64 (List.length r56.2) 0 [(vI n58), (vI n59), (vL l60.1 l60.2), (vL l61.1 l61.2), (vL l62.1 l62.2), (vI n63)]).bind fun h65 =>
c_LLI h65 (List.length h1) 0 fun l66 l67 n68 =>
(run (Et base) 29 [(.agg #[(vL l66.1 l66.2), (vL l67.1 l67.2), (vI n68)])] h65).bind fun r69 =>
gG (some r69.1) 3 fun l70 =>
l_LLI l70 fun l71 l72 n73 =>
nw1 r69.2 50 [(vL none 0), (vL none 0), (vI 0)] fun h74 =>
(wr base h74 (List.length r69.2) 0 [(vL l71.1 l71.2), (vL l72.1 l72.2), (vI n73)]).bind fun h75 =>
(run (Et base) 16 [(vL v3 v3n)] h75).bind fun r76 =>
((some r76.1).bind getS).bind fun l77 =>
c_IILLLI r76.2 (List.length r56.2) 0 fun n78 n79 l80 l81 l82 n83 =>
c_LLI r76.2 (List.length r69.2) 0 fun l84 l85 n86 =>
(run (Et base) 55 [(vL l49.1 l49.2), (.agg #[(vI n78), (vI n79), (vL l80.1 l80.2), (vL l81.1 l81.2), (vL l82.1 l82.2), (vI n83)]), (.agg #[(vL l84.1 l84.2), (vL l85.1 l85.2), (vI n86)]), (vL l77.1 l77.2)] r76.2).bind fun r87 =>
((some r87.1).bind getB).bind fun b88 =>
(if (!(b88 == b47)) = true then
some ((.bool false), r87.2)
else
(run (Et base) 54 [(vL v0 v0n)] r87.2).bind fun r89 =>
((some r89.1).bind getS).bind fun l90 =>
(run (Et base) 56 [(vL l49.1 l49.2), (vL l90.1 l90.2)] r89.2).bind fun r91 =>
((some r91.1).bind getB).bind fun b92 =>
(if (!b92) = true then
some ((.bool false), r91.2)
else
c_IILLLI r91.2 (List.length r56.2) 0 fun n93 n94 l95 l96 l97 n98 =>
c_IILLLI r91.2 (List.length h) 0 fun n99 n100 l101 l102 l103 n104 =>
(run (Et base) 45 [(.agg #[(vI n99), (vI n100), (vL l101.1 l101.2), (vL l102.1 l102.2), (vL l103.1 l103.2), (vI n104)])] r91.2).bind fun r105 =>
gG (some r105.1) 6 fun l106 =>
l_IILLLI l106 fun n107 n108 l109 l110 l111 n112 =>
(gate (sameA r91.2 r105.2 (some ⟨(List.length r56.2), 0, none⟩) 6)
((run (Et base) 48 [(.agg #[(vI n93), (vI n94), (vL l95.1 l95.2), (vL l96.1 l96.2), (vL l97.1 l97.2), (vI n98)]), (.agg #[(vI n107), (vI n108), (vL l109.1 l109.2), (vL l110.1 l110.2), (vL l111.1 l111.2), (vI n112)])] r105.2).bind fun r113 =>
((some r113.1).bind getB).bind fun b114 =>
(if (!b114) = true then
some ((.bool false), r113.2)
else
c_LLI r113.2 (List.length r69.2) 0 fun l115 l116 n117 =>
c_LLI r113.2 (List.length h1) 0 fun l118 l119 n120 =>
(run (Et base) 29 [(.agg #[(vL l118.1 l118.2), (vL l119.1 l119.2), (vI n120)])] r113.2).bind fun r121 =>
gG (some r121.1) 3 fun l122 =>
l_LLI l122 fun l123 l124 n125 =>
(gate (sameA r113.2 r121.2 (some ⟨(List.length r69.2), 0, none⟩) 3)
((run (Et base) 31 [(.agg #[(vL l115.1 l115.2), (vL l116.1 l116.2), (vI n117)]), (.agg #[(vL l123.1 l123.2), (vL l124.1 l124.2), (vI n125)])] r121.2).bind fun r126 =>
((some r126.1).bind getB).bind fun b127 =>
(if (!b127) = true then
some ((.bool false), r126.2)
else
(run (Et base) 16 [(vL v3 v3n)] r126.2).bind fun r128 =>
((some r128.1).bind getS).bind fun l129 =>
(run (Et base) 20 [(vL l77.1 l77.2), (vL l129.1 l129.2)] r128.2).bind fun r130 =>
((some r130.1).bind getB).bind fun b131 =>
(if (!b131) = true then
some ((.bool false), r130.2)
else
some ((.bool true), r130.2))))))))))))))))))))
theorem r8 {base : Nat} {v0 : Option Addr} {v0n : Nat} {v1_0 : Int} {v1_1 : Int} {v1_2 : Option Addr} {v1_2n : Nat} {v1_3 : Option Addr} {v1_3n : Nat} {v1_4 : Option Addr} {v1_4n : Nat} {v1_5 : Int} {v2_0 : Option Addr} {v2_0n : Nat} {v2_1 : Option Addr} {v2_1n : Nat} {v2_2 : Int} {v3 : Option Addr} {v3n : Nat} {h : AH} {r : Value × AH} (hx : qf8 base v0 v0n v1_0 v1_1 v1_2 v1_2n v1_3 v1_3n v1_4 v1_4n v1_5 v2_0 v2_0n v2_1 v2_1n v2_2 v3 v3n h = some r) : run (Et base) 8 [(vL v0 v0n), (.agg #[(vI v1_0), (vI v1_1), (vL v1_2 v1_2n), (vL v1_3 v1_3n), (vL v1_4 v1_4n), (vI v1_5)]), (.agg #[(vL v2_0 v2_0n), (vL v2_1 v2_1n), (vI v2_2)]), (vL v3 v3n)] h = some r := run_i (an := a8) Try.func8 (by kernel_rfl) (.trans (by kernel_rfl) hx)
noncomputable def B12_0 (base : Nat) : Body := fun l h => lay s12_0 l fun s => exCode (Et base) (run (Et base)) loopL a12_0 (subC [1, 1, 1, 0, 1, 0, 0] (bodyC Try.f12)) s h (keepK s12_0 e12_0)
theorem B12_0_eq (base : Nat) (v0 : Option Addr) (v0n : Nat) (v1 : Int) (v5 : Int) (h : AH) : B12_0 base [some (vL v0 v0n), some (vI v1), some (vI v5)] h =
((if (decide (v5 < ((v0n : Nat) : Int))) = true then
(if 0 ≤ v5 ∧ v5 < ((v0n : Nat) : Int) then
((v0 : Option Addr)).bind fun a1 =>
((cell h a1.block (a1.off + Int.toNat v5 * 1)).bind getStr).bind fun s2 =>
(if (decide ((IntKind.wrap .i64 (v1 - (s2.size : Int))) < (0 : Int))) = true then
some (1, [some (.int .i64 (-1 : Int))], h)
else
some (0, [some (.slice v0 v0n v0n), some (.int .i64 (IntKind.wrap .i64 (v1 - (s2.size : Int)))), some (.int .i64 (IntKind.wrap .i64 (v5 + (1 : Int))))], h))
else none)
else
some (2, [some (.int .i64 v1)], h)) : Option (Nat × Slots × AH)) := by kernel_rfl
theorem r12 {base : Nat} {v0 : Option Addr} {v0n : Nat} {v1 : Int} {h : AH} {r : Value × AH} (hx : ((if (decide ((IntKind.wrap .i64 (v1 - ((v0n : Nat) : Int))) < (0 : Int))) = true then
some ((.int .i64 (-1 : Int)), h)
else
(loopL (B12_0 base) [some (.slice v0 v0n v0n), some (.int .i64 (IntKind.wrap .i64 (v1 - ((v0n : Nat) : Int)))), some (.int .i64 (0 : Int))] h).bind fun q1 =>
(if q1.1 = 1 then
((sget q1.2.1 0).bind (getI .i64)).bind fun n2 =>
some ((.int .i64 n2), q1.2.2)
else
(if q1.1 = 2 then
((sget q1.2.1 0).bind (getI .i64)).bind fun n3 =>
some ((.int .i64 n3), q1.2.2)
else
none)))) = some r) : run (Et base) 12 [(vL v0 v0n), (vI v1)] h = some r := run_i (an := a12) Try.func12 (by kernel_rfl) (.trans (by kernel_rfl) hx)
noncomputable def B16_0 (base : Nat) : Body := fun l h => lay s16_0 l fun s => exCode (Et base) (run (Et base)) loopL a16_0 (subC [1, 1, 0, 1, 0, 0] (bodyC Try.f16)) s h (keepK s16_0 e16_0)
theorem B16_0_eq (base : Nat) (v0 : Option Addr) (v0n : Nat) (v3 : Option Addr) (v3n : Nat) (v4 : Int) (h : AH) : B16_0 base [some (vL v0 v0n), some (vL v3 v3n), some (vI v4)] h =
((if (decide (v4 < ((v0n : Nat) : Int))) = true then
(if 0 ≤ v4 ∧ v4 < ((v0n : Nat) : Int) then
((v0 : Option Addr)).bind fun a1 =>
((cell h a1.block (a1.off + Int.toNat v4 * 1)).bind getStr).bind fun s2 =>
(if 0 ≤ v4 ∧ v4 < ((v3n : Nat) : Int) then
((v3 : Option Addr)).bind fun a3 =>
(wr base h a3.block (a3.off + Int.toNat v4 * 1) [(.string s2)]).bind fun h4 =>
some (0, [some (.slice v0 v0n v0n), some (.slice v3 v3n v3n), some (.int .i64 (IntKind.wrap .i64 (v4 + (1 : Int))))], h4)
else none)
else none)
else
some (2, [some (.slice v3 v3n v3n)], h)) : Option (Nat × Slots × AH)) := by kernel_rfl
theorem r16 {base : Nat} {v0 : Option Addr} {v0n : Nat} {h : AH} {r : Value × AH} (hx : ((if ((v0n : Nat) : Int) = ((v0n : Nat) : Int) ∧ 0 ≤ ((v0n : Nat) : Int) ∧ ((v0n : Nat) : Int) * 16 ≤ 140737488355328 ∧ ((v0n : Nat) : Int) ≤ 140737488355328 then
(some (h ++ [some ⟨rep [(.string ⟨#[]⟩)] (Int.toNat ((v0n : Nat) : Int)), 9⟩])).bind fun h1 =>
(loopL (B16_0 base) [some (.slice v0 v0n v0n), some (.slice (some ⟨(List.length h), 0, none⟩) (Int.toNat ((v0n : Nat) : Int)) (Int.toNat ((v0n : Nat) : Int))), some (.int .i64 (0 : Int))] h1).bind fun q2 =>
(if q2.1 = 2 then
((sget q2.2.1 0).bind getS).bind fun l3 =>
some ((.slice l3.1 l3.2 l3.2), q2.2.2)
else
none)
else none)) = some r) : run (Et base) 16 [(vL v0 v0n)] h = some r := run_i (an := a16) Try.func16 (by kernel_rfl) (.trans (by kernel_rfl) hx)
noncomputable def B20_0 (base : Nat) : Body := fun l h => lay s20_0 l fun s => exCode (Et base) (run (Et base)) loopL a20_0 (subC [1, 1, 0, 1, 0, 0] (bodyC Try.f20)) s h (keepK s20_0 e20_0)
theorem B20_0_eq (base : Nat) (v0 : Option Addr) (v0n : Nat) (v1 : Option Addr) (v1n : Nat) (v5 : Int) (h : AH) : B20_0 base [some (vL v0 v0n), some (vL v1 v1n), some (vI v5)] h =
((if (decide (v5 < ((v0n : Nat) : Int))) = true then
(if 0 ≤ v5 ∧ v5 < ((v0n : Nat) : Int) then
((v0 : Option Addr)).bind fun a1 =>
((cell h a1.block (a1.off + Int.toNat v5 * 1)).bind getStr).bind fun s2 =>
(if 0 ≤ v5 ∧ v5 < ((v1n : Nat) : Int) then
((v1 : Option Addr)).bind fun a3 =>
((cell h a3.block (a3.off + Int.toNat v5 * 1)).bind getStr).bind fun s4 =>
(if (!(s2.toList == s4.toList)) = true then
some (1, [some (.bool false)], h)
else
some (0, [some (.slice v0 v0n v0n), some (.slice v1 v1n v1n), some (.int .i64 (IntKind.wrap .i64 (v5 + (1 : Int))))], h))
else none)
else none)
else
some (2, [], h)) : Option (Nat × Slots × AH)) := by kernel_rfl
theorem r20 {base : Nat} {v0 : Option Addr} {v0n : Nat} {v1 : Option Addr} {v1n : Nat} {h : AH} {r : Value × AH} (hx : ((if (((v0n : Nat) : Int) != ((v1n : Nat) : Int)) = true then
some ((.bool false), h)
else
(loopL (B20_0 base) [some (.slice v0 v0n v0n), some (.slice v1 v1n v1n), some (.int .i64 (0 : Int))] h).bind fun q1 =>
(if q1.1 = 1 then
((sget q1.2.1 0).bind getB).bind fun b2 =>
some ((.bool b2), q1.2.2)
else
(if q1.1 = 2 then
some ((.bool true), q1.2.2)
else
none)))) = some r) : run (Et base) 20 [(vL v0 v0n), (vL v1 v1n)] h = some r := run_i (an := a20) Try.func20 (by kernel_rfl) (.trans (by kernel_rfl) hx)
theorem r27 {base : Nat} {v0_0 : Option Addr} {v0_0n : Nat} {v0_1 : Option Addr} {v0_1n : Nat} {v0_2 : Int} {v1 : Int} {h : AH} {r : Value × AH} (hx : ((some (h ++ [some ⟨[(.slice v0_0 v0_0n v0_0n), (.slice v0_1 v0_1n v0_1n), (.int .i64 v0_2)], 48⟩])).bind fun h1 =>
((cell h1 (List.length h) 0).bind getS).bind fun l2 =>
(run (Et base) 67 [(.slice l2.1 l2.2 l2.2), (.int .i64 v1)] h1).bind fun r3 =>
((some r3.1).bind (getI .i64)).bind fun n4 =>
(if (decide (n4 < (0 : Int))) = true then
some ((.int .i64 (-1 : Int)), r3.2)
else
((cell r3.2 (List.length h) 1).bind getS).bind fun l5 =>
(run (Et base) 67 [(.slice l5.1 l5.2 l5.2), (.int .i64 n4)] r3.2).bind fun r6 =>
((some r6.1).bind (getI .i64)).bind fun n7 =>
(if (decide (n7 < (0 : Int))) = true then
some ((.int .i64 (-1 : Int)), r6.2)
else
some ((.int .i64 n7), r6.2)))) = some r) : run (Et base) 27 [(.agg #[(vL v0_0 v0_0n), (vL v0_1 v0_1n), (vI v0_2)]), (vI v1)] h = some r := run_i (an := a27) Try.func27 (by kernel_rfl) (.trans (by kernel_rfl) hx)
theorem r29 {base : Nat} {v0_0 : Option Addr} {v0_0n : Nat} {v0_1 : Option Addr} {v0_1n : Nat} {v0_2 : Int} {h : AH} {r : Value × AH} (hx : ((some (h ++ [some ⟨[(.slice v0_0 v0_0n v0_0n), (.slice v0_1 v0_1n v0_1n), (.int .i64 v0_2)], 48⟩])).bind fun h1 =>
(some (h1 ++ [some ⟨[(.slice none 0 0), (.slice none 0 0), (.int .i64 0)], 50⟩])).bind fun h2 =>
(some (h2 ++ [some ⟨[(.slice none 0 0), (.slice none 0 0), (.int .i64 0)], 50⟩])).bind fun h3 =>
((cell h3 (List.length h) 0).bind getS).bind fun l4 =>
(run (Et base) 35 [(.slice l4.1 l4.2 l4.2)] h3).bind fun r5 =>
((some r5.1).bind getS).bind fun l6 =>
(wr base r5.2 (List.length h2) 0 [(.slice l6.1 l6.2 l6.2)]).bind fun h7 =>
((cell h7 (List.length h) 1).bind getS).bind fun l8 =>
(run (Et base) 35 [(.slice l8.1 l8.2 l8.2)] h7).bind fun r9 =>
((some r9.1).bind getS).bind fun l10 =>
(wr base r9.2 (List.length h2) 1 [(.slice l10.1 l10.2 l10.2)]).bind fun h11 =>
((cell h11 (List.length h) 2).bind (getI .i64)).bind fun n12 =>
(wr base h11 (List.length h2) 2 [(.int .i64 n12)]).bind fun h13 =>
((cell h13 (List.length h2) 0).bind getS).bind fun l14 =>
((cell h13 (List.length h2) 1).bind getS).bind fun l15 =>
((cell h13 (List.length h2) 2).bind (getI .i64)).bind fun n16 =>
(wr base h13 (List.length h1) 0 [(.slice l14.1 l14.2 l14.2), (.slice l15.1 l15.2 l15.2), (.int .i64 n16)]).bind fun h17 =>
((cell h17 (List.length h1) 0).bind getS).bind fun l18 =>
((cell h17 (List.length h1) 1).bind getS).bind fun l19 =>
((cell h17 (List.length h1) 2).bind (getI .i64)).bind fun n20 =>
some ((.agg #[(.slice l18.1 l18.2 l18.2), (.slice l19.1 l19.2 l19.2), (.int .i64 n20)]), h17)) = some r) : run (Et base) 29 [(.agg #[(vL v0_0 v0_0n), (vL v0_1 v0_1n), (vI v0_2)])] h = some r := run_i (an := a29) Try.func29 (by kernel_rfl) (.trans (by kernel_rfl) hx)
theorem r31 {base : Nat} {v0_0 : Option Addr} {v0_0n : Nat} {v0_1 : Option Addr} {v0_1n : Nat} {v0_2 : Int} {v1_0 : Option Addr} {v1_0n : Nat} {v1_1 : Option Addr} {v1_1n : Nat} {v1_2 : Int} {h : AH} {r : Value × AH} (hx : ((some (h ++ [some ⟨[(.slice v0_0 v0_0n v0_0n), (.slice v0_1 v0_1n v0_1n), (.int .i64 v0_2)], 50⟩])).bind fun h1 =>
(some (h1 ++ [some ⟨[(.slice v1_0 v1_0n v1_0n), (.slice v1_1 v1_1n v1_1n), (.int .i64 v1_2)], 50⟩])).bind fun h2 =>
((cell h2 (List.length h) 0).bind getS).bind fun l3 =>
((cell h2 (List.length h1) 0).bind getS).bind fun l4 =>
(run (Et base) 37 [(.slice l3.1 l3.2 l3.2), (.slice l4.1 l4.2 l4.2)] h2).bind fun r5 =>
((some r5.1).bind getB).bind fun b6 =>
(if (!b6) = true then
some ((.bool false), r5.2)
else
((cell r5.2 (List.length h) 1).bind getS).bind fun l7 =>
((cell r5.2 (List.length h1) 1).bind getS).bind fun l8 =>
(run (Et base) 37 [(.slice l7.1 l7.2 l7.2), (.slice l8.1 l8.2 l8.2)] r5.2).bind fun r9 =>
((some r9.1).bind getB).bind fun b10 =>
(if (!b10) = true then
some ((.bool false), r9.2)
else
((cell r9.2 (List.length h) 2).bind (getI .i64)).bind fun n11 =>
((cell r9.2 (List.length h1) 2).bind (getI .i64)).bind fun n12 =>
(if (n11 != n12) = true then
some ((.bool false), r9.2)
else
some ((.bool true), r9.2))))) = some r) : run (Et base) 31 [(.agg #[(vL v0_0 v0_0n), (vL v0_1 v0_1n), (vI v0_2)]), (.agg #[(vL v1_0 v1_0n), (vL v1_1 v1_1n), (vI v1_2)])] h = some r := run_i (an := a31) Try.func31 (by kernel_rfl) (.trans (by kernel_rfl) hx)
noncomputable def B34_0 (base : Nat) : Body := fun l h => lay s34_0 l fun s => exCode (Et base) (run (Et base)) loopL a34_0 (subC [1, 1, 0, 1, 0, 0] (bodyC Try.f34)) s h (keepK s34_0 e34_0)
theorem B34_0_eq (base : Nat) (v1 : Option Addr) (v1n : Nat) (v2 : Option Addr) (v2n : Nat) (v3 : Addr) (v7 : Int) (h : AH) : B34_0 base [some (vL v1 v1n), some (vL v2 v2n), some (vA v3), some (vI v7)] h =
((if (decide (v7 < ((v2n : Nat) : Int))) = true then
c_LLI h v3.block v3.off fun l1 l2 n3 =>
(if 0 ≤ v7 ∧ v7 < ((v2n : Nat) : Int) then
((v2 : Option Addr)).bind fun a4 =>
((cell h a4.block (a4.off + Int.toNat v7 * 1)).bind (getI .i64)).bind fun n5 =>
(run (Et base) 85 [(.agg #[(vL l1.1 l1.2), (vL l2.1 l2.2), (vI n3)]), (vL v1 v1n), (vI n5)] h).bind fun r6 =>
(getTup 2 r6.1).bind fun l7 =>
gG (l7[0]?) 4 fun l8 =>
l_IITL l8 fun n9 n10 s11 l12 =>
((l7[1]?).bind getB).bind fun b13 =>
(gate (neA (some ⟨a4.block, (a4.off + Int.toNat v7 * 1), none⟩) (List.length r6.2))
((gate (neA (some v3) (List.length r6.2))
(nw1 r6.2 39 [(vI 0), (vI 0), (vT ⟨#[]⟩), (vL none 0)] fun h14 =>
(wr base h14 (List.length r6.2) 0 [(vI n9), (vI n10), (vT s11), (vL l12.1 l12.2)]).bind fun h15 =>
((if (!b13) = true then
some (.inl ([some (vL v1 v1n), some (vL v2 v2n), some (vA v3), some (vI v7), some (.bool true)], h15))
else
c_LLI h15 v3.block v3.off fun l17 l18 n19 =>
(if 0 ≤ v7 ∧ v7 < ((v2n : Nat) : Int) then
((v2 : Option Addr)).bind fun a20 =>
((cell h15 a20.block (a20.off + Int.toNat v7 * 1)).bind (getI .i64)).bind fun n21 =>
(run (Et base) 86 [(.agg #[(vL l17.1 l17.2), (vL l18.1 l18.2), (vI n19)]), (vI n21), (vI (200000 : Int))] h15).bind fun r22 =>
((some r22.1).bind getB).bind fun b23 =>
some (.inl ([some (vL v1 v1n), some (vL v2 v2n), some (vA v3), some (vI v7), some (.bool (!b23))], r22.2))
else none))).bind fun j16 => joinK j16 fun j16 =>
j_LLAIB j16.1 fun l24 l25 d26 n27 b28 =>
(if b28 = true then
some (1, [some (.bool false)], j16.2)
else
some (0, [some (vL l24.1 l24.2), some (vL l25.1 l25.2), some (vA d26), some (vI (IntKind.wrap .i64 (n27 + (1 : Int))))], j16.2))))))
else none)
else
some (2, [], h)) : Option (Nat × Slots × AH)) := by kernel_rfl
theorem r34 {base : Nat} {v0_0 : Option Addr} {v0_0n : Nat} {v0_1 : Option Addr} {v0_1n : Nat} {v0_2 : Int} {v1 : Option Addr} {v1n : Nat} {v2 : Option Addr} {v2n : Nat} {h : AH} {r : Value × AH} (hx : (nw1 h 50 [(vL v0_0 v0_0n), (vL v0_1 v0_1n), (vI v0_2)] fun h1 =>
(((cell h1 (List.length h) 0).bind getS).bind fun l3 =>
(if (decide (((l3.2 : Nat) : Int) > (1000 : Int))) = true then
some (.inl ([some (vL v1 v1n), some (vL v2 v2n), some (vP (List.length h)), some (.bool true)], h1))
else
((cell h1 (List.length h) 1).bind getS).bind fun l4 =>
(if (decide (((l4.2 : Nat) : Int) > (1000 : Int))) = true then
some (.inl ([some (vL v1 v1n), some (vL v2 v2n), some (vP (List.length h)), some (.bool true)], h1))
else
((cell h1 (List.length h) 2).bind (getI .i64)).bind fun n5 =>
((cell h1 (List.length h) 1).bind getS).bind fun l6 =>
(run (Et base) 83 [(vI n5), (vI (0 : Int)), (vI ((l6.2 : Nat) : Int))] h1).bind fun r7 =>
((some r7.1).bind getB).bind fun b8 =>
(if (!b8) = true then
some (.inl ([some (vL v1 v1n), some (vL v2 v2n), some (vP (List.length h)), some (.bool true)], r7.2))
else
(run (Et base) 84 [(vL v1 v1n)] r7.2).bind fun r9 =>
((some r9.1).bind getB).bind fun b10 =>
some (.inl ([some (vL v1 v1n), some (vL v2 v2n), some (vP (List.length h)), some (.bool (!b10))], r9.2)))))).bind fun j2 => joinK j2 fun j2 =>
j_LLAB j2.1 fun l11 l12 d13 b14 =>
(if b14 = true then
some ((.bool false), j2.2)
else
(loopL (B34_0 base) [some (vL l11.1 l11.2), some (vL l12.1 l12.2), some (vA d13), some (vI (0 : Int))] j2.2).bind fun q15 =>
(if q15.1 = 1 then
((sget q15.2.1 0).bind getB).bind fun b16 =>
some ((.bool b16), q15.2.2)
else
(if q15.1 = 2 then
some ((.bool true), q15.2.2)
else
none)))) = some r) : run (Et base) 34 [(.agg #[(vL v0_0 v0_0n), (vL v0_1 v0_1n), (vI v0_2)]), (vL v1 v1n), (vL v2 v2n)] h = some r := run_i (an := a34) Try.func34 (by kernel_rfl) (.trans (by kernel_rfl) hx)
noncomputable def B35_0 (base : Nat) : Body := fun l h => lay s35_0 l fun s => exCode (Et base) (run (Et base)) loopL a35_0 (subC [1, 1, 0, 1, 0, 0] (bodyC Try.f35)) s h (keepK s35_0 e35_0)
theorem B35_0_eq (base : Nat) (v0 : Option Addr) (v0n : Nat) (v3 : Option Addr) (v3n : Nat) (v4 : Int) (h : AH) : B35_0 base [some (vL v0 v0n), some (vL v3 v3n), some (vI v4)] h =
((if (decide (v4 < ((v0n : Nat) : Int))) = true then
(if 0 ≤ v4 ∧ v4 < ((v0n : Nat) : Int) then
((v0 : Option Addr)).bind fun a1 =>
((cell h a1.block (a1.off + Int.toNat v4 * 1)).bind (getI .i64)).bind fun n2 =>
(if 0 ≤ v4 ∧ v4 < ((v3n : Nat) : Int) then
((v3 : Option Addr)).bind fun a3 =>
(wr base h a3.block (a3.off + Int.toNat v4 * 1) [(.int .i64 n2)]).bind fun h4 =>
some (0, [some (.slice v0 v0n v0n), some (.slice v3 v3n v3n), some (.int .i64 (IntKind.wrap .i64 (v4 + (1 : Int))))], h4)
else none)
else none)
else
some (2, [some (.slice v3 v3n v3n)], h)) : Option (Nat × Slots × AH)) := by kernel_rfl
theorem r35 {base : Nat} {v0 : Option Addr} {v0n : Nat} {h : AH} {r : Value × AH} (hx : ((if ((v0n : Nat) : Int) = ((v0n : Nat) : Int) ∧ 0 ≤ ((v0n : Nat) : Int) ∧ ((v0n : Nat) : Int) * 8 ≤ 140737488355328 ∧ ((v0n : Nat) : Int) ≤ 140737488355328 then
(some (h ++ [some ⟨rep [(.int .i64 0)] (Int.toNat ((v0n : Nat) : Int)), 3⟩])).bind fun h1 =>
(loopL (B35_0 base) [some (.slice v0 v0n v0n), some (.slice (some ⟨(List.length h), 0, none⟩) (Int.toNat ((v0n : Nat) : Int)) (Int.toNat ((v0n : Nat) : Int))), some (.int .i64 (0 : Int))] h1).bind fun q2 =>
(if q2.1 = 2 then
((sget q2.2.1 0).bind getS).bind fun l3 =>
some ((.slice l3.1 l3.2 l3.2), q2.2.2)
else
none)
else none)) = some r) : run (Et base) 35 [(vL v0 v0n)] h = some r := run_i (an := a35) Try.func35 (by kernel_rfl) (.trans (by kernel_rfl) hx)
noncomputable def B36_0 (base : Nat) : Body := fun l h => lay s36_0 l fun s => exCode (Et base) (run (Et base)) loopL a36_0 (subC [1, 1, 0, 1, 0, 0] (bodyC Try.f36)) s h (keepK s36_0 e36_0)
theorem B36_0_eq (base : Nat) (v1 : Option Addr) (v1n : Nat) (v3 : Addr) (v35 : Option Addr) (v35n : Nat) (v36 : Int) (v37 : Int) (h : AH) : B36_0 base [some (vL v1 v1n), some (vA v3), some (vL v35 v35n), some (vI v36), some (vI v37)] h =
((if (decide (v37 < v36)) = true then
(if 0 ≤ v37 ∧ v37 < ((v35n : Nat) : Int) then
((v35 : Option Addr)).bind fun a1 =>
((cell h a1.block (a1.off + Int.toNat v37 * 1)).bind (getI .i64)).bind fun n2 =>
c_LLI h v3.block v3.off fun l3 l4 n5 =>
(run (Et base) 89 [(.agg #[(vL l3.1 l3.2), (vL l4.1 l4.2), (vI n5)]), (vL v1 v1n), (vI n2)] h).bind fun r6 =>
(getTup 2 r6.1).bind fun l7 =>
gG (l7[0]?) 4 fun l8 =>
l_IITL l8 fun n9 n10 s11 l12 =>
((l7[1]?).bind getB).bind fun b13 =>
nw1 r6.2 39 [(vI 0), (vI 0), (vT ⟨#[]⟩), (vL none 0)] fun h14 =>
(wr base h14 (List.length r6.2) 0 [(vI n9), (vI n10), (vT s11), (vL l12.1 l12.2)]).bind fun h15 =>
((if (!b13) = true then
some (.inl ([some (vL v1 v1n), some (vA v3), some (vL v35 v35n), some (vI v36), some (vI v37), some (.bool true)], h15))
else
(run (Et base) 90 [(vA v3), (vI n2)] h15).bind fun r17 =>
((some r17.1).bind getB).bind fun b18 =>
some (.inl ([some (vL v1 v1n), some (vA v3), some (vL v35 v35n), some (vI v36), some (vI v37), some (.bool (!b18))], r17.2)))).bind fun j16 => joinK j16 fun j16 =>
j_LALIIB j16.1 fun l19 d20 l21 n22 n23 b24 =>
(if b24 = true then
some (1, [some (.bool false)], j16.2)
else
some (0, [some (vL l19.1 l19.2), some (vA d20), some (vL l21.1 l21.2), some (vI n22), some (vI (IntKind.wrap .i64 (n23 + (1 : Int))))], j16.2))
else none)
else
some (2, [], h)) : Option (Nat × Slots × AH)) := by kernel_rfl
theorem r36 {base : Nat} {v0_0 : Option Addr} {v0_0n : Nat} {v0_1 : Option Addr} {v0_1n : Nat} {v0_2 : Int} {v1 : Option Addr} {v1n : Nat} {v2 : Option Addr} {v2n : Nat} {h : AH} {r : Value × AH} (hx : (nw1 h 50 [(vL v0_0 v0_0n), (vL v0_1 v0_1n), (vI v0_2)] fun h1 =>
(((cell h1 (List.length h) 0).bind getS).bind fun l3 =>
(if (decide (((l3.2 : Nat) : Int) > (1000 : Int))) = true then
some (.inl ([some (vL v1 v1n), some (vL v2 v2n), some (vP (List.length h)), some (.bool true)], h1))
else
((cell h1 (List.length h) 1).bind getS).bind fun l4 =>
(if (decide (((l4.2 : Nat) : Int) > (1000 : Int))) = true then
some (.inl ([some (vL v1 v1n), some (vL v2 v2n), some (vP (List.length h)), some (.bool true)], h1))
else
((cell h1 (List.length h) 2).bind (getI .i64)).bind fun n5 =>
((cell h1 (List.length h) 1).bind getS).bind fun l6 =>
(run (Et base) 87 [(vI n5), (vI (0 : Int)), (vI ((l6.2 : Nat) : Int))] h1).bind fun r7 =>
((some r7.1).bind getB).bind fun b8 =>
(if (!b8) = true then
some (.inl ([some (vL v1 v1n), some (vL v2 v2n), some (vP (List.length h)), some (.bool true)], r7.2))
else
(run (Et base) 88 [(vL v1 v1n)] r7.2).bind fun r9 =>
((some r9.1).bind getB).bind fun b10 =>
some (.inl ([some (vL v1 v1n), some (vL v2 v2n), some (vP (List.length h)), some (.bool (!b10))], r9.2)))))).bind fun j2 => joinK j2 fun j2 =>
j_LLAB j2.1 fun l11 l12 d13 b14 =>
(if b14 = true then
some ((.bool false), j2.2)
else
(loopL (B36_0 base) [some (vL l11.1 l11.2), some (vA d13), some (vL l12.1 l12.2), some (vI ((l12.2 : Nat) : Int)), some (vI (0 : Int))] j2.2).bind fun q15 =>
(if q15.1 = 1 then
((sget q15.2.1 0).bind getB).bind fun b16 =>
some ((.bool b16), q15.2.2)
else
(if q15.1 = 2 then
some ((.bool true), q15.2.2)
else
none)))) = some r) : run (Et base) 36 [(.agg #[(vL v0_0 v0_0n), (vL v0_1 v0_1n), (vI v0_2)]), (vL v1 v1n), (vL v2 v2n)] h = some r := run_i (an := a36) Try.func36 (by kernel_rfl) (.trans (by kernel_rfl) hx)
noncomputable def B37_0 (base : Nat) : Body := fun l h => lay s37_0 l fun s => exCode (Et base) (run (Et base)) loopL a37_0 (subC [1, 1, 0, 1, 0, 0] (bodyC Try.f37)) s h (keepK s37_0 e37_0)
theorem B37_0_eq (base : Nat) (v0 : Option Addr) (v0n : Nat) (v1 : Option Addr) (v1n : Nat) (v5 : Int) (h : AH) : B37_0 base [some (vL v0 v0n), some (vL v1 v1n), some (vI v5)] h =
((if (decide (v5 < ((v0n : Nat) : Int))) = true then
(if 0 ≤ v5 ∧ v5 < ((v0n : Nat) : Int) then
((v0 : Option Addr)).bind fun a1 =>
((cell h a1.block (a1.off + Int.toNat v5 * 1)).bind (getI .i64)).bind fun n2 =>
(if 0 ≤ v5 ∧ v5 < ((v1n : Nat) : Int) then
((v1 : Option Addr)).bind fun a3 =>
((cell h a3.block (a3.off + Int.toNat v5 * 1)).bind (getI .i64)).bind fun n4 =>
(if (n2 != n4) = true then
some (1, [some (.bool false)], h)
else
some (0, [some (.slice v0 v0n v0n), some (.slice v1 v1n v1n), some (.int .i64 (IntKind.wrap .i64 (v5 + (1 : Int))))], h))
else none)
else none)
else
some (2, [], h)) : Option (Nat × Slots × AH)) := by kernel_rfl
theorem r37 {base : Nat} {v0 : Option Addr} {v0n : Nat} {v1 : Option Addr} {v1n : Nat} {h : AH} {r : Value × AH} (hx : ((if (((v0n : Nat) : Int) != ((v1n : Nat) : Int)) = true then
some ((.bool false), h)
else
(loopL (B37_0 base) [some (.slice v0 v0n v0n), some (.slice v1 v1n v1n), some (.int .i64 (0 : Int))] h).bind fun q1 =>
(if q1.1 = 1 then
((sget q1.2.1 0).bind getB).bind fun b2 =>
some ((.bool b2), q1.2.2)
else
(if q1.1 = 2 then
some ((.bool true), q1.2.2)
else
none)))) = some r) : run (Et base) 37 [(vL v0 v0n), (vL v1 v1n)] h = some r := run_i (an := a37) Try.func37 (by kernel_rfl) (.trans (by kernel_rfl) hx)
theorem r43 {base : Nat} {v0_0 : Int} {v0_1 : Int} {v0_2 : Option Addr} {v0_2n : Nat} {v0_3 : Option Addr} {v0_3n : Nat} {v0_4 : Option Addr} {v0_4n : Nat} {v0_5 : Int} {v1 : Int} {h : AH} {r : Value × AH} (hx : ((some (h ++ [some ⟨[(.int .i64 v0_0), (.int .i64 v0_1), (.slice v0_2 v0_2n v0_2n), (.slice v0_3 v0_3n v0_3n), (.slice v0_4 v0_4n v0_4n), (.int .i64 v0_5)], 74⟩])).bind fun h1 =>
((cell h1 (List.length h) 2).bind getS).bind fun l2 =>
(run (Et base) 67 [(.slice l2.1 l2.2 l2.2), (.int .i64 v1)] h1).bind fun r3 =>
((some r3.1).bind (getI .i64)).bind fun n4 =>
(if (decide (n4 < (0 : Int))) = true then
some ((.int .i64 (-1 : Int)), r3.2)
else
((cell r3.2 (List.length h) 3).bind getS).bind fun l5 =>
(run (Et base) 67 [(.slice l5.1 l5.2 l5.2), (.int .i64 n4)] r3.2).bind fun r6 =>
((some r6.1).bind (getI .i64)).bind fun n7 =>
(if (decide (n7 < (0 : Int))) = true then
some ((.int .i64 (-1 : Int)), r6.2)
else
((cell r6.2 (List.length h) 4).bind getS).bind fun l8 =>
(run (Et base) 67 [(.slice l8.1 l8.2 l8.2), (.int .i64 n7)] r6.2).bind fun r9 =>
((some r9.1).bind (getI .i64)).bind fun n10 =>
(if (decide (n10 < (0 : Int))) = true then
some ((.int .i64 (-1 : Int)), r9.2)
else
some ((.int .i64 n10), r9.2))))) = some r) : run (Et base) 43 [(.agg #[(vI v0_0), (vI v0_1), (vL v0_2 v0_2n), (vL v0_3 v0_3n), (vL v0_4 v0_4n), (vI v0_5)]), (vI v1)] h = some r := run_i (an := a43) Try.func43 (by kernel_rfl) (.trans (by kernel_rfl) hx)
theorem r45 {base : Nat} {v0_0 : Int} {v0_1 : Int} {v0_2 : Option Addr} {v0_2n : Nat} {v0_3 : Option Addr} {v0_3n : Nat} {v0_4 : Option Addr} {v0_4n : Nat} {v0_5 : Int} {h : AH} {r : Value × AH} (hx : (nw1 h 74 [(vI v0_0), (vI v0_1), (vL v0_2 v0_2n), (vL v0_3 v0_3n), (vL v0_4 v0_4n), (vI v0_5)] fun h1 =>
nw1 h1 78 [(vI 0), (vI 0), (vL none 0), (vL none 0), (vL none 0), (vI 0)] fun h2 =>
nw1 h2 78 [(vI 0), (vI 0), (vL none 0), (vL none 0), (vL none 0), (vI 0)] fun h3 =>
((cell h3 (List.length h) 0).bind (getI .i64)).bind fun n4 =>
(wr base h3 (List.length h2) 0 [(vI n4)]).bind fun h5 =>
((cell h5 (List.length h) 1).bind (getI .i64)).bind fun n6 =>
(wr base h5 (List.length h2) 1 [(vI n6)]).bind fun h7 =>
((cell h7 (List.length h) 2).bind getS).bind fun l8 =>
(run (Et base) 35 [(vL l8.1 l8.2)] h7).bind fun r9 =>
((some r9.1).bind getS).bind fun l10 =>
(wr base r9.2 (List.length h2) 2 [(vL l10.1 l10.2)]).bind fun h11 =>
((cell h11 (List.length h) 3).bind getS).bind fun l12 =>
(run (Et base) 35 [(vL l12.1 l12.2)] h11).bind fun r13 =>
((some r13.1).bind getS).bind fun l14 =>
(wr base r13.2 (List.length h2) 3 [(vL l14.1 l14.2)]).bind fun h15 =>
((cell h15 (List.length h) 4).bind getS).bind fun l16 =>
(run (Et base) 35 [(vL l16.1 l16.2)] h15).bind fun r17 =>
((some r17.1).bind getS).bind fun l18 =>
(wr base r17.2 (List.length h2) 4 [(vL l18.1 l18.2)]).bind fun h19 =>
((cell h19 (List.length h) 5).bind (getI .i64)).bind fun n20 =>
(wr base h19 (List.length h2) 5 [(vI n20)]).bind fun h21 =>
c_IILLLI h21 (List.length h2) 0 fun n22 n23 l24 l25 l26 n27 =>
(wr base h21 (List.length h1) 0 [(vI n22), (vI n23), (vL l24.1 l24.2), (vL l25.1 l25.2), (vL l26.1 l26.2), (vI n27)]).bind fun h28 =>
c_IILLLI h28 (List.length h1) 0 fun n29 n30 l31 l32 l33 n34 =>
some ((.agg #[(vI n29), (vI n30), (vL l31.1 l31.2), (vL l32.1 l32.2), (vL l33.1 l33.2), (vI n34)]), h28)) = some r) : run (Et base) 45 [(.agg #[(vI v0_0), (vI v0_1), (vL v0_2 v0_2n), (vL v0_3 v0_3n), (vL v0_4 v0_4n), (vI v0_5)])] h = some r := run_i (an := a45) Try.func45 (by kernel_rfl) (.trans (by kernel_rfl) hx)
theorem r48 {base : Nat} {v0_0 : Int} {v0_1 : Int} {v0_2 : Option Addr} {v0_2n : Nat} {v0_3 : Option Addr} {v0_3n : Nat} {v0_4 : Option Addr} {v0_4n : Nat} {v0_5 : Int} {v1_0 : Int} {v1_1 : Int} {v1_2 : Option Addr} {v1_2n : Nat} {v1_3 : Option Addr} {v1_3n : Nat} {v1_4 : Option Addr} {v1_4n : Nat} {v1_5 : Int} {h : AH} {r : Value × AH} (hx : (nw1 h 78 [(vI v0_0), (vI v0_1), (vL v0_2 v0_2n), (vL v0_3 v0_3n), (vL v0_4 v0_4n), (vI v0_5)] fun h1 =>
nw1 h1 78 [(vI v1_0), (vI v1_1), (vL v1_2 v1_2n), (vL v1_3 v1_3n), (vL v1_4 v1_4n), (vI v1_5)] fun h2 =>
((cell h2 (List.length h) 0).bind (getI .i64)).bind fun n3 =>
((cell h2 (List.length h1) 0).bind (getI .i64)).bind fun n4 =>
(if (n3 != n4) = true then
some ((.bool false), h2)
else
((cell h2 (List.length h) 1).bind (getI .i64)).bind fun n5 =>
((cell h2 (List.length h1) 1).bind (getI .i64)).bind fun n6 =>
(if (n5 != n6) = true then
some ((.bool false), h2)
else
((cell h2 (List.length h) 2).bind getS).bind fun l7 =>
((cell h2 (List.length h1) 2).bind getS).bind fun l8 =>
(run (Et base) 37 [(vL l7.1 l7.2), (vL l8.1 l8.2)] h2).bind fun r9 =>
((some r9.1).bind getB).bind fun b10 =>
(if (!b10) = true then
some ((.bool false), r9.2)
else
((cell r9.2 (List.length h) 3).bind getS).bind fun l11 =>
((cell r9.2 (List.length h1) 3).bind getS).bind fun l12 =>
(run (Et base) 37 [(vL l11.1 l11.2), (vL l12.1 l12.2)] r9.2).bind fun r13 =>
((some r13.1).bind getB).bind fun b14 =>
(if (!b14) = true then
some ((.bool false), r13.2)
else
((cell r13.2 (List.length h) 4).bind getS).bind fun l15 =>
((cell r13.2 (List.length h1) 4).bind getS).bind fun l16 =>
(run (Et base) 37 [(vL l15.1 l15.2), (vL l16.1 l16.2)] r13.2).bind fun r17 =>
((some r17.1).bind getB).bind fun b18 =>
(if (!b18) = true then
some ((.bool false), r17.2)
else
((cell r17.2 (List.length h) 5).bind (getI .i64)).bind fun n19 =>
((cell r17.2 (List.length h1) 5).bind (getI .i64)).bind fun n20 =>
(if (n19 != n20) = true then
some ((.bool false), r17.2)
else
some ((.bool true), r17.2)))))))) = some r) : run (Et base) 48 [(.agg #[(vI v0_0), (vI v0_1), (vL v0_2 v0_2n), (vL v0_3 v0_3n), (vL v0_4 v0_4n), (vI v0_5)]), (.agg #[(vI v1_0), (vI v1_1), (vL v1_2 v1_2n), (vL v1_3 v1_3n), (vL v1_4 v1_4n), (vI v1_5)])] h = some r := run_i (an := a48) Try.func48 (by kernel_rfl) (.trans (by kernel_rfl) hx)
noncomputable def B52_0 (base : Nat) : Body := fun l h => lay s52_0 l fun s => exCode (Et base) (run (Et base)) loopL a52_0 (subC [1, 1, 1, 0, 1, 0, 0] (bodyC Try.f52)) s h (keepK s52_0 e52_0)
theorem B52_0_eq (base : Nat) (v0 : Option Addr) (v0n : Nat) (v1 : Int) (v5 : Int) (h : AH) : B52_0 base [some (vL v0 v0n), some (vI v1), some (vI v5)] h =
((if (decide (v5 < ((v0n : Nat) : Int))) = true then
(if 0 ≤ v5 ∧ v5 < ((v0n : Nat) : Int) then
((v0 : Option Addr)).bind fun a1 =>
((cell h a1.block (a1.off + Int.toNat v5 * 6)).bind (getI .i64)).bind fun n2 =>
((cell h a1.block ((a1.off + Int.toNat v5 * 6) + 1)).bind (getI .i64)).bind fun n3 =>
((cell h a1.block (((a1.off + Int.toNat v5 * 6) + 1) + 1)).bind (getI .i64)).bind fun n4 =>
((cell h a1.block ((((a1.off + Int.toNat v5 * 6) + 1) + 1) + 1)).bind (getI .i64)).bind fun n5 =>
((cell h a1.block (((((a1.off + Int.toNat v5 * 6) + 1) + 1) + 1) + 1)).bind (getI .i64)).bind fun n6 =>
((cell h a1.block ((((((a1.off + Int.toNat v5 * 6) + 1) + 1) + 1) + 1) + 1)).bind getStr).bind fun s7 =>
(run (Et base) 112 [(.agg #[(.int .i64 n2), (.int .i64 n3), (.int .i64 n4), (.int .i64 n5), (.int .i64 n6), (.string s7)]), (.int .i64 v1)] h).bind fun r8 =>
((some r8.1).bind (getI .i64)).bind fun n9 =>
(if (decide (n9 < (0 : Int))) = true then
some (1, [some (.int .i64 (-1 : Int))], r8.2)
else
some (0, [some (.slice v0 v0n v0n), some (.int .i64 n9), some (.int .i64 (IntKind.wrap .i64 (v5 + (1 : Int))))], r8.2))
else none)
else
some (2, [some (.int .i64 v1)], h)) : Option (Nat × Slots × AH)) := by kernel_rfl
theorem r52 {base : Nat} {v0 : Option Addr} {v0n : Nat} {v1 : Int} {h : AH} {r : Value × AH} (hx : ((if (decide ((IntKind.wrap .i64 (v1 - ((v0n : Nat) : Int))) < (0 : Int))) = true then
some ((.int .i64 (-1 : Int)), h)
else
(loopL (B52_0 base) [some (.slice v0 v0n v0n), some (.int .i64 (IntKind.wrap .i64 (v1 - ((v0n : Nat) : Int)))), some (.int .i64 (0 : Int))] h).bind fun q1 =>
(if q1.1 = 1 then
((sget q1.2.1 0).bind (getI .i64)).bind fun n2 =>
some ((.int .i64 n2), q1.2.2)
else
(if q1.1 = 2 then
((sget q1.2.1 0).bind (getI .i64)).bind fun n3 =>
some ((.int .i64 n3), q1.2.2)
else
none)))) = some r) : run (Et base) 52 [(vL v0 v0n), (vI v1)] h = some r := run_i (an := a52) Try.func52 (by kernel_rfl) (.trans (by kernel_rfl) hx)
noncomputable abbrev qf53 (base : Nat) (v0 : Option Addr) (v0n : Nat) (v1_0 : Int) (v1_1 : Int) (v1_2 : Option Addr) (v1_2n : Nat) (v1_3 : Option Addr) (v1_3n : Nat) (v1_4 : Option Addr) (v1_4n : Nat) (v1_5 : Int) (v2_0 : Option Addr) (v2_0n : Nat) (v2_1 : Option Addr) (v2_1n : Nat) (v2_2 : Int) (v3 : Option Addr) (v3n : Nat) (h : AH) : Option (Value × AH) :=
nw1 h 78 [(vI v1_0), (vI v1_1), (vL v1_2 v1_2n), (vL v1_3 v1_3n), (vL v1_4 v1_4n), (vI v1_5)] fun h1 =>
nw1 h1 50 [(vL v2_0 v2_0n), (vL v2_1 v2_1n), (vI v2_2)] fun h2 =>
((run (Et base) 105 [(vL v0 v0n)] h2).bind fun r4 =>
((some r4.1).bind getB).bind fun b5 =>
(if (!b5) = true then
some (.inl ([some (vL v3 v3n), some (vP (List.length h)), some (vP (List.length h1)), some (.bool true)], r4.2))
else
((cell r4.2 (List.length h) 0).bind (getI .i64)).bind fun n6 =>
(run (Et base) 83 [(vI n6), (vI (1 : Int)), (vI (99999 : Int))] r4.2).bind fun r7 =>
((some r7.1).bind getB).bind fun b8 =>
(if (!b8) = true then
some (.inl ([some (vL v3 v3n), some (vP (List.length h)), some (vP (List.length h1)), some (.bool true)], r7.2))
else
((cell r7.2 (List.length h) 1).bind (getI .i64)).bind fun n9 =>
(run (Et base) 83 [(vI n9), (vI (0 : Int)), (vI (IntKind.wrap .i64 (((v0n : Nat) : Int) - (1 : Int))))] r7.2).bind fun r10 =>
((some r10.1).bind getB).bind fun b11 =>
(if (!b11) = true then
some (.inl ([some (vL v3 v3n), some (vP (List.length h)), some (vP (List.length h1)), some (.bool true)], r10.2))
else
((cell r10.2 (List.length h) 2).bind getS).bind fun l12 =>
(if (((l12.2 : Nat) : Int) != (8 : Int)) = true then
some (.inl ([some (vL v3 v3n), some (vP (List.length h)), some (vP (List.length h1)), some (.bool true)], r10.2))
else
((cell r10.2 (List.length h) 3).bind getS).bind fun l13 =>
some (.inl ([some (vL v3 v3n), some (vP (List.length h)), some (vP (List.length h1)), some (.bool (decide (((l13.2 : Nat) : Int) > (30 : Int))))], r10.2))))))).bind fun j3 => joinK j3 fun j3 =>
j_LAAB j3.1 fun l14 d15 d16 b17 =>
(if b17 = true then
some ((.bool false), j3.2)
else
((cell j3.2 d15.block (d15.off + 4)).bind getS).bind fun l18 =>
((cell j3.2 d15.block (d15.off + 0)).bind (getI .i64)).bind fun n19 =>
(run (Et base) 107 [(vL l18.1 l18.2), (vI n19)] j3.2).bind fun r20 =>
((some r20.1).bind getB).bind fun b21 =>
(if b21 = true then
c_LLI r20.2 d16.block d16.off fun l22 l23 n24 =>
c_IILLLI r20.2 d15.block d15.off fun n25 n26 l27 l28 l29 n30 =>
(run (Et base) 113 [(.agg #[(vI n25), (vI n26), (vL l27.1 l27.2), (vL l28.1 l28.2), (vL l29.1 l29.2), (vI n30)])] r20.2).bind fun r31 =>
((some r31.1).bind getS).bind fun l32 =>
(gate (sameA r20.2 r31.2 (some d16) 3)
((run (Et base) 34 [(.agg #[(vL l22.1 l22.2), (vL l23.1 l23.2), (vI n24)]), (vL l14.1 l14.2), (vL l32.1 l32.2)] r31.2).bind fun r33 =>
((some r33.1).bind getB).bind fun b34 =>
some ((.bool b34), r33.2)))
else
some ((.bool false), r20.2)))
theorem r53 {base : Nat} {v0 : Option Addr} {v0n : Nat} {v1_0 : Int} {v1_1 : Int} {v1_2 : Option Addr} {v1_2n : Nat} {v1_3 : Option Addr} {v1_3n : Nat} {v1_4 : Option Addr} {v1_4n : Nat} {v1_5 : Int} {v2_0 : Option Addr} {v2_0n : Nat} {v2_1 : Option Addr} {v2_1n : Nat} {v2_2 : Int} {v3 : Option Addr} {v3n : Nat} {h : AH} {r : Value × AH} (hx : qf53 base v0 v0n v1_0 v1_1 v1_2 v1_2n v1_3 v1_3n v1_4 v1_4n v1_5 v2_0 v2_0n v2_1 v2_1n v2_2 v3 v3n h = some r) : run (Et base) 53 [(vL v0 v0n), (.agg #[(vI v1_0), (vI v1_1), (vL v1_2 v1_2n), (vL v1_3 v1_3n), (vL v1_4 v1_4n), (vI v1_5)]), (.agg #[(vL v2_0 v2_0n), (vL v2_1 v2_1n), (vI v2_2)]), (vL v3 v3n)] h = some r := run_i (an := a53) Try.func53 (by kernel_rfl) (.trans (by kernel_rfl) hx)
noncomputable def B54_0 (base : Nat) : Body := fun l h => lay s54_0 l fun s => exCode (Et base) (run (Et base)) loopL a54_0 (subC [1, 1, 0, 1, 0, 0] (bodyC Try.f54)) s h (keepK s54_0 e54_0)
theorem B54_0_eq (base : Nat) (v0 : Option Addr) (v0n : Nat) (v3 : Option Addr) (v3n : Nat) (v4 : Int) (h : AH) : B54_0 base [some (vL v0 v0n), some (vL v3 v3n), some (vI v4)] h =
((if (decide (v4 < ((v0n : Nat) : Int))) = true then
(if 0 ≤ v4 ∧ v4 < ((v0n : Nat) : Int) then
((v0 : Option Addr)).bind fun a1 =>
c_IIIIIT h a1.block (a1.off + Int.toNat v4 * 6) fun n2 n3 n4 n5 n6 s7 =>
(run (Et base) 114 [(.agg #[(vI n2), (vI n3), (vI n4), (vI n5), (vI n6), (vT s7)])] h).bind fun r8 =>
gG (some r8.1) 6 fun l9 =>
l_IIIIIT l9 fun n10 n11 n12 n13 n14 s15 =>
(if 0 ≤ v4 ∧ v4 < ((v3n : Nat) : Int) then
((v3 : Option Addr)).bind fun a16 =>
(wr base r8.2 a16.block (a16.off + Int.toNat v4 * 6) [(vI n10), (vI n11), (vI n12), (vI n13), (vI n14), (vT s15)]).bind fun h17 =>
some (0, [some (vL v0 v0n), some (vL v3 v3n), some (vI (IntKind.wrap .i64 (v4 + (1 : Int))))], h17)
else none)
else none)
else
some (2, [some (vL v3 v3n)], h)) : Option (Nat × Slots × AH)) := by kernel_rfl
theorem r54 {base : Nat} {v0 : Option Addr} {v0n : Nat} {h : AH} {r : Value × AH} (hx : ((if ((v0n : Nat) : Int) = ((v0n : Nat) : Int) ∧ 0 ≤ ((v0n : Nat) : Int) ∧ ((v0n : Nat) : Int) * 56 ≤ 140737488355328 ∧ ((v0n : Nat) : Int) ≤ 140737488355328 then
(some (h ++ [some ⟨rep [(.int .i64 0), (.int .i64 0), (.int .i64 0), (.int .i64 0), (.int .i64 0), (.string ⟨#[]⟩)] (Int.toNat ((v0n : Nat) : Int)), 139⟩])).bind fun h1 =>
(loopL (B54_0 base) [some (.slice v0 v0n v0n), some (.slice (some ⟨(List.length h), 0, none⟩) (Int.toNat ((v0n : Nat) : Int)) (Int.toNat ((v0n : Nat) : Int))), some (.int .i64 (0 : Int))] h1).bind fun q2 =>
(if q2.1 = 2 then
((sget q2.2.1 0).bind getS).bind fun l3 =>
some ((.slice l3.1 l3.2 l3.2), q2.2.2)
else
none)
else none)) = some r) : run (Et base) 54 [(vL v0 v0n)] h = some r := run_i (an := a54) Try.func54 (by kernel_rfl) (.trans (by kernel_rfl) hx)
theorem r55 {base : Nat} {v0 : Option Addr} {v0n : Nat} {v1_0 : Int} {v1_1 : Int} {v1_2 : Option Addr} {v1_2n : Nat} {v1_3 : Option Addr} {v1_3n : Nat} {v1_4 : Option Addr} {v1_4n : Nat} {v1_5 : Int} {v2_0 : Option Addr} {v2_0n : Nat} {v2_1 : Option Addr} {v2_1n : Nat} {v2_2 : Int} {v3 : Option Addr} {v3n : Nat} {h : AH} {r : Value × AH} (hx : (nw1 h 78 [(vI v1_0), (vI v1_1), (vL v1_2 v1_2n), (vL v1_3 v1_3n), (vL v1_4 v1_4n), (vI v1_5)] fun h1 =>
nw1 h1 50 [(vL v2_0 v2_0n), (vL v2_1 v2_1n), (vI v2_2)] fun h2 =>
(run (Et base) 94 [(vL v0 v0n)] h2).bind fun r3 =>
((some r3.1).bind getB).bind fun b4 =>
(if b4 = true then
((cell r3.2 (List.length h) 0).bind (getI .i64)).bind fun n5 =>
(run (Et base) 87 [(vI n5), (vI (1 : Int)), (vI (99999 : Int))] r3.2).bind fun r6 =>
((some r6.1).bind getB).bind fun b7 =>
(if b7 = true then
((cell r6.2 (List.length h) 1).bind (getI .i64)).bind fun n8 =>
(run (Et base) 87 [(vI n8), (vI (0 : Int)), (vI (IntKind.wrap .i64 (((v0n : Nat) : Int) - (1 : Int))))] r6.2).bind fun r9 =>
((some r9.1).bind getB).bind fun b10 =>
(if b10 = true then
((cell r9.2 (List.length h) 2).bind getS).bind fun l11 =>
(if (((l11.2 : Nat) : Int) == (8 : Int)) = true then
((cell r9.2 (List.length h) 3).bind getS).bind fun l12 =>
(if (decide (((l12.2 : Nat) : Int) ≤ (30 : Int))) = true then
((cell r9.2 (List.length h) 4).bind getS).bind fun l13 =>
((cell r9.2 (List.length h) 0).bind (getI .i64)).bind fun n14 =>
(run (Et base) 96 [(vL l13.1 l13.2), (vI n14)] r9.2).bind fun r15 =>
((some r15.1).bind getB).bind fun b16 =>
(if b16 = true then
c_LLI r15.2 (List.length h1) 0 fun l17 l18 n19 =>
c_IILLLI r15.2 (List.length h) 0 fun n20 n21 l22 l23 l24 n25 =>
(run (Et base) 115 [(.agg #[(vI n20), (vI n21), (vL l22.1 l22.2), (vL l23.1 l23.2), (vL l24.1 l24.2), (vI n25)])] r15.2).bind fun r26 =>
((some r26.1).bind getS).bind fun l27 =>
(gate (sameA r15.2 r26.2 (some ⟨(List.length h1), 0, none⟩) 3)
((run (Et base) 36 [(.agg #[(vL l17.1 l17.2), (vL l18.1 l18.2), (vI n19)]), (vL v3 v3n), (vL l27.1 l27.2)] r26.2).bind fun r28 =>
((some r28.1).bind getB).bind fun b29 =>
some ((.bool b29), r28.2)))
else
some ((.bool false), r15.2))
else
some ((.bool false), r9.2))
else
some ((.bool false), r9.2))
else
some ((.bool false), r9.2))
else
some ((.bool false), r6.2))
else
some ((.bool false), r3.2))) = some r) : run (Et base) 55 [(vL v0 v0n), (.agg #[(vI v1_0), (vI v1_1), (vL v1_2 v1_2n), (vL v1_3 v1_3n), (vL v1_4 v1_4n), (vI v1_5)]), (.agg #[(vL v2_0 v2_0n), (vL v2_1 v2_1n), (vI v2_2)]), (vL v3 v3n)] h = some r := run_i (an := a55) Try.func55 (by kernel_rfl) (.trans (by kernel_rfl) hx)
noncomputable def B56_0 (base : Nat) : Body := fun l h => lay s56_0 l fun s => exCode (Et base) (run (Et base)) loopL a56_0 (subC [1, 1, 0, 1, 0, 0] (bodyC Try.f56)) s h (keepK s56_0 e56_0)
theorem B56_0_eq (base : Nat) (v0 : Option Addr) (v0n : Nat) (v1 : Option Addr) (v1n : Nat) (v5 : Int) (h : AH) : B56_0 base [some (vL v0 v0n), some (vL v1 v1n), some (vI v5)] h =
((if (decide (v5 < ((v0n : Nat) : Int))) = true then
(if 0 ≤ v5 ∧ v5 < ((v0n : Nat) : Int) then
((v0 : Option Addr)).bind fun a1 =>
c_IIIIIT h a1.block (a1.off + Int.toNat v5 * 6) fun n2 n3 n4 n5 n6 s7 =>
(if 0 ≤ v5 ∧ v5 < ((v1n : Nat) : Int) then
((v1 : Option Addr)).bind fun a8 =>
c_IIIIIT h a8.block (a8.off + Int.toNat v5 * 6) fun n9 n10 n11 n12 n13 s14 =>
(run (Et base) 116 [(.agg #[(vI n2), (vI n3), (vI n4), (vI n5), (vI n6), (vT s7)]), (.agg #[(vI n9), (vI n10), (vI n11), (vI n12), (vI n13), (vT s14)])] h).bind fun r15 =>
((some r15.1).bind getB).bind fun b16 =>
(if (!b16) = true then
some (1, [some (.bool false)], r15.2)
else
some (0, [some (vL v0 v0n), some (vL v1 v1n), some (vI (IntKind.wrap .i64 (v5 + (1 : Int))))], r15.2))
else none)
else none)
else
some (2, [], h)) : Option (Nat × Slots × AH)) := by kernel_rfl
theorem r56 {base : Nat} {v0 : Option Addr} {v0n : Nat} {v1 : Option Addr} {v1n : Nat} {h : AH} {r : Value × AH} (hx : ((if (((v0n : Nat) : Int) != ((v1n : Nat) : Int)) = true then
some ((.bool false), h)
else
(loopL (B56_0 base) [some (.slice v0 v0n v0n), some (.slice v1 v1n v1n), some (.int .i64 (0 : Int))] h).bind fun q1 =>
(if q1.1 = 1 then
((sget q1.2.1 0).bind getB).bind fun b2 =>
some ((.bool b2), q1.2.2)
else
(if q1.1 = 2 then
some ((.bool true), q1.2.2)
else
none)))) = some r) : run (Et base) 56 [(vL v0 v0n), (vL v1 v1n)] h = some r := run_i (an := a56) Try.func56 (by kernel_rfl) (.trans (by kernel_rfl) hx)
theorem r67 {base : Nat} {v0 : Option Addr} {v0n : Nat} {v1 : Int} {h : AH} {r : Value × AH} (hx : ((if (decide ((IntKind.wrap .i64 (v1 - ((v0n : Nat) : Int))) < (0 : Int))) = true then
some ((.int .i64 (-1 : Int)), h)
else
some ((.int .i64 (IntKind.wrap .i64 (v1 - ((v0n : Nat) : Int)))), h))) = some r) : run (Et base) 67 [(vL v0 v0n), (vI v1)] h = some r := run_i (an := a67) Try.func67 (by kernel_rfl) (.trans (by kernel_rfl) hx)
theorem r70 {base : Nat} {v0_0 : Int} {v0_1 : Int} {v0_2 : ByteArray} {v0_3 : Option Addr} {v0_3n : Nat} {h : AH} {r : Value × AH} (hx : ((some (h ++ [some ⟨[(.int .i64 v0_0), (.int .i64 v0_1), (.string v0_2), (.slice v0_3 v0_3n v0_3n)], 39⟩])).bind fun h1 =>
((cell h1 (List.length h) 0).bind (getI .i64)).bind fun n2 =>
((cell h1 (List.length h) 1).bind (getI .i64)).bind fun n3 =>
((cell h1 (List.length h) 2).bind getStr).bind fun s4 =>
((cell h1 (List.length h) 3).bind getS).bind fun l5 =>
(run (Et base) 131 [(.agg #[(.int .i64 n2), (.int .i64 n3), (.string s4), (.slice l5.1 l5.2 l5.2)]), (.int .i64 (6 : Int)), (.int .i64 (100 : Int))] h1).bind fun r6 =>
((some r6.1).bind (getI .i64)).bind fun n7 =>
some ((.bool (decide (n7 ≥ (0 : Int)))), r6.2)) = some r) : run (Et base) 70 [(.agg #[(vI v0_0), (vI v0_1), (vT v0_2), (vL v0_3 v0_3n)])] h = some r := run_i (an := a70) Try.func70 (by kernel_rfl) (.trans (by kernel_rfl) hx)
theorem r83 {base : Nat} {v0 : Int} {v1 : Int} {v2 : Int} {h : AH} {r : Value × AH} (hx : ((if (decide (v0 ≥ v1)) = true then
some ((.bool (decide (v0 ≤ v2))), h)
else
some ((.bool false), h))) = some r) : run (Et base) 83 [(vI v0), (vI v1), (vI v2)] h = some r := run_i (an := a83) Try.func83 (by kernel_rfl) (.trans (by kernel_rfl) hx)
noncomputable def B84_0 (base : Nat) : Body := fun l h => lay s84_0 l fun s => exCode (Et base) (run (Et base)) loopL a84_0 (subC [1, 0, 1, 0, 0] (bodyC Try.f84)) s h (keepK s84_0 e84_0)
theorem B84_0_eq (base : Nat) (v0 : Option Addr) (v0n : Nat) (v3 : Int) (h : AH) : B84_0 base [some (vL v0 v0n), some (vI v3)] h =
((if (decide (v3 < ((v0n : Nat) : Int))) = true then
((if 0 ≤ v3 ∧ v3 < ((v0n : Nat) : Int) then
((v0 : Option Addr)).bind fun a2 =>
((cell h a2.block (a2.off + Int.toNat v3 * 1)).bind getStr).bind fun s3 =>
(run (Et base) 139 [(.string s3)] h).bind fun r4 =>
((some r4.1).bind getB).bind fun b5 =>
(if (!b5) = true then
some (.inl ([some (.slice v0 v0n v0n), some (.int .i64 v3), some (.bool true)], r4.2))
else
(if 0 ≤ v3 ∧ v3 < ((v0n : Nat) : Int) then
((v0 : Option Addr)).bind fun a6 =>
((cell r4.2 a6.block (a6.off + Int.toNat v3 * 1)).bind getStr).bind fun s7 =>
(run (Et base) 140 [(.slice v0 v0n v0n), (.string s7)] r4.2).bind fun r8 =>
((some r8.1).bind (getI .i64)).bind fun n9 =>
some (.inl ([some (.slice v0 v0n v0n), some (.int .i64 v3), some (.bool (n9 != v3))], r8.2))
else none))
else none)).bind fun j1 => joinK j1 fun j1 =>
((sget j1.1 0).bind getS).bind fun l10 =>
((sget (j1.1.tail) 0).bind (getI .i64)).bind fun n11 =>
((sget (j1.1.tail.tail) 0).bind getB).bind fun b12 =>
(if b12 = true then
some (1, [some (.bool false)], j1.2)
else
some (0, [some (.slice l10.1 l10.2 l10.2), some (.int .i64 (IntKind.wrap .i64 (n11 + (1 : Int))))], j1.2))
else
some (2, [some (.slice v0 v0n v0n)], h)) : Option (Nat × Slots × AH)) := by kernel_rfl
theorem r84 {base : Nat} {v0 : Option Addr} {v0n : Nat} {h : AH} {r : Value × AH} (hx : ((loopL (B84_0 base) [some (.slice v0 v0n v0n), some (.int .i64 (0 : Int))] h).bind fun q1 =>
(if q1.1 = 1 then
((sget q1.2.1 0).bind getB).bind fun b2 =>
some ((.bool b2), q1.2.2)
else
(if q1.1 = 2 then
((sget q1.2.1 0).bind getS).bind fun l3 =>
some ((.bool (decide (((l3.2 : Nat) : Int) ≤ (200 : Int)))), q1.2.2)
else
none))) = some r) : run (Et base) 84 [(vL v0 v0n)] h = some r := run_i (an := a84) Try.func84 (by kernel_rfl) (.trans (by kernel_rfl) hx)
theorem r85 {base : Nat} {v0_0 : Option Addr} {v0_0n : Nat} {v0_1 : Option Addr} {v0_1n : Nat} {v0_2 : Int} {v1 : Option Addr} {v1n : Nat} {v2 : Int} {h : AH} {r : Value × AH} (hx : (nw1 h 50 [(vL v0_0 v0_0n), (vL v0_1 v0_1n), (vI v0_2)] fun h1 =>
nw1 h1 39 [(vI 0), (vI 0), (vT ⟨#[]⟩), (vL none 0)] fun h2 =>
c_LLI h2 (List.length h) 0 fun l3 l4 n5 =>
nw1 h2 172 [(vL l3.1 l3.2), (vL l4.1 l4.2), (vI n5), (vL v1 v1n), (vI (100 : Int)), (.bool false)] fun h6 =>
(run (Et base) 141 [(vP (List.length h2)), (vI v2), (vI (6 : Int))] h6).bind fun r7 =>
gG (some r7.1) 4 fun l8 =>
l_IITL l8 fun n9 n10 s11 l12 =>
nw1 r7.2 39 [(vI 0), (vI 0), (vT ⟨#[]⟩), (vL none 0)] fun h13 =>
(wr base h13 (List.length r7.2) 0 [(vI n9), (vI n10), (vT s11), (vL l12.1 l12.2)]).bind fun h14 =>
(((cell h14 (List.length h2) 5).bind getB).bind fun b16 =>
(if b16 = true then
some (.inl ([some (vP (List.length h1)), some (vP (List.length r7.2)), some (.bool true)], h14))
else
c_IITL h14 (List.length r7.2) 0 fun n17 n18 s19 l20 =>
(run (Et base) 70 [(.agg #[(vI n17), (vI n18), (vT s19), (vL l20.1 l20.2)])] h14).bind fun r21 =>
((some r21.1).bind getB).bind fun b22 =>
some (.inl ([some (vP (List.length h1)), some (vP (List.length r7.2)), some (.bool (!b22))], r21.2)))).bind fun j15 => joinK j15 fun j15 =>
j_AAB j15.1 fun d23 d24 b25 =>
(if b25 = true then
(wr base j15.2 d23.block d23.off [(vI (0 : Int)), (vI (0 : Int)), (vT (⟨#[]⟩ : ByteArray)), (vL none 0)]).bind fun h26 =>
c_IITL h26 d23.block d23.off fun n27 n28 s29 l30 =>
some ((.tuple #[(.agg #[(vI n27), (vI n28), (vT s29), (vL l30.1 l30.2)]), (.bool false)]), h26)
else
c_IITL j15.2 d24.block d24.off fun n31 n32 s33 l34 =>
(wr base j15.2 d23.block d23.off [(vI n31), (vI n32), (vT s33), (vL l34.1 l34.2)]).bind fun h35 =>
c_IITL h35 d23.block d23.off fun n36 n37 s38 l39 =>
some ((.tuple #[(.agg #[(vI n36), (vI n37), (vT s38), (vL l39.1 l39.2)]), (.bool true)]), h35))) = some r) : run (Et base) 85 [(.agg #[(vL v0_0 v0_0n), (vL v0_1 v0_1n), (vI v0_2)]), (vL v1 v1n), (vI v2)] h = some r := run_i (an := a85) Try.func85 (by kernel_rfl) (.trans (by kernel_rfl) hx)
noncomputable def B86_0 (base : Nat) : Body := fun l h => lay s86_0 l fun s => exCode (Et base) (run (Et base)) loopL a86_0 (subC [1, 1, 1, 1, 1, 1, 1, 1, 1, 0, 1, 0, 0] (bodyC Try.f86)) s h (keepK s86_0 e86_0)
theorem B86_0_eq (base : Nat) (v1 : Int) (v2 : Int) (v3 : Addr) (v9 : Option Addr) (v9n : Nat) (v12 : Int) (h : AH) : B86_0 base [some (vI v1), some (vI v2), some (vA v3), some (vL v9 v9n), some (vI v12)] h =
(((if (decide (v12 < ((v9n : Nat) : Int))) = true then
(run (Et base) 145 [(vI v1)] h).bind fun r2 =>
((some r2.1).bind (getI .i64)).bind fun n3 =>
some (.inl ([some (vI v1), some (vI v2), some (vA v3), some (vL v9 v9n), some (vI v12), some (.bool (n3 != (6 : Int)))], r2.2))
else
some (.inl ([some (vI v1), some (vI v2), some (vA v3), some (vL v9 v9n), some (vI v12), some (.bool false)], h)))).bind fun j1 => joinK j1 fun j1 =>
j_IIALIB j1.1 fun n4 n5 d6 l7 n8 b9 =>
(if b9 = true then
c_LLI j1.2 d6.block d6.off fun l10 l11 n12 =>
(if 0 ≤ n8 ∧ n8 < ((l7.2 : Nat) : Int) then
((l7.1 : Option Addr)).bind fun a13 =>
((cell j1.2 a13.block (a13.off + Int.toNat n8 * 1)).bind (getI .i64)).bind fun n14 =>
(run (Et base) 86 [(.agg #[(vL l10.1 l10.2), (vL l11.1 l11.2), (vI n12)]), (vI n14), (vI n5)] j1.2).bind fun r15 =>
((some r15.1).bind getB).bind fun b16 =>
(if (!b16) = true then
some (1, [some (.bool false)], r15.2)
else
some (0, [some (vI n4), some (vI n5), some (vA d6), some (vL l7.1 l7.2), some (vI (IntKind.wrap .i64 (n8 + (1 : Int))))], r15.2))
else none)
else
some (2, [], j1.2)) : Option (Nat × Slots × AH)) := by kernel_rfl
noncomputable abbrev qf86 (base : Nat) (v0_0 : Option Addr) (v0_0n : Nat) (v0_1 : Option Addr) (v0_1n : Nat) (v0_2 : Int) (v1 : Int) (v2 : Int) (h : AH) : Option (Value × AH) :=
nw1 h 50 [(vL v0_0 v0_0n), (vL v0_1 v0_1n), (vI v0_2)] fun h1 =>
c_LLI h1 (List.length h) 0 fun l2 l3 n4 =>
(run (Et base) 142 [(.agg #[(vL l2.1 l2.2), (vL l3.1 l3.2), (vI n4)]), (vI v1)] h1).bind fun r5 =>
((some r5.1).bind (getI .i64)).bind fun n6 =>
(if (n6 == (0 : Int)) = true then
some ((.bool true), r5.2)
else
(run (Et base) 143 [(vI v1)] r5.2).bind fun r7 =>
((some r7.1).bind (getI .i64)).bind fun n8 =>
(if (decide (n8 ≥ v2)) = true then
some ((.bool false), r7.2)
else
((if (decide (n8 < (100000 : Int))) = true then
some (.inl ([some (vI v1), some (vI (100000 : Int)), some (vP (List.length h)), some (vI n6), some (vI n8)], r7.2))
else
(((cell r7.2 (List.length h) 2).bind (getI .i64)).bind fun n11 =>
(if (decide (n8 < (IntKind.wrap .i64 ((100000 : Int) + n11)))) = true then
((cell r7.2 (List.length h) 2).bind (getI .i64)).bind fun n12 =>
some (.inl ([some (vI v1), some (vI v2), some (vP (List.length h)), some (vI n6), some (vI n8), some (.bool (decide (v2 > (IntKind.wrap .i64 ((100000 : Int) + n12)))))], r7.2))
else
some (.inl ([some (vI v1), some (vI v2), some (vP (List.length h)), some (vI n6), some (vI n8), some (.bool false)], r7.2)))).bind fun j10 => joinK j10 fun j10 =>
j_IIAIIB j10.1 fun n13 n14 d15 n16 n17 b18 =>
(if b18 = true then
((cell j10.2 d15.block (d15.off + 2)).bind (getI .i64)).bind fun n19 =>
some (.inl ([some (vI n13), some (vI (IntKind.wrap .i64 ((100000 : Int) + n19))), some (vA d15), some (vI n16), some (vI n17)], j10.2))
else
some (.inl ([some (vI n13), some (vI n14), some (vA d15), some (vI n16), some (vI n17)], j10.2))))).bind fun j9 => joinK j9 fun j9 =>
j_IIAII j9.1 fun n20 n21 d22 n23 n24 =>
c_LLI j9.2 d22.block d22.off fun l25 l26 n27 =>
(run (Et base) 144 [(.agg #[(vL l25.1 l25.2), (vL l26.1 l26.2), (vI n27)]), (vI n24), (vI n23)] j9.2).bind fun r28 =>
(getTup 2 r28.1).bind fun l29 =>
l_LB l29 fun l30 b31 =>
((run (Et base) 145 [(vI n20)] r28.2).bind fun r33 =>
((some r33.1).bind (getI .i64)).bind fun n34 =>
(if (n34 != (5 : Int)) = true then
some (.inl ([some (vI n20), some (vI n21), some (vA d22), some (vL l30.1 l30.2), some (vI (1 : Int))], r33.2))
else
some (.inl ([some (vI n20), some (vI n21), some (vA d22), some (vL l30.1 l30.2), some (vI (0 : Int))], r33.2)))).bind fun j32 => joinK j32 fun j32 =>
j_IIALI j32.1 fun n35 n36 d37 l38 n39 =>
(loopL (B86_0 base) [some (vI n35), some (vI n36), some (vA d37), some (vL l38.1 l38.2), some (vI n39)] j32.2).bind fun q40 =>
(if q40.1 = 1 then
((sget q40.2.1 0).bind getB).bind fun b41 =>
some ((.bool b41), q40.2.2)
else
(if q40.1 = 2 then
some ((.bool true), q40.2.2)
else
none))))
theorem r86 {base : Nat} {v0_0 : Option Addr} {v0_0n : Nat} {v0_1 : Option Addr} {v0_1n : Nat} {v0_2 : Int} {v1 : Int} {v2 : Int} {h : AH} {r : Value × AH} (hx : qf86 base v0_0 v0_0n v0_1 v0_1n v0_2 v1 v2 h = some r) : run (Et base) 86 [(.agg #[(vL v0_0 v0_0n), (vL v0_1 v0_1n), (vI v0_2)]), (vI v1), (vI v2)] h = some r := run_i (an := a86) Try.func86 (by kernel_rfl) (.trans (by kernel_rfl) hx)
theorem r87 {base : Nat} {v0 : Int} {v1 : Int} {v2 : Int} {h : AH} {r : Value × AH} (hx : ((if (decide (v0 ≥ v1)) = true then
some ((.bool (decide (v0 ≤ v2))), h)
else
some ((.bool false), h))) = some r) : run (Et base) 87 [(vI v0), (vI v1), (vI v2)] h = some r := run_i (an := a87) Try.func87 (by kernel_rfl) (.trans (by kernel_rfl) hx)
noncomputable def B88_0 (base : Nat) : Body := fun l h => lay s88_0 l fun s => exCode (Et base) (run (Et base)) loopL a88_0 (subC [1, 0, 1, 0, 0] (bodyC Try.f88)) s h (keepK s88_0 e88_0)
theorem B88_0_eq (base : Nat) (v0 : Option Addr) (v0n : Nat) (v5 : Option Addr) (v5n : Nat) (v6 : Int) (v7 : Int) (h : AH) : B88_0 base [some (vL v0 v0n), some (vL v5 v5n), some (vI v6), some (vI v7)] h =
((if (decide (v7 < v6)) = true then
(if 0 ≤ v7 ∧ v7 < ((v5n : Nat) : Int) then
((v5 : Option Addr)).bind fun a1 =>
((cell h a1.block (a1.off + Int.toNat v7 * 1)).bind getStr).bind fun s2 =>
((run (Et base) 146 [(vT s2)] h).bind fun r4 =>
((some r4.1).bind getB).bind fun b5 =>
(if (!b5) = true then
some (.inl ([some (vL v0 v0n), some (vL v5 v5n), some (vI v6), some (vI v7), some (.bool true)], r4.2))
else
(if 0 ≤ (0 : Int) ∧ (0 : Int) ≤ v7 ∧ v7 ≤ ((v0n : Nat) : Int) ∧ okTy base r4.2 v0 9 (Int.toNat (0 : Int)) = true then
(run (Et base) 147 [(.slice (shiftA v0 (Int.toNat (0 : Int) * 1)) (Int.toNat v7 - Int.toNat (0 : Int)) (Int.toNat v7 - Int.toNat (0 : Int))), (vT s2)] r4.2).bind fun r6 =>
((some r6.1).bind (getI .i64)).bind fun n7 =>
some (.inl ([some (vL v0 v0n), some (vL v5 v5n), some (vI v6), some (vI v7), some (.bool (decide (n7 ≥ (0 : Int))))], r6.2))
else none))).bind fun j3 => joinK j3 fun j3 =>
j_LLIIB j3.1 fun l8 l9 n10 n11 b12 =>
(if b12 = true then
some (1, [some (.bool false)], j3.2)
else
some (0, [some (vL l8.1 l8.2), some (vL l9.1 l9.2), some (vI n10), some (vI (IntKind.wrap .i64 (n11 + (1 : Int))))], j3.2))
else none)
else
some (2, [some (vL v0 v0n)], h)) : Option (Nat × Slots × AH)) := by kernel_rfl
theorem r88 {base : Nat} {v0 : Option Addr} {v0n : Nat} {h : AH} {r : Value × AH} (hx : ((loopL (B88_0 base) [some (.slice v0 v0n v0n), some (.slice v0 v0n v0n), some (.int .i64 ((v0n : Nat) : Int)), some (.int .i64 (0 : Int))] h).bind fun q1 =>
(if q1.1 = 1 then
((sget q1.2.1 0).bind getB).bind fun b2 =>
some ((.bool b2), q1.2.2)
else
(if q1.1 = 2 then
((sget q1.2.1 0).bind getS).bind fun l3 =>
some ((.bool (decide (((l3.2 : Nat) : Int) ≤ (200 : Int)))), q1.2.2)
else
none))) = some r) : run (Et base) 88 [(vL v0 v0n)] h = some r := run_i (an := a88) Try.func88 (by kernel_rfl) (.trans (by kernel_rfl) hx)
theorem r89 {base : Nat} {v0_0 : Option Addr} {v0_0n : Nat} {v0_1 : Option Addr} {v0_1n : Nat} {v0_2 : Int} {v1 : Option Addr} {v1n : Nat} {v2 : Int} {h : AH} {r : Value × AH} (hx : ((some (h ++ [some ⟨[(.slice v0_0 v0_0n v0_0n), (.slice v0_1 v0_1n v0_1n), (.int .i64 v0_2)], 50⟩])).bind fun h1 =>
(some (h1 ++ [some ⟨[(.int .i64 0), (.int .i64 0), (.string ⟨#[]⟩), (.slice none 0 0)], 39⟩])).bind fun h2 =>
(run (Et base) 148 [(.func (.func 149) #[(.pointer (some ⟨(List.length h), 0, none⟩))] #[]), (.slice v1 v1n v1n), (.int .i64 v2)] h2).bind fun r3 =>
(getTup 2 r3.1).bind fun l4 =>
((l4[0]?).bind (getAgg 4)).bind fun l5 =>
((l5[0]?).bind (getI .i64)).bind fun n6 =>
((l5[1]?).bind (getI .i64)).bind fun n7 =>
((l5[2]?).bind getStr).bind fun s8 =>
((l5[3]?).bind getS).bind fun l9 =>
((l4[1]?).bind getB).bind fun b10 =>
(wr base r3.2 (List.length h1) 0 [(.int .i64 n6), (.int .i64 n7), (.string s8), (.slice l9.1 l9.2 l9.2)]).bind fun h11 =>
((cell h11 (List.length h1) 0).bind (getI .i64)).bind fun n12 =>
((cell h11 (List.length h1) 1).bind (getI .i64)).bind fun n13 =>
((cell h11 (List.length h1) 2).bind getStr).bind fun s14 =>
((cell h11 (List.length h1) 3).bind getS).bind fun l15 =>
some ((.tuple #[(.agg #[(.int .i64 n12), (.int .i64 n13), (.string s14), (.slice l15.1 l15.2 l15.2)]), (.bool b10)]), h11)) = some r) : run (Et base) 89 [(.agg #[(vL v0_0 v0_0n), (vL v0_1 v0_1n), (vI v0_2)]), (vL v1 v1n), (vI v2)] h = some r := run_i (an := a89) Try.func89 (by kernel_rfl) (.trans (by kernel_rfl) hx)
noncomputable def B90_0 (base : Nat) : Body := fun l h => lay s90_0 l fun s => exCode (Et base) (run (Et base)) loopL a90_0 (subC [1, 1, 1, 0, 1, 0, 0] (bodyC Try.f90)) s h (keepK s90_0 e90_0)
theorem B90_0_eq (base : Nat) (v0 : Option Addr) (v5 : Int) (v17 : Option Addr) (v17n : Nat) (v18 : Int) (v19 : Int) (h : AH) : B90_0 base [some (.pointer v0), some (vI v5), some (vL v17 v17n), some (vI v18), some (vI v19)] h =
((if (decide (v19 < v18)) = true then
(if 0 ≤ v19 ∧ v19 < ((v17n : Nat) : Int) then
((v17 : Option Addr)).bind fun a1 =>
((cell h a1.block (a1.off + Int.toNat v19 * 1)).bind (getI .i64)).bind fun n2 =>
((run (Et base) 150 [(vI n2)] h).bind fun r4 =>
((some r4.1).bind getB).bind fun b5 =>
(if b5 = true then
(run (Et base) 152 [(vI n2)] r4.2).bind fun r6 =>
((some r6.1).bind (getI .i64)).bind fun n7 =>
(run (Et base) 151 [(.pointer v0), (vI n7)] r6.2).bind fun r8 =>
((some r8.1).bind (getI .i64)).bind fun n9 =>
(if (decide (n9 > v5)) = true then
some (.inl ([some (.pointer v0), some (vI v5), some (vL v17 v17n), some (vI v18), some (vI v19), some (.bool true)], r8.2))
else
(run (Et base) 90 [(.pointer v0), (vI n2)] r8.2).bind fun r10 =>
((some r10.1).bind getB).bind fun b11 =>
some (.inl ([some (.pointer v0), some (vI v5), some (vL v17 v17n), some (vI v18), some (vI v19), some (.bool (!b11))], r10.2)))
else
(run (Et base) 90 [(.pointer v0), (vI n2)] r4.2).bind fun r12 =>
((some r12.1).bind getB).bind fun b13 =>
some (.inl ([some (.pointer v0), some (vI v5), some (vL v17 v17n), some (vI v18), some (vI v19), some (.bool (!b13))], r12.2)))).bind fun j3 => joinK j3 fun j3 =>
j_PILIIB j3.1 fun p14 n15 l16 n17 n18 b19 =>
(if b19 = true then
some (1, [some (.bool false)], j3.2)
else
some (0, [some (.pointer p14), some (vI n15), some (vL l16.1 l16.2), some (vI n17), some (vI (IntKind.wrap .i64 (n18 + (1 : Int))))], j3.2))
else none)
else
some (2, [], h)) : Option (Nat × Slots × AH)) := by kernel_rfl
theorem r90 {base : Nat} {v0 : Option Addr} {v1 : Int} {h : AH} {r : Value × AH} (hx : ((run (Et base) 150 [(.int .i64 v1)] h).bind fun r1 =>
((some r1.1).bind getB).bind fun b2 =>
(if (!b2) = true then
some ((.bool true), r1.2)
else
(run (Et base) 152 [(.int .i64 v1)] r1.2).bind fun r3 =>
((some r3.1).bind (getI .i64)).bind fun n4 =>
(run (Et base) 151 [(.pointer v0), (.int .i64 n4)] r3.2).bind fun r5 =>
((some r5.1).bind (getI .i64)).bind fun n6 =>
(run (Et base) 153 [(.pointer v0), (.int .i64 v1)] r5.2).bind fun r7 =>
((some r7.1).bind getS).bind fun l8 =>
(loopL (B90_0 base) [some (.pointer v0), some (.int .i64 n6), some (.slice l8.1 l8.2 l8.2), some (.int .i64 ((l8.2 : Nat) : Int)), some (.int .i64 (0 : Int))] r7.2).bind fun q9 =>
(if q9.1 = 1 then
((sget q9.2.1 0).bind getB).bind fun b10 =>
some ((.bool b10), q9.2.2)
else
(if q9.1 = 2 then
some ((.bool true), q9.2.2)
else
none)))) = some r) : run (Et base) 90 [(.pointer v0), (vI v1)] h = some r := run_i (an := a90) Try.func90 (by kernel_rfl) (.trans (by kernel_rfl) hx)
noncomputable def B94_0 (base : Nat) : Body := fun l h => lay s94_0 l fun s => exCode (Et base) (run (Et base)) loopL a94_0 (subC [1, 1, 0, 1, 0, 0] (bodyC Try.f94)) s h (keepK s94_0 e94_0)
theorem B94_0_eq (base : Nat) (v0 : Option Addr) (v0n : Nat) (v3 : Int) (v8 : Option Addr) (v8n : Nat) (v9 : Int) (v10 : Int) (h : AH) : B94_0 base [some (vL v0 v0n), some (vI v3), some (vL v8 v8n), some (vI v9), some (vI v10)] h =
((if (decide (v10 < v9)) = true then
(if 0 ≤ v10 ∧ v10 < ((v8n : Nat) : Int) then
((v8 : Option Addr)).bind fun a1 =>
c_IIIIIT h a1.block (a1.off + Int.toNat v10 * 6) fun n2 n3 n4 n5 n6 s7 =>
nw1 h 139 [(vI 0), (vI 0), (vI 0), (vI 0), (vI 0), (vT ⟨#[]⟩)] fun h8 =>
(wr base h8 (List.length h) 0 [(vI n2), (vI n3), (vI n4), (vI n5), (vI n6), (vT s7)]).bind fun h9 =>
c_IIIIIT h9 (List.length h) 0 fun n10 n11 n12 n13 n14 s15 =>
(run (Et base) 159 [(.agg #[(vI n10), (vI n11), (vI n12), (vI n13), (vI n14), (vT s15)]), (vI v3)] h9).bind fun r16 =>
((some r16.1).bind getB).bind fun b17 =>
(if (!b17) = true then
some (1, [some (.bool false)], r16.2)
else
some (0, [some (vL v0 v0n), some (vI v3), some (vL v8 v8n), some (vI v9), some (vI (IntKind.wrap .i64 (v10 + (1 : Int))))], r16.2))
else none)
else
some (2, [some (vL v0 v0n), some (vI v3)], h)) : Option (Nat × Slots × AH)) := by kernel_rfl
theorem r94 {base : Nat} {v0 : Option Addr} {v0n : Nat} {h : AH} {r : Value × AH} (hx : ((loopL (B94_0 base) [some (.slice v0 v0n v0n), some (.int .i64 ((v0n : Nat) : Int)), some (.slice v0 v0n v0n), some (.int .i64 ((v0n : Nat) : Int)), some (.int .i64 (0 : Int))] h).bind fun q1 =>
(if q1.1 = 1 then
((sget q1.2.1 0).bind getB).bind fun b2 =>
some ((.bool b2), q1.2.2)
else
(if q1.1 = 2 then
((sget q1.2.1 0).bind getS).bind fun l3 =>
((sget (q1.2.1.tail) 0).bind (getI .i64)).bind fun n4 =>
(run (Et base) 87 [(.int .i64 n4), (.int .i64 (1 : Int)), (.int .i64 (200 : Int))] q1.2.2).bind fun r5 =>
((some r5.1).bind getB).bind fun b6 =>
(if b6 = true then
(if 0 ≤ (IntKind.wrap .i64 (n4 - (1 : Int))) ∧ (IntKind.wrap .i64 (n4 - (1 : Int))) < ((l3.2 : Nat) : Int) then
((l3.1 : Option Addr)).bind fun a7 =>
((cell r5.2 a7.block ((a7.off + Int.toNat (IntKind.wrap .i64 (n4 - (1 : Int))) * 6) + 0)).bind (getI .i64)).bind fun n8 =>
(if (n8 == (19 : Int)) = true then
some ((.bool true), r5.2)
else
(if 0 ≤ (IntKind.wrap .i64 (n4 - (1 : Int))) ∧ (IntKind.wrap .i64 (n4 - (1 : Int))) < ((l3.2 : Nat) : Int) then
((l3.1 : Option Addr)).bind fun a9 =>
((cell r5.2 a9.block ((a9.off + Int.toNat (IntKind.wrap .i64 (n4 - (1 : Int))) * 6) + 0)).bind (getI .i64)).bind fun n10 =>
some ((.bool (n10 == (12 : Int))), r5.2)
else none))
else none)
else
some ((.bool false), r5.2))
else
none))) = some r) : run (Et base) 94 [(vL v0 v0n)] h = some r := run_i (an := a94) Try.func94 (by kernel_rfl) (.trans (by kernel_rfl) hx)
noncomputable def B96_0 (base : Nat) : Body := fun l h => lay s96_0 l fun s => exCode (Et base) (run (Et base)) loopL a96_0 (subC [1, 0, 1, 0, 0] (bodyC Try.f96)) s h (keepK s96_0 e96_0)
theorem B96_0_eq (base : Nat) (v0 : Option Addr) (v0n : Nat) (v1 : Int) (v7 : Option Addr) (v7n : Nat) (v8 : Int) (v9 : Int) (h : AH) : B96_0 base [some (vL v0 v0n), some (vI v1), some (vL v7 v7n), some (vI v8), some (vI v9)] h =
((if (decide (v9 < v8)) = true then
(if 0 ≤ v9 ∧ v9 < ((v7n : Nat) : Int) then
((v7 : Option Addr)).bind fun a1 =>
((cell h a1.block (a1.off + Int.toNat v9 * 1)).bind (getI .i64)).bind fun n2 =>
((run (Et base) 87 [(vI n2), (vI (1 : Int)), (vI (99999 : Int))] h).bind fun r4 =>
((some r4.1).bind getB).bind fun b5 =>
(if (!b5) = true then
some (.inl ([some (vL v0 v0n), some (vI v1), some (vL v7 v7n), some (vI v8), some (vI v9), some (.bool true)], r4.2))
else
(if (n2 == v1) = true then
some (.inl ([some (vL v0 v0n), some (vI v1), some (vL v7 v7n), some (vI v8), some (vI v9), some (.bool true)], r4.2))
else
(if (decide (v9 > (0 : Int))) = true then
(if 0 ≤ (IntKind.wrap .i64 (v9 - (1 : Int))) ∧ (IntKind.wrap .i64 (v9 - (1 : Int))) < ((v0n : Nat) : Int) then
((v0 : Option Addr)).bind fun a6 =>
((cell r4.2 a6.block (a6.off + Int.toNat (IntKind.wrap .i64 (v9 - (1 : Int))) * 1)).bind (getI .i64)).bind fun n7 =>
some (.inl ([some (vL v0 v0n), some (vI v1), some (vL v7 v7n), some (vI v8), some (vI v9), some (.bool (decide (n7 ≥ n2)))], r4.2))
else none)
else
some (.inl ([some (vL v0 v0n), some (vI v1), some (vL v7 v7n), some (vI v8), some (vI v9), some (.bool false)], r4.2)))))).bind fun j3 => joinK j3 fun j3 =>
j_LILIIB j3.1 fun l8 n9 l10 n11 n12 b13 =>
(if b13 = true then
some (1, [some (.bool false)], j3.2)
else
some (0, [some (vL l8.1 l8.2), some (vI n9), some (vL l10.1 l10.2), some (vI n11), some (vI (IntKind.wrap .i64 (n12 + (1 : Int))))], j3.2))
else none)
else
some (2, [some (vL v0 v0n)], h)) : Option (Nat × Slots × AH)) := by kernel_rfl
theorem r96 {base : Nat} {v0 : Option Addr} {v0n : Nat} {v1 : Int} {h : AH} {r : Value × AH} (hx : ((loopL (B96_0 base) [some (.slice v0 v0n v0n), some (.int .i64 v1), some (.slice v0 v0n v0n), some (.int .i64 ((v0n : Nat) : Int)), some (.int .i64 (0 : Int))] h).bind fun q1 =>
(if q1.1 = 1 then
((sget q1.2.1 0).bind getB).bind fun b2 =>
some ((.bool b2), q1.2.2)
else
(if q1.1 = 2 then
((sget q1.2.1 0).bind getS).bind fun l3 =>
some ((.bool (decide (((l3.2 : Nat) : Int) ≤ (50 : Int)))), q1.2.2)
else
none))) = some r) : run (Et base) 96 [(vL v0 v0n), (vI v1)] h = some r := run_i (an := a96) Try.func96 (by kernel_rfl) (.trans (by kernel_rfl) hx)
theorem r102 {base : Nat} {v0_0 : Int} {v0_1 : Int} {v0_2 : ByteArray} {v0_3 : Option Addr} {v0_3n : Nat} {h : AH} {r : Value × AH} (hx : ((some (h ++ [some ⟨[(.int .i64 v0_0), (.int .i64 v0_1), (.string v0_2), (.slice v0_3 v0_3n v0_3n)], 39⟩])).bind fun h1 =>
((cell h1 (List.length h) 0).bind (getI .i64)).bind fun n2 =>
((cell h1 (List.length h) 1).bind (getI .i64)).bind fun n3 =>
((cell h1 (List.length h) 2).bind getStr).bind fun s4 =>
((cell h1 (List.length h) 3).bind getS).bind fun l5 =>
(run (Et base) 162 [(.agg #[(.int .i64 n2), (.int .i64 n3), (.string s4), (.slice l5.1 l5.2 l5.2)]), (.int .i64 (1 : Int)), (.int .i64 (0 : Int))] h1).bind fun r6 =>
(getTup 2 r6.1).bind fun l7 =>
((l7[0]?).bind (getI .i64)).bind fun n8 =>
((l7[1]?).bind getB).bind fun b9 =>
some ((.bool b9), r6.2)) = some r) : run (Et base) 102 [(.agg #[(vI v0_0), (vI v0_1), (vT v0_2), (vL v0_3 v0_3n)])] h = some r := run_i (an := a102) Try.func102 (by kernel_rfl) (.trans (by kernel_rfl) hx)
noncomputable def B105_0 (base : Nat) : Body := fun l h => lay s105_0 l fun s => exCode (Et base) (run (Et base)) loopL a105_0 (subC [1, 1, 1, 0, 1, 0, 0] (bodyC Try.f105)) s h (keepK s105_0 e105_0)
theorem B105_0_eq (base : Nat) (v0 : Option Addr) (v0n : Nat) (v3 : Int) (v4 : Int) (h : AH) : B105_0 base [some (vL v0 v0n), some (vI v3), some (vI v4)] h =
((if (decide (v4 < v3)) = true then
(if 0 ≤ v4 ∧ v4 < ((v0n : Nat) : Int) then
((v0 : Option Addr)).bind fun a1 =>
((cell h a1.block (a1.off + Int.toNat v4 * 6)).bind (getI .i64)).bind fun n2 =>
((cell h a1.block ((a1.off + Int.toNat v4 * 6) + 1)).bind (getI .i64)).bind fun n3 =>
((cell h a1.block (((a1.off + Int.toNat v4 * 6) + 1) + 1)).bind (getI .i64)).bind fun n4 =>
((cell h a1.block ((((a1.off + Int.toNat v4 * 6) + 1) + 1) + 1)).bind (getI .i64)).bind fun n5 =>
((cell h a1.block (((((a1.off + Int.toNat v4 * 6) + 1) + 1) + 1) + 1)).bind (getI .i64)).bind fun n6 =>
((cell h a1.block ((((((a1.off + Int.toNat v4 * 6) + 1) + 1) + 1) + 1) + 1)).bind getStr).bind fun s7 =>
(run (Et base) 164 [(.agg #[(.int .i64 n2), (.int .i64 n3), (.int .i64 n4), (.int .i64 n5), (.int .i64 n6), (.string s7)]), (.int .i64 v3)] h).bind fun r8 =>
((some r8.1).bind getB).bind fun b9 =>
(if (!b9) = true then
some (1, [some (.bool false)], r8.2)
else
some (0, [some (.slice v0 v0n v0n), some (.int .i64 v3), some (.int .i64 (IntKind.wrap .i64 (v4 + (1 : Int))))], r8.2))
else none)
else
some (2, [], h)) : Option (Nat × Slots × AH)) := by kernel_rfl
theorem r105 {base : Nat} {v0 : Option Addr} {v0n : Nat} {h : AH} {r : Value × AH} (hx : (((run (Et base) 83 [(vI ((v0n : Nat) : Int)), (vI (1 : Int)), (vI (200 : Int))] h).bind fun r2 =>
((some r2.1).bind getB).bind fun b3 =>
(if (!b3) = true then
some (.inl ([some (vL v0 v0n), some (vI ((v0n : Nat) : Int)), some (.bool true)], r2.2))
else
(if 0 ≤ (IntKind.wrap .i64 (((v0n : Nat) : Int) - (1 : Int))) ∧ (IntKind.wrap .i64 (((v0n : Nat) : Int) - (1 : Int))) < ((v0n : Nat) : Int) then
((v0 : Option Addr)).bind fun a4 =>
((cell r2.2 a4.block ((a4.off + Int.toNat (IntKind.wrap .i64 (((v0n : Nat) : Int) - (1 : Int))) * 6) + 0)).bind (getI .i64)).bind fun n5 =>
(if (n5 != (19 : Int)) = true then
(if 0 ≤ (IntKind.wrap .i64 (((v0n : Nat) : Int) - (1 : Int))) ∧ (IntKind.wrap .i64 (((v0n : Nat) : Int) - (1 : Int))) < ((v0n : Nat) : Int) then
((v0 : Option Addr)).bind fun a6 =>
((cell r2.2 a6.block ((a6.off + Int.toNat (IntKind.wrap .i64 (((v0n : Nat) : Int) - (1 : Int))) * 6) + 0)).bind (getI .i64)).bind fun n7 =>
some (.inl ([some (vL v0 v0n), some (vI ((v0n : Nat) : Int)), some (.bool (n7 != (12 : Int)))], r2.2))
else none)
else
some (.inl ([some (vL v0 v0n), some (vI ((v0n : Nat) : Int)), some (.bool false)], r2.2)))
else none))).bind fun j1 => joinK j1 fun j1 =>
j_LIB j1.1 fun l8 n9 b10 =>
(if b10 = true then
some ((.bool false), j1.2)
else
(loopL (B105_0 base) [some (vL l8.1 l8.2), some (vI n9), some (vI (0 : Int))] j1.2).bind fun q11 =>
(if q11.1 = 1 then
((sget q11.2.1 0).bind getB).bind fun b12 =>
some ((.bool b12), q11.2.2)
else
(if q11.1 = 2 then
some ((.bool true), q11.2.2)
else
none)))) = some r) : run (Et base) 105 [(vL v0 v0n)] h = some r := run_i (an := a105) Try.func105 (by kernel_rfl) (.trans (by kernel_rfl) hx)
noncomputable def B107_0 (base : Nat) : Body := fun l h => lay s107_0 l fun s => exCode (Et base) (run (Et base)) loopL a107_0 (subC [1, 0, 1, 0, 0] (bodyC Try.f107)) s h (keepK s107_0 e107_0)
theorem B107_0_eq (base : Nat) (v0 : Option Addr) (v0n : Nat) (v1 : Int) (v5 : Int) (h : AH) : B107_0 base [some (vL v0 v0n), some (vI v1), some (vI v5)] h =
((if (decide (v5 < ((v0n : Nat) : Int))) = true then
((if 0 ≤ v5 ∧ v5 < ((v0n : Nat) : Int) then
((v0 : Option Addr)).bind fun a2 =>
((cell h a2.block (a2.off + Int.toNat v5 * 1)).bind (getI .i64)).bind fun n3 =>
(run (Et base) 83 [(vI n3), (vI (1 : Int)), (vI (99999 : Int))] h).bind fun r4 =>
((some r4.1).bind getB).bind fun b5 =>
(if (!b5) = true then
some (.inl ([some (vL v0 v0n), some (vI v1), some (vI v5), some (.bool true)], r4.2))
else
(if 0 ≤ v5 ∧ v5 < ((v0n : Nat) : Int) then
((v0 : Option Addr)).bind fun a6 =>
((cell r4.2 a6.block (a6.off + Int.toNat v5 * 1)).bind (getI .i64)).bind fun n7 =>
(if (n7 == v1) = true then
some (.inl ([some (vL v0 v0n), some (vI v1), some (vI v5), some (.bool true)], r4.2))
else
(if (decide (v5 > (0 : Int))) = true then
(if 0 ≤ (IntKind.wrap .i64 (v5 - (1 : Int))) ∧ (IntKind.wrap .i64 (v5 - (1 : Int))) < ((v0n : Nat) : Int) then
((v0 : Option Addr)).bind fun a8 =>
((cell r4.2 a8.block (a8.off + Int.toNat (IntKind.wrap .i64 (v5 - (1 : Int))) * 1)).bind (getI .i64)).bind fun n9 =>
(if 0 ≤ v5 ∧ v5 < ((v0n : Nat) : Int) then
((v0 : Option Addr)).bind fun a10 =>
((cell r4.2 a10.block (a10.off + Int.toNat v5 * 1)).bind (getI .i64)).bind fun n11 =>
some (.inl ([some (vL v0 v0n), some (vI v1), some (vI v5), some (.bool (decide (n9 ≥ n11)))], r4.2))
else none)
else none)
else
some (.inl ([some (vL v0 v0n), some (vI v1), some (vI v5), some (.bool false)], r4.2))))
else none))
else none)).bind fun j1 => joinK j1 fun j1 =>
j_LIIB j1.1 fun l12 n13 n14 b15 =>
(if b15 = true then
some (1, [some (.bool false)], j1.2)
else
some (0, [some (vL l12.1 l12.2), some (vI n13), some (vI (IntKind.wrap .i64 (n14 + (1 : Int))))], j1.2))
else
some (2, [some (vL v0 v0n)], h)) : Option (Nat × Slots × AH)) := by kernel_rfl
theorem r107 {base : Nat} {v0 : Option Addr} {v0n : Nat} {v1 : Int} {h : AH} {r : Value × AH} (hx : ((loopL (B107_0 base) [some (.slice v0 v0n v0n), some (.int .i64 v1), some (.int .i64 (0 : Int))] h).bind fun q1 =>
(if q1.1 = 1 then
((sget q1.2.1 0).bind getB).bind fun b2 =>
some ((.bool b2), q1.2.2)
else
(if q1.1 = 2 then
((sget q1.2.1 0).bind getS).bind fun l3 =>
some ((.bool (decide (((l3.2 : Nat) : Int) ≤ (50 : Int)))), q1.2.2)
else
none))) = some r) : run (Et base) 107 [(vL v0 v0n), (vI v1)] h = some r := run_i (an := a107) Try.func107 (by kernel_rfl) (.trans (by kernel_rfl) hx)
theorem r110 {base : Nat} {v0 : Option Addr} {v0n : Nat} {h : AH} {r : Value × AH} (hx : ((app base h 3 1 8 none 0 (rawAt h v0 (v0n * 1)) v0n).bind fun p1 =>
((some p1.1).bind getS).bind fun l2 =>
some ((.slice l2.1 l2.2 l2.2), p1.2)) = some r) : run (Et base) 110 [(vL v0 v0n)] h = some r := run_i (an := a110) Try.func110 (by kernel_rfl) (.trans (by kernel_rfl) hx)
theorem r112 {base : Nat} {v0_0 : Int} {v0_1 : Int} {v0_2 : Int} {v0_3 : Int} {v0_4 : Int} {v0_5 : ByteArray} {v1 : Int} {h : AH} {r : Value × AH} (hx : ((some (h ++ [some ⟨[(.int .i64 v0_0), (.int .i64 v0_1), (.int .i64 v0_2), (.int .i64 v0_3), (.int .i64 v0_4), (.string v0_5)], 150⟩])).bind fun h1 =>
((cell h1 (List.length h) 5).bind getStr).bind fun s2 =>
(if (decide ((IntKind.wrap .i64 (v1 - (s2.size : Int))) < (0 : Int))) = true then
some ((.int .i64 (-1 : Int)), h1)
else
some ((.int .i64 (IntKind.wrap .i64 (v1 - (s2.size : Int)))), h1))) = some r) : run (Et base) 112 [(.agg #[(vI v0_0), (vI v0_1), (vI v0_2), (vI v0_3), (vI v0_4), (vT v0_5)]), (vI v1)] h = some r := run_i (an := a112) Try.func112 (by kernel_rfl) (.trans (by kernel_rfl) hx)
theorem r113 {base : Nat} {v0_0 : Int} {v0_1 : Int} {v0_2 : Option Addr} {v0_2n : Nat} {v0_3 : Option Addr} {v0_3n : Nat} {v0_4 : Option Addr} {v0_4n : Nat} {v0_5 : Int} {h : AH} {r : Value × AH} (hx : ((some (h ++ [some ⟨[(.int .i64 v0_0), (.int .i64 v0_1), (.slice v0_2 v0_2n v0_2n), (.slice v0_3 v0_3n v0_3n), (.slice v0_4 v0_4n v0_4n), (.int .i64 v0_5)], 78⟩])).bind fun h1 =>
(some (h1 ++ [some ⟨[], 3⟩])).bind fun h2 =>
(gate (neA (some ⟨(List.length h), 2, none⟩) (List.length h1))
(((cell h2 (List.length h) 2).bind getS).bind fun l3 =>
(app base h2 3 1 8 (some ⟨(List.length h1), 0, none⟩) 0 (rawAt h2 l3.1 (l3.2 * 1)) l3.2).bind fun p4 =>
((some p4.1).bind getS).bind fun l5 =>
(gate (neA (some ⟨(List.length h), 3, none⟩) (List.length h1))
((gate (sameA h2 p4.2 (some ⟨(List.length h), 3, none⟩) 1)
(((cell p4.2 (List.length h) 3).bind getS).bind fun l6 =>
(app base p4.2 3 1 8 l5.1 l5.2 (rawAt p4.2 l6.1 (l6.2 * 1)) l6.2).bind fun p7 =>
((some p7.1).bind getS).bind fun l8 =>
some ((.slice l8.1 l8.2 l8.2), p7.2)))))))) = some r) : run (Et base) 113 [(.agg #[(vI v0_0), (vI v0_1), (vL v0_2 v0_2n), (vL v0_3 v0_3n), (vL v0_4 v0_4n), (vI v0_5)])] h = some r := run_i (an := a113) Try.func113 (by kernel_rfl) (.trans (by kernel_rfl) hx)
theorem r114 {base : Nat} {v0_0 : Int} {v0_1 : Int} {v0_2 : Int} {v0_3 : Int} {v0_4 : Int} {v0_5 : ByteArray} {h : AH} {r : Value × AH} (hx : (nw1 h 150 [(vI v0_0), (vI v0_1), (vI v0_2), (vI v0_3), (vI v0_4), (vT v0_5)] fun h1 =>
nw1 h1 139 [(vI 0), (vI 0), (vI 0), (vI 0), (vI 0), (vT ⟨#[]⟩)] fun h2 =>
nw1 h2 139 [(vI 0), (vI 0), (vI 0), (vI 0), (vI 0), (vT ⟨#[]⟩)] fun h3 =>
((cell h3 (List.length h) 0).bind (getI .i64)).bind fun n4 =>
(wr base h3 (List.length h2) 0 [(vI n4)]).bind fun h5 =>
((cell h5 (List.length h) 1).bind (getI .i64)).bind fun n6 =>
(wr base h5 (List.length h2) 1 [(vI n6)]).bind fun h7 =>
((cell h7 (List.length h) 2).bind (getI .i64)).bind fun n8 =>
(wr base h7 (List.length h2) 2 [(vI n8)]).bind fun h9 =>
((cell h9 (List.length h) 3).bind (getI .i64)).bind fun n10 =>
(wr base h9 (List.length h2) 3 [(vI n10)]).bind fun h11 =>
((cell h11 (List.length h) 4).bind (getI .i64)).bind fun n12 =>
(wr base h11 (List.length h2) 4 [(vI n12)]).bind fun h13 =>
((cell h13 (List.length h) 5).bind getStr).bind fun s14 =>
(wr base h13 (List.length h2) 5 [(vT s14)]).bind fun h15 =>
c_IIIIIT h15 (List.length h2) 0 fun n16 n17 n18 n19 n20 s21 =>
(wr base h15 (List.length h1) 0 [(vI n16), (vI n17), (vI n18), (vI n19), (vI n20), (vT s21)]).bind fun h22 =>
c_IIIIIT h22 (List.length h1) 0 fun n23 n24 n25 n26 n27 s28 =>
some ((.agg #[(vI n23), (vI n24), (vI n25), (vI n26), (vI n27), (vT s28)]), h22)) = some r) : run (Et base) 114 [(.agg #[(vI v0_0), (vI v0_1), (vI v0_2), (vI v0_3), (vI v0_4), (vT v0_5)])] h = some r := run_i (an := a114) Try.func114 (by kernel_rfl) (.trans (by kernel_rfl) hx)
theorem r115 {base : Nat} {v0_0 : Int} {v0_1 : Int} {v0_2 : Option Addr} {v0_2n : Nat} {v0_3 : Option Addr} {v0_3n : Nat} {v0_4 : Option Addr} {v0_4n : Nat} {v0_5 : Int} {h : AH} {r : Value × AH} (hx : ((some (h ++ [some ⟨[(.int .i64 v0_0), (.int .i64 v0_1), (.slice v0_2 v0_2n v0_2n), (.slice v0_3 v0_3n v0_3n), (.slice v0_4 v0_4n v0_4n), (.int .i64 v0_5)], 78⟩])).bind fun h1 =>
((cell h1 (List.length h) 2).bind getS).bind fun l2 =>
(run (Et base) 110 [(.slice l2.1 l2.2 l2.2)] h1).bind fun r3 =>
((some r3.1).bind getS).bind fun l4 =>
(gate (sameA h1 r3.2 (some ⟨(List.length h), 3, none⟩) 1)
(((cell r3.2 (List.length h) 3).bind getS).bind fun l5 =>
(app base r3.2 3 1 8 l4.1 l4.2 (rawAt r3.2 l5.1 (l5.2 * 1)) l5.2).bind fun p6 =>
((some p6.1).bind getS).bind fun l7 =>
some ((.slice l7.1 l7.2 l7.2), p6.2)))) = some r) : run (Et base) 115 [(.agg #[(vI v0_0), (vI v0_1), (vL v0_2 v0_2n), (vL v0_3 v0_3n), (vL v0_4 v0_4n), (vI v0_5)])] h = some r := run_i (an := a115) Try.func115 (by kernel_rfl) (.trans (by kernel_rfl) hx)
theorem r116 {base : Nat} {v0_0 : Int} {v0_1 : Int} {v0_2 : Int} {v0_3 : Int} {v0_4 : Int} {v0_5 : ByteArray} {v1_0 : Int} {v1_1 : Int} {v1_2 : Int} {v1_3 : Int} {v1_4 : Int} {v1_5 : ByteArray} {h : AH} {r : Value × AH} (hx : ((some (h ++ [some ⟨[(.int .i64 v0_0), (.int .i64 v0_1), (.int .i64 v0_2), (.int .i64 v0_3), (.int .i64 v0_4), (.string v0_5)], 139⟩])).bind fun h1 =>
(some (h1 ++ [some ⟨[(.int .i64 v1_0), (.int .i64 v1_1), (.int .i64 v1_2), (.int .i64 v1_3), (.int .i64 v1_4), (.string v1_5)], 139⟩])).bind fun h2 =>
((cell h2 (List.length h) 0).bind (getI .i64)).bind fun n3 =>
((cell h2 (List.length h1) 0).bind (getI .i64)).bind fun n4 =>
(if (n3 != n4) = true then
some ((.bool false), h2)
else
((cell h2 (List.length h) 1).bind (getI .i64)).bind fun n5 =>
((cell h2 (List.length h1) 1).bind (getI .i64)).bind fun n6 =>
(if (n5 != n6) = true then
some ((.bool false), h2)
else
((cell h2 (List.length h) 2).bind (getI .i64)).bind fun n7 =>
((cell h2 (List.length h1) 2).bind (getI .i64)).bind fun n8 =>
(if (n7 != n8) = true then
some ((.bool false), h2)
else
((cell h2 (List.length h) 3).bind (getI .i64)).bind fun n9 =>
((cell h2 (List.length h1) 3).bind (getI .i64)).bind fun n10 =>
(if (n9 != n10) = true then
some ((.bool false), h2)
else
((cell h2 (List.length h) 4).bind (getI .i64)).bind fun n11 =>
((cell h2 (List.length h1) 4).bind (getI .i64)).bind fun n12 =>
(if (n11 != n12) = true then
some ((.bool false), h2)
else
((cell h2 (List.length h) 5).bind getStr).bind fun s13 =>
((cell h2 (List.length h1) 5).bind getStr).bind fun s14 =>
(if (!(s13.toList == s14.toList)) = true then
some ((.bool false), h2)
else
some ((.bool true), h2)))))))) = some r) : run (Et base) 116 [(.agg #[(vI v0_0), (vI v0_1), (vI v0_2), (vI v0_3), (vI v0_4), (vT v0_5)]), (.agg #[(vI v1_0), (vI v1_1), (vI v1_2), (vI v1_3), (vI v1_4), (vT v1_5)])] h = some r := run_i (an := a116) Try.func116 (by kernel_rfl) (.trans (by kernel_rfl) hx)
noncomputable def B131_0 (base : Nat) : Body := fun l h => lay s131_0 l fun s => exCode (Et base) (run (Et base)) loopL a131_0 (subC [1, 1, 1, 0, 1, 0, 0] (bodyC Try.f131)) s h (keepK s131_0 e131_0)
theorem B131_0_eq (base : Nat) (v1 : Int) (v2 : Int) (v3 : Addr) (v7 : Int) (h : AH) : B131_0 base [some (vI v1), some (vI v2), some (vA v3), some (vI v7)] h =
((((cell h v3.block (v3.off + 3)).bind getS).bind fun l2 =>
(if (decide (v7 < ((l2.2 : Nat) : Int))) = true then
some (.inl ([some (vI v1), some (vI v2), some (vA v3), some (vI v7), some (.bool (decide (v2 ≥ (0 : Int))))], h))
else
some (.inl ([some (vI v1), some (vI v2), some (vA v3), some (vI v7), some (.bool false)], h)))).bind fun j1 => joinK j1 fun j1 =>
j_IIAIB j1.1 fun n3 n4 d5 n6 b7 =>
(if b7 = true then
((cell j1.2 d5.block (d5.off + 3)).bind getS).bind fun l8 =>
(if 0 ≤ n6 ∧ n6 < ((l8.2 : Nat) : Int) then
((l8.1 : Option Addr)).bind fun a9 =>
c_IITL j1.2 a9.block (a9.off + Int.toNat n6 * 4) fun n10 n11 s12 l13 =>
(run (Et base) 131 [(.agg #[(vI n10), (vI n11), (vT s12), (vL l13.1 l13.2)]), (vI (IntKind.wrap .i64 (n3 - (1 : Int)))), (vI n4)] j1.2).bind fun r14 =>
((some r14.1).bind (getI .i64)).bind fun n15 =>
some (0, [some (vI n3), some (vI n15), some (vA d5), some (vI (IntKind.wrap .i64 (n6 + (1 : Int))))], r14.2)
else none)
else
some (2, [some (vI n4)], j1.2)) : Option (Nat × Slots × AH)) := by kernel_rfl
theorem r131 {base : Nat} {v0_0 : Int} {v0_1 : Int} {v0_2 : ByteArray} {v0_3 : Option Addr} {v0_3n : Nat} {v1 : Int} {v2 : Int} {h : AH} {r : Value × AH} (hx : (nw1 h 39 [(vI v0_0), (vI v0_1), (vT v0_2), (vL v0_3 v0_3n)] fun h1 =>
((if (decide (v1 < (1 : Int))) = true then
some (.inl ([some (vI v1), some (vI v2), some (vP (List.length h)), some (.bool true)], h1))
else
(if (decide (v2 < (1 : Int))) = true then
some (.inl ([some (vI v1), some (vI v2), some (vP (List.length h)), some (.bool true)], h1))
else
c_IITL h1 (List.length h) 0 fun n3 n4 s5 l6 =>
(run (Et base) 173 [(.agg #[(vI n3), (vI n4), (vT s5), (vL l6.1 l6.2)])] h1).bind fun r7 =>
((some r7.1).bind getB).bind fun b8 =>
some (.inl ([some (vI v1), some (vI v2), some (vP (List.length h)), some (.bool (!b8))], r7.2))))).bind fun j2 => joinK j2 fun j2 =>
j_IIAB j2.1 fun n9 n10 d11 b12 =>
(if b12 = true then
some ((vI (-1 : Int)), j2.2)
else
(loopL (B131_0 base) [some (vI n9), some (vI (IntKind.wrap .i64 (n10 - (1 : Int)))), some (vA d11), some (vI (0 : Int))] j2.2).bind fun q13 =>
(if q13.1 = 2 then
((sget q13.2.1 0).bind (getI .i64)).bind fun n14 =>
some ((vI n14), q13.2.2)
else
none))) = some r) : run (Et base) 131 [(.agg #[(vI v0_0), (vI v0_1), (vT v0_2), (vL v0_3 v0_3n)]), (vI v1), (vI v2)] h = some r := run_i (an := a131) Try.func131 (by kernel_rfl) (.trans (by kernel_rfl) hx)
theorem r132 {base : Nat} {v0 : Int} {v1 : Int} {h : AH} {r : Value × AH} (hx : (((run (Et base) 83 [(.int .i64 v0), (.int .i64 (0 : Int)), (.int .i64 (6 : Int))] h).bind fun r2 =>
((some r2.1).bind getB).bind fun b3 =>
(if (!b3) = true then
some (.inl ([some (.int .i64 v0), some (.int .i64 v1), some (.bool true)], r2.2))
else
(run (Et base) 83 [(.int .i64 v1), (.int .i64 (0 : Int)), (.int .i64 (4000000 : Int))] r2.2).bind fun r4 =>
((some r4.1).bind getB).bind fun b5 =>
some (.inl ([some (.int .i64 v0), some (.int .i64 v1), some (.bool (!b5))], r4.2)))).bind fun j1 => joinK j1 fun j1 =>
((sget j1.1 0).bind (getI .i64)).bind fun n6 =>
((sget (j1.1.tail) 0).bind (getI .i64)).bind fun n7 =>
((sget (j1.1.tail.tail) 0).bind getB).bind fun b8 =>
(if b8 = true then
some ((.int .i64 (0 : Int)), j1.2)
else
some ((.int .i64 (IntKind.wrap .i64 ((IntKind.wrap .i64 (n7 * (8 : Int))) + n6))), j1.2))) = some r) : run (Et base) 132 [(vI v0), (vI v1)] h = some r := run_i (an := a132) Try.func132 (by kernel_rfl) (.trans (by kernel_rfl) hx)
end Go.Proofs.Ytjmkbglnjklbcaa.Am
