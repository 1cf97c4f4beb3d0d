/- What each of these functions comes to on the abstract machine, one equation a function and one a loop.
Conditions: none. -/
import Derived.Test.YtkdenmdijdmnjaaTb
set_option linter.unusedVariables false
set_option maxRecDepth 100000
namespace Go.Proofs.Ytkdenmdijdmnjaa.Am
open Go Go.RowKit
noncomputable abbrev qf5 (base : Nat) (v0_0 : Option Addr) (v0_0n : Nat) (v0_1 : Option Addr) (v0_1n : Nat) (v0_2 : Int) (v1 : Option Addr) (v1n : Nat) (v2 : Option Addr) (v2n : Nat) (h : AH) : Option (Value × AH) :=
nw1 h 58 [(vL v0_0 v0_0n), (vL v0_1 v0_1n), (vI v0_2)] fun h1 =>
(if (decide (((v2n : Nat) : Int) > (1048576 : Int))) = true then
some ((.bool true), h1)
else
c_LLI h1 (List.length h) 0 fun l2 l3 n4 =>
(run (Et base) 28 [(.agg #[(vL l2.1 l2.2), (vL l3.1 l3.2), (vI n4)]), (vI (1048576 : Int))] h1).bind fun r5 =>
((some r5.1).bind (getI .i64)).bind fun n6 =>
(if (decide (n6 < (0 : Int))) = true then
some ((.bool true), r5.2)
else
(run (Et base) 29 [(vL v1 v1n), (vI n6)] r5.2).bind fun r7 =>
((some r7.1).bind (getI .i64)).bind fun n8 =>
(if (decide (n8 < (0 : Int))) = true then
some ((.bool true), r7.2)
else
c_LLI r7.2 (List.length h) 0 fun l9 l10 n11 =>
(run (Et base) 31 [(.agg #[(vL l9.1 l9.2), (vL l10.1 l10.2), (vI n11)])] r7.2).bind fun r12 =>
gG (some r12.1) 3 fun l13 =>
l_LLI l13 fun l14 l15 n16 =>
(run (Et base) 32 [(vL v1 v1n)] r12.2).bind fun r17 =>
((some r17.1).bind getS).bind fun l18 =>
(run (Et base) 33 [(vL v2 v2n)] r17.2).bind fun r19 =>
((some r19.1).bind getS).bind fun l20 =>
(run (Et base) 30 [(.agg #[(vL l14.1 l14.2), (vL l15.1 l15.2), (vI n16)]), (vL l18.1 l18.2), (vL l20.1 l20.2)] r19.2).bind fun r21 =>
((some r21.1).bind (getI .i64)).bind fun n22 =>
c_LLI r21.2 (List.length h) 0 fun l23 l24 n25 =>
(run (Et base) 31 [(.agg #[(vL l23.1 l23.2), (vL l24.1 l24.2), (vI n25)])] r21.2).bind fun r26 =>
gG (some r26.1) 3 fun l27 =>
l_LLI l27 fun l28 l29 n30 =>
nw1 r26.2 63 [(vL none 0), (vL none 0), (vI 0)] fun h31 =>
(wr base h31 (List.length r26.2) 0 [(vL l28.1 l28.2), (vL l29.1 l29.2), (vI n30)]).bind fun h32 =>
(run (Et base) 32 [(vL v1 v1n)] h32).bind fun r33 =>
((some r33.1).bind getS).bind fun l34 =>
(run (Et base) 33 [(vL v2 v2n)] r33.2).bind fun r35 =>
((some r35.1).bind getS).bind fun l36 =>
c_LLI r35.2 (List.length r26.2) 0 fun l37 l38 n39 =>
(run (Et base) 34 [(.agg #[(vL l37.1 l37.2), (vL l38.1 l38.2), (vI n39)]), (vL l34.1 l34.2), (vL l36.1 l36.2)] r35.2).bind fun r40 =>
((some r40.1).bind (getI .i64)).bind fun n41 =>
(if (n41 != n22) = true then
some ((.bool false), r40.2)
else
c_LLI r40.2 (List.length r26.2) 0 fun l42 l43 n44 =>
c_LLI r40.2 (List.length h) 0 fun l45 l46 n47 =>
(run (Et base) 31 [(.agg #[(vL l45.1 l45.2), (vL l46.1 l46.2), (vI n47)])] r40.2).bind fun r48 =>
gG (some r48.1) 3 fun l49 =>
l_LLI l49 fun l50 l51 n52 =>
(gate (sameA r40.2 r48.2 (some ⟨(List.length r26.2), 0, none⟩) 3)
((run (Et base) 35 [(.agg #[(vL l42.1 l42.2), (vL l43.1 l43.2), (vI n44)]), (.agg #[(vL l50.1 l50.2), (vL l51.1 l51.2), (vI n52)])] r48.2).bind fun r53 =>
((some r53.1).bind getB).bind fun b54 =>
(if (!b54) = true then
some ((.bool false), r53.2)
else
(run (Et base) 32 [(vL v1 v1n)] r53.2).bind fun r55 =>
((some r55.1).bind getS).bind fun l56 =>
(run (Et base) 36 [(vL l34.1 l34.2), (vL l56.1 l56.2)] r55.2).bind fun r57 =>
((some r57.1).bind getB).bind fun b58 =>
(if (!b58) = true then
some ((.bool false), r57.2)
else
(run (Et base) 33 [(vL v2 v2n)] r57.2).bind fun r59 =>
((some r59.1).bind getS).bind fun l60 =>
(run (Et base) 37 [(vL l36.1 l36.2), (vL l60.1 l60.2)] r59.2).bind fun r61 =>
((some r61.1).bind getB).bind fun b62 =>
(if (!b62) = true then
some ((.bool false), r61.2)
else
some ((.bool true), r61.2))))))))))
theorem r5 {base : Nat} {v0_0 : Option Addr} {v0_0n : Nat} {v0_1 : Option Addr} {v0_1n : Nat} {v0_2 : Int} {v1 : Option Addr} {v1n : Nat} {v2 : Option Addr} {v2n : Nat} {h : AH} {r : Value × AH} (hx : qf5 base v0_0 v0_0n v0_1 v0_1n v0_2 v1 v1n v2 v2n h = some r) : run (Et base) 5 [(.agg #[(vL v0_0 v0_0n), (vL v0_1 v0_1n), (vI v0_2)]), (vL v1 v1n), (vL v2 v2n)] h = some r := run_i (an := a5) Try.func5 (by kernel_rfl) (.trans (by kernel_rfl) hx)
theorem r28 {base : Nat} {v0_0 : Option Addr} {v0_0n : Nat} {v0_1 : Option Addr} {v0_1n : Nat} {v0_2 : Int} {v1 : Int} {h : AH} {r : Value × AH} (hx : ((some (h ++ [some ⟨[(.slice v0_0 v0_0n v0_0n), (.slice v0_1 v0_1n v0_1n), (.int .i64 v0_2)], 58⟩])).bind fun h1 =>
((cell h1 (List.length h) 0).bind getS).bind fun l2 =>
(run (Et base) 94 [(.slice l2.1 l2.2 l2.2), (.int .i64 v1)] h1).bind fun r3 =>
((some r3.1).bind (getI .i64)).bind fun n4 =>
(if (decide (n4 < (0 : Int))) = true then
some ((.int .i64 (-1 : Int)), r3.2)
else
((cell r3.2 (List.length h) 1).bind getS).bind fun l5 =>
(run (Et base) 94 [(.slice l5.1 l5.2 l5.2), (.int .i64 n4)] r3.2).bind fun r6 =>
((some r6.1).bind (getI .i64)).bind fun n7 =>
(if (decide (n7 < (0 : Int))) = true then
some ((.int .i64 (-1 : Int)), r6.2)
else
some ((.int .i64 n7), r6.2)))) = some r) : run (Et base) 28 [(.agg #[(vL v0_0 v0_0n), (vL v0_1 v0_1n), (vI v0_2)]), (vI v1)] h = some r := run_i (an := a28) Try.func28 (by kernel_rfl) (.trans (by kernel_rfl) hx)
noncomputable def B29_0 (base : Nat) : Body := fun l h => lay s29_0 l fun s => exCode (Et base) (run (Et base)) loopL a29_0 (subC [1, 1, 1, 0, 1, 0, 0] (bodyC Try.f29)) s h (keepK s29_0 e29_0)
theorem B29_0_eq (base : Nat) (v0 : Option Addr) (v0n : Nat) (v1 : Int) (v5 : Int) (h : AH) : B29_0 base [some (vL v0 v0n), some (vI v1), some (vI v5)] h =
((if (decide (v5 < ((v0n : Nat) : Int))) = true then
(if 0 ≤ v5 ∧ v5 < ((v0n : Nat) : Int) then
((v0 : Option Addr)).bind fun a1 =>
((cell h a1.block (a1.off + Int.toNat v5 * 1)).bind getStr).bind fun s2 =>
(if (decide ((IntKind.wrap .i64 (v1 - (s2.size : Int))) < (0 : Int))) = true then
some (1, [some (.int .i64 (-1 : Int))], h)
else
some (0, [some (.slice v0 v0n v0n), some (.int .i64 (IntKind.wrap .i64 (v1 - (s2.size : Int)))), some (.int .i64 (IntKind.wrap .i64 (v5 + (1 : Int))))], h))
else none)
else
some (2, [some (.int .i64 v1)], h)) : Option (Nat × Slots × AH)) := by kernel_rfl
theorem r29 {base : Nat} {v0 : Option Addr} {v0n : Nat} {v1 : Int} {h : AH} {r : Value × AH} (hx : ((if (decide ((IntKind.wrap .i64 (v1 - ((v0n : Nat) : Int))) < (0 : Int))) = true then
some ((.int .i64 (-1 : Int)), h)
else
(loopL (B29_0 base) [some (.slice v0 v0n v0n), some (.int .i64 (IntKind.wrap .i64 (v1 - ((v0n : Nat) : Int)))), some (.int .i64 (0 : Int))] h).bind fun q1 =>
(if q1.1 = 1 then
((sget q1.2.1 0).bind (getI .i64)).bind fun n2 =>
some ((.int .i64 n2), q1.2.2)
else
(if q1.1 = 2 then
((sget q1.2.1 0).bind (getI .i64)).bind fun n3 =>
some ((.int .i64 n3), q1.2.2)
else
none)))) = some r) : run (Et base) 29 [(vL v0 v0n), (vI v1)] h = some r := run_i (an := a29) Try.func29 (by kernel_rfl) (.trans (by kernel_rfl) hx)
theorem r30 {base : Nat} {v0_0 : Option Addr} {v0_0n : Nat} {v0_1 : Option Addr} {v0_1n : Nat} {v0_2 : Int} {v1 : Option Addr} {v1n : Nat} {v2 : Option Addr} {v2n : Nat} {h : AH} {r : Value × AH} (hx : ((some (h ++ [some ⟨[(.slice v0_0 v0_0n v0_0n), (.slice v0_1 v0_1n v0_1n), (.int .i64 v0_2)], 63⟩])).bind fun h1 =>
((cell h1 (List.length h) 0).bind getS).bind fun l2 =>
((cell h1 (List.length h) 1).bind getS).bind fun l3 =>
((cell h1 (List.length h) 2).bind (getI .i64)).bind fun n4 =>
(run (Et base) 95 [(.agg #[(.slice l2.1 l2.2 l2.2), (.slice l3.1 l3.2 l3.2), (.int .i64 n4)]), (.slice v1 v1n v1n), (.slice v2 v2n v2n)] h1).bind fun r5 =>
((some r5.1).bind getB).bind fun b6 =>
(if (!b6) = true then
some ((.int .i64 (0 : Int)), r5.2)
else
((cell r5.2 (List.length h) 0).bind getS).bind fun l7 =>
((cell r5.2 (List.length h) 1).bind getS).bind fun l8 =>
((cell r5.2 (List.length h) 2).bind (getI .i64)).bind fun n9 =>
(run (Et base) 96 [(.agg #[(.slice l7.1 l7.2 l7.2), (.slice l8.1 l8.2 l8.2), (.int .i64 n9)]), (.slice v2 v2n v2n), (.bool true)] r5.2).bind fun r10 =>
(getTup 2 r10.1).bind fun l11 =>
((l11[0]?).bind (getAgg 3)).bind fun l12 =>
((l12[0]?).bind getS).bind fun l13 =>
((l12[1]?).bind getS).bind fun l14 =>
((l12[2]?).bind (getI .i64)).bind fun n15 =>
((l11[1]?).bind getS).bind fun l16 =>
(some (r10.2 ++ [some ⟨[(.slice none 0 0), (.slice none 0 0), (.int .i64 0)], 63⟩])).bind fun h17 =>
(wr base h17 (List.length r10.2) 0 [(.slice l13.1 l13.2 l13.2), (.slice l14.1 l14.2 l14.2), (.int .i64 n15)]).bind fun h18 =>
((cell h18 (List.length r10.2) 0).bind getS).bind fun l19 =>
some ((.int .i64 ((l19.2 : Nat) : Int)), h18))) = some r) : run (Et base) 30 [(.agg #[(vL v0_0 v0_0n), (vL v0_1 v0_1n), (vI v0_2)]), (vL v1 v1n), (vL v2 v2n)] h = some r := run_i (an := a30) Try.func30 (by kernel_rfl) (.trans (by kernel_rfl) hx)
theorem r31 {base : Nat} {v0_0 : Option Addr} {v0_0n : Nat} {v0_1 : Option Addr} {v0_1n : Nat} {v0_2 : Int} {h : AH} {r : Value × AH} (hx : ((some (h ++ [some ⟨[(.slice v0_0 v0_0n v0_0n), (.slice v0_1 v0_1n v0_1n), (.int .i64 v0_2)], 58⟩])).bind fun h1 =>
(some (h1 ++ [some ⟨[(.slice none 0 0), (.slice none 0 0), (.int .i64 0)], 63⟩])).bind fun h2 =>
(some (h2 ++ [some ⟨[(.slice none 0 0), (.slice none 0 0), (.int .i64 0)], 63⟩])).bind fun h3 =>
((cell h3 (List.length h) 0).bind getS).bind fun l4 =>
(run (Et base) 33 [(.slice l4.1 l4.2 l4.2)] h3).bind fun r5 =>
((some r5.1).bind getS).bind fun l6 =>
(wr base r5.2 (List.length h2) 0 [(.slice l6.1 l6.2 l6.2)]).bind fun h7 =>
((cell h7 (List.length h) 1).bind getS).bind fun l8 =>
(run (Et base) 33 [(.slice l8.1 l8.2 l8.2)] h7).bind fun r9 =>
((some r9.1).bind getS).bind fun l10 =>
(wr base r9.2 (List.length h2) 1 [(.slice l10.1 l10.2 l10.2)]).bind fun h11 =>
((cell h11 (List.length h) 2).bind (getI .i64)).bind fun n12 =>
(wr base h11 (List.length h2) 2 [(.int .i64 n12)]).bind fun h13 =>
((cell h13 (List.length h2) 0).bind getS).bind fun l14 =>
((cell h13 (List.length h2) 1).bind getS).bind fun l15 =>
((cell h13 (List.length h2) 2).bind (getI .i64)).bind fun n16 =>
(wr base h13 (List.length h1) 0 [(.slice l14.1 l14.2 l14.2), (.slice l15.1 l15.2 l15.2), (.int .i64 n16)]).bind fun h17 =>
((cell h17 (List.length h1) 0).bind getS).bind fun l18 =>
((cell h17 (List.length h1) 1).bind getS).bind fun l19 =>
((cell h17 (List.length h1) 2).bind (getI .i64)).bind fun n20 =>
some ((.agg #[(.slice l18.1 l18.2 l18.2), (.slice l19.1 l19.2 l19.2), (.int .i64 n20)]), h17)) = some r) : run (Et base) 31 [(.agg #[(vL v0_0 v0_0n), (vL v0_1 v0_1n), (vI v0_2)])] h = some r := run_i (an := a31) Try.func31 (by kernel_rfl) (.trans (by kernel_rfl) hx)
noncomputable def B32_0 (base : Nat) : Body := fun l h => lay s32_0 l fun s => exCode (Et base) (run (Et base)) loopL a32_0 (subC [1, 1, 0, 1, 0, 0] (bodyC Try.f32)) s h (keepK s32_0 e32_0)
theorem B32_0_eq (base : Nat) (v0 : Option Addr) (v0n : Nat) (v3 : Option Addr) (v3n : Nat) (v4 : Int) (h : AH) : B32_0 base [some (vL v0 v0n), some (vL v3 v3n), some (vI v4)] h =
((if (decide (v4 < ((v0n : Nat) : Int))) = true then
(if 0 ≤ v4 ∧ v4 < ((v0n : Nat) : Int) then
((v0 : Option Addr)).bind fun a1 =>
((cell h a1.block (a1.off + Int.toNat v4 * 1)).bind getStr).bind fun s2 =>
(if 0 ≤ v4 ∧ v4 < ((v3n : Nat) : Int) then
((v3 : Option Addr)).bind fun a3 =>
(wr base h a3.block (a3.off + Int.toNat v4 * 1) [(.string s2)]).bind fun h4 =>
some (0, [some (.slice v0 v0n v0n), some (.slice v3 v3n v3n), some (.int .i64 (IntKind.wrap .i64 (v4 + (1 : Int))))], h4)
else none)
else none)
else
some (2, [some (.slice v3 v3n v3n)], h)) : Option (Nat × Slots × AH)) := by kernel_rfl
theorem r32 {base : Nat} {v0 : Option Addr} {v0n : Nat} {h : AH} {r : Value × AH} (hx : ((if ((v0n : Nat) : Int) = ((v0n : Nat) : Int) ∧ 0 ≤ ((v0n : Nat) : Int) ∧ ((v0n : Nat) : Int) * 16 ≤ 140737488355328 ∧ ((v0n : Nat) : Int) ≤ 140737488355328 then
(some (h ++ [some ⟨rep [(.string ⟨#[]⟩)] (Int.toNat ((v0n : Nat) : Int)), 9⟩])).bind fun h1 =>
(loopL (B32_0 base) [some (.slice v0 v0n v0n), some (.slice (some ⟨(List.length h), 0, none⟩) (Int.toNat ((v0n : Nat) : Int)) (Int.toNat ((v0n : Nat) : Int))), some (.int .i64 (0 : Int))] h1).bind fun q2 =>
(if q2.1 = 2 then
((sget q2.2.1 0).bind getS).bind fun l3 =>
some ((.slice l3.1 l3.2 l3.2), q2.2.2)
else
none)
else none)) = some r) : run (Et base) 32 [(vL v0 v0n)] h = some r := run_i (an := a32) Try.func32 (by kernel_rfl) (.trans (by kernel_rfl) hx)
noncomputable def B33_0 (base : Nat) : Body := fun l h => lay s33_0 l fun s => exCode (Et base) (run (Et base)) loopL a33_0 (subC [1, 1, 0, 1, 0, 0] (bodyC Try.f33)) s h (keepK s33_0 e33_0)
theorem B33_0_eq (base : Nat) (v0 : Option Addr) (v0n : Nat) (v3 : Option Addr) (v3n : Nat) (v4 : Int) (h : AH) : B33_0 base [some (vL v0 v0n), some (vL v3 v3n), some (vI v4)] h =
((if (decide (v4 < ((v0n : Nat) : Int))) = true then
(if 0 ≤ v4 ∧ v4 < ((v0n : Nat) : Int) then
((v0 : Option Addr)).bind fun a1 =>
((cell h a1.block (a1.off + Int.toNat v4 * 1)).bind (getI .i64)).bind fun n2 =>
(if 0 ≤ v4 ∧ v4 < ((v3n : Nat) : Int) then
((v3 : Option Addr)).bind fun a3 =>
(wr base h a3.block (a3.off + Int.toNat v4 * 1) [(.int .i64 n2)]).bind fun h4 =>
some (0, [some (.slice v0 v0n v0n), some (.slice v3 v3n v3n), some (.int .i64 (IntKind.wrap .i64 (v4 + (1 : Int))))], h4)
else none)
else none)
else
some (2, [some (.slice v3 v3n v3n)], h)) : Option (Nat × Slots × AH)) := by kernel_rfl
theorem r33 {base : Nat} {v0 : Option Addr} {v0n : Nat} {h : AH} {r : Value × AH} (hx : ((if ((v0n : Nat) : Int) = ((v0n : Nat) : Int) ∧ 0 ≤ ((v0n : Nat) : Int) ∧ ((v0n : Nat) : Int) * 8 ≤ 140737488355328 ∧ ((v0n : Nat) : Int) ≤ 140737488355328 then
(some (h ++ [some ⟨rep [(.int .i64 0)] (Int.toNat ((v0n : Nat) : Int)), 3⟩])).bind fun h1 =>
(loopL (B33_0 base) [some (.slice v0 v0n v0n), some (.slice (some ⟨(List.length h), 0, none⟩) (Int.toNat ((v0n : Nat) : Int)) (Int.toNat ((v0n : Nat) : Int))), some (.int .i64 (0 : Int))] h1).bind fun q2 =>
(if q2.1 = 2 then
((sget q2.2.1 0).bind getS).bind fun l3 =>
some ((.slice l3.1 l3.2 l3.2), q2.2.2)
else
none)
else none)) = some r) : run (Et base) 33 [(vL v0 v0n)] h = some r := run_i (an := a33) Try.func33 (by kernel_rfl) (.trans (by kernel_rfl) hx)
noncomputable def B34_0 (base : Nat) : Body := fun l h => lay s34_0 l fun s => exCode (Et base) (run (Et base)) loopL a34_0 (subC [1, 1, 1, 0, 1, 0, 0] (bodyC Try.f34)) s h (keepK s34_0 e34_0)
theorem B34_0_eq (base : Nat) (v7 : Addr) (v19 : Option Addr) (v19n : Nat) (v20 : Int) (v21 : Int) (h : AH) : B34_0 base [some (vA v7), some (vL v19 v19n), some (vI v20), some (vI v21)] h =
((if (decide (v21 < v20)) = true then
(if 0 ≤ v21 ∧ v21 < ((v19n : Nat) : Int) then
((v19 : Option Addr)).bind fun a1 =>
((cell h a1.block (a1.off + Int.toNat v21 * 1)).bind (getI .i64)).bind fun n2 =>
(run (Et base) 97 [(.pointer (some v7)), (.int .i64 n2)] h).bind fun r3 =>
((some r3.1).bind (getI .i64)).bind fun n4 =>
some (0, [some (.pointer (some v7)), some (.slice v19 v19n v19n), some (.int .i64 v20), some (.int .i64 (IntKind.wrap .i64 (v21 + (1 : Int))))], r3.2)
else none)
else
some (2, [some (.pointer (some v7))], h)) : Option (Nat × Slots × AH)) := by kernel_rfl
theorem r34 {base : Nat} {v0_0 : Option Addr} {v0_0n : Nat} {v0_1 : Option Addr} {v0_1n : Nat} {v0_2 : Int} {v1 : Option Addr} {v1n : Nat} {v2 : Option Addr} {v2n : Nat} {h : AH} {r : Value × AH} (hx : ((some (h ++ [some ⟨[(.slice v0_0 v0_0n v0_0n), (.slice v0_1 v0_1n v0_1n), (.int .i64 v0_2)], 63⟩])).bind fun h1 =>
((cell h1 (List.length h) 0).bind getS).bind fun l2 =>
((cell h1 (List.length h) 1).bind getS).bind fun l3 =>
((cell h1 (List.length h) 2).bind (getI .i64)).bind fun n4 =>
(run (Et base) 50 [(.agg #[(.slice l2.1 l2.2 l2.2), (.slice l3.1 l3.2 l3.2), (.int .i64 n4)]), (.slice v1 v1n v1n), (.slice v2 v2n v2n)] h1).bind fun r5 =>
((some r5.1).bind getB).bind fun b6 =>
(if (!b6) = true then
some ((.int .i64 (0 : Int)), r5.2)
else
((cell r5.2 (List.length h) 0).bind getS).bind fun l7 =>
((cell r5.2 (List.length h) 1).bind getS).bind fun l8 =>
((cell r5.2 (List.length h) 2).bind (getI .i64)).bind fun n9 =>
(some (r5.2 ++ [some (mblk [])])).bind fun h10 =>
(some (h10 ++ [some ⟨[(.slice l7.1 l7.2 l7.2), (.slice l8.1 l8.2 l8.2), (.int .i64 n9), (.bool true), (.slice none 0 0), (.slice none 0 0), (.map (some (List.length r5.2)))], 119⟩])).bind fun h11 =>
(loopL (B34_0 base) [some (.pointer (some ⟨(List.length h10), 0, none⟩)), some (.slice v2 v2n v2n), some (.int .i64 ((v2n : Nat) : Int)), some (.int .i64 (0 : Int))] h11).bind fun q12 =>
(if q12.1 = 2 then
((sget q12.2.1 0).bind getA).bind fun d13 =>
((cell q12.2.2 d13.block (d13.off + 4)).bind getS).bind fun l14 =>
some ((.int .i64 ((l14.2 : Nat) : Int)), q12.2.2)
else
none))) = some r) : run (Et base) 34 [(.agg #[(vL v0_0 v0_0n), (vL v0_1 v0_1n), (vI v0_2)]), (vL v1 v1n), (vL v2 v2n)] h = some r := run_i (an := a34) Try.func34 (by kernel_rfl) (.trans (by kernel_rfl) hx)
theorem r35 {base : Nat} {v0_0 : Option Addr} {v0_0n : Nat} {v0_1 : Option Addr} {v0_1n : Nat} {v0_2 : Int} {v1_0 : Option Addr} {v1_0n : Nat} {v1_1 : Option Addr} {v1_1n : Nat} {v1_2 : Int} {h : AH} {r : Value × AH} (hx : ((some (h ++ [some ⟨[(.slice v0_0 v0_0n v0_0n), (.slice v0_1 v0_1n v0_1n), (.int .i64 v0_2)], 63⟩])).bind fun h1 =>
(some (h1 ++ [some ⟨[(.slice v1_0 v1_0n v1_0n), (.slice v1_1 v1_1n v1_1n), (.int .i64 v1_2)], 63⟩])).bind fun h2 =>
((cell h2 (List.length h) 0).bind getS).bind fun l3 =>
((cell h2 (List.length h1) 0).bind getS).bind fun l4 =>
(run (Et base) 37 [(.slice l3.1 l3.2 l3.2), (.slice l4.1 l4.2 l4.2)] h2).bind fun r5 =>
((some r5.1).bind getB).bind fun b6 =>
(if (!b6) = true then
some ((.bool false), r5.2)
else
((cell r5.2 (List.length h) 1).bind getS).bind fun l7 =>
((cell r5.2 (List.length h1) 1).bind getS).bind fun l8 =>
(run (Et base) 37 [(.slice l7.1 l7.2 l7.2), (.slice l8.1 l8.2 l8.2)] r5.2).bind fun r9 =>
((some r9.1).bind getB).bind fun b10 =>
(if (!b10) = true then
some ((.bool false), r9.2)
else
((cell r9.2 (List.length h) 2).bind (getI .i64)).bind fun n11 =>
((cell r9.2 (List.length h1) 2).bind (getI .i64)).bind fun n12 =>
(if (n11 != n12) = true then
some ((.bool false), r9.2)
else
some ((.bool true), r9.2))))) = some r) : run (Et base) 35 [(.agg #[(vL v0_0 v0_0n), (vL v0_1 v0_1n), (vI v0_2)]), (.agg #[(vL v1_0 v1_0n), (vL v1_1 v1_1n), (vI v1_2)])] h = some r := run_i (an := a35) Try.func35 (by kernel_rfl) (.trans (by kernel_rfl) hx)
noncomputable def B36_0 (base : Nat) : Body := fun l h => lay s36_0 l fun s => exCode (Et base) (run (Et base)) loopL a36_0 (subC [1, 1, 0, 1, 0, 0] (bodyC Try.f36)) s h (keepK s36_0 e36_0)
theorem B36_0_eq (base : Nat) (v0 : Option Addr) (v0n : Nat) (v1 : Option Addr) (v1n : Nat) (v5 : Int) (h : AH) : B36_0 base [some (vL v0 v0n), some (vL v1 v1n), some (vI v5)] h =
((if (decide (v5 < ((v0n : Nat) : Int))) = true then
(if 0 ≤ v5 ∧ v5 < ((v0n : Nat) : Int) then
((v0 : Option Addr)).bind fun a1 =>
((cell h a1.block (a1.off + Int.toNat v5 * 1)).bind getStr).bind fun s2 =>
(if 0 ≤ v5 ∧ v5 < ((v1n : Nat) : Int) then
((v1 : Option Addr)).bind fun a3 =>
((cell h a3.block (a3.off + Int.toNat v5 * 1)).bind getStr).bind fun s4 =>
(if (!(s2.toList == s4.toList)) = true then
some (1, [some (.bool false)], h)
else
some (0, [some (.slice v0 v0n v0n), some (.slice v1 v1n v1n), some (.int .i64 (IntKind.wrap .i64 (v5 + (1 : Int))))], h))
else none)
else none)
else
some (2, [], h)) : Option (Nat × Slots × AH)) := by kernel_rfl
theorem r36 {base : Nat} {v0 : Option Addr} {v0n : Nat} {v1 : Option Addr} {v1n : Nat} {h : AH} {r : Value × AH} (hx : ((if (((v0n : Nat) : Int) != ((v1n : Nat) : Int)) = true then
some ((.bool false), h)
else
(loopL (B36_0 base) [some (.slice v0 v0n v0n), some (.slice v1 v1n v1n), some (.int .i64 (0 : Int))] h).bind fun q1 =>
(if q1.1 = 1 then
((sget q1.2.1 0).bind getB).bind fun b2 =>
some ((.bool b2), q1.2.2)
else
(if q1.1 = 2 then
some ((.bool true), q1.2.2)
else
none)))) = some r) : run (Et base) 36 [(vL v0 v0n), (vL v1 v1n)] h = some r := run_i (an := a36) Try.func36 (by kernel_rfl) (.trans (by kernel_rfl) hx)
noncomputable def B37_0 (base : Nat) : Body := fun l h => lay s37_0 l fun s => exCode (Et base) (run (Et base)) loopL a37_0 (subC [1, 1, 0, 1, 0, 0] (bodyC Try.f37)) s h (keepK s37_0 e37_0)
theorem B37_0_eq (base : Nat) (v0 : Option Addr) (v0n : Nat) (v1 : Option Addr) (v1n : Nat) (v5 : Int) (h : AH) : B37_0 base [some (vL v0 v0n), some (vL v1 v1n), some (vI v5)] h =
((if (decide (v5 < ((v0n : Nat) : Int))) = true then
(if 0 ≤ v5 ∧ v5 < ((v0n : Nat) : Int) then
((v0 : Option Addr)).bind fun a1 =>
((cell h a1.block (a1.off + Int.toNat v5 * 1)).bind (getI .i64)).bind fun n2 =>
(if 0 ≤ v5 ∧ v5 < ((v1n : Nat) : Int) then
((v1 : Option Addr)).bind fun a3 =>
((cell h a3.block (a3.off + Int.toNat v5 * 1)).bind (getI .i64)).bind fun n4 =>
(if (n2 != n4) = true then
some (1, [some (.bool false)], h)
else
some (0, [some (.slice v0 v0n v0n), some (.slice v1 v1n v1n), some (.int .i64 (IntKind.wrap .i64 (v5 + (1 : Int))))], h))
else none)
else none)
else
some (2, [], h)) : Option (Nat × Slots × AH)) := by kernel_rfl
theorem r37 {base : Nat} {v0 : Option Addr} {v0n : Nat} {v1 : Option Addr} {v1n : Nat} {h : AH} {r : Value × AH} (hx : ((if (((v0n : Nat) : Int) != ((v1n : Nat) : Int)) = true then
some ((.bool false), h)
else
(loopL (B37_0 base) [some (.slice v0 v0n v0n), some (.slice v1 v1n v1n), some (.int .i64 (0 : Int))] h).bind fun q1 =>
(if q1.1 = 1 then
((sget q1.2.1 0).bind getB).bind fun b2 =>
some ((.bool b2), q1.2.2)
else
(if q1.1 = 2 then
some ((.bool true), q1.2.2)
else
none)))) = some r) : run (Et base) 37 [(vL v0 v0n), (vL v1 v1n)] h = some r := run_i (an := a37) Try.func37 (by kernel_rfl) (.trans (by kernel_rfl) hx)
noncomputable def B50_0 (base : Nat) : Body := fun l h => lay s50_0 l fun s => exCode (Et base) (run (Et base)) loopL a50_0 (subC [1, 1, 0, 1, 0, 0] (bodyC Try.f50)) s h (keepK s50_0 e50_0)
theorem B50_0_eq (base : Nat) (v1 : Option Addr) (v1n : Nat) (v3 : Addr) (v35 : Option Addr) (v35n : Nat) (v36 : Int) (v37 : Int) (h : AH) : B50_0 base [some (vL v1 v1n), some (vA v3), some (vL v35 v35n), some (vI v36), some (vI v37)] h =
((if (decide (v37 < v36)) = true then
(if 0 ≤ v37 ∧ v37 < ((v35n : Nat) : Int) then
((v35 : Option Addr)).bind fun a1 =>
((cell h a1.block (a1.off + Int.toNat v37 * 1)).bind (getI .i64)).bind fun n2 =>
c_LLI h v3.block v3.off fun l3 l4 n5 =>
(run (Et base) 108 [(.agg #[(vL l3.1 l3.2), (vL l4.1 l4.2), (vI n5)]), (vL v1 v1n), (vI n2)] h).bind fun r6 =>
(getTup 2 r6.1).bind fun l7 =>
gG (l7[0]?) 4 fun l8 =>
l_IITL l8 fun n9 n10 s11 l12 =>
((l7[1]?).bind getB).bind fun b13 =>
nw1 r6.2 42 [(vI 0), (vI 0), (vT ⟨#[]⟩), (vL none 0)] fun h14 =>
(wr base h14 (List.length r6.2) 0 [(vI n9), (vI n10), (vT s11), (vL l12.1 l12.2)]).bind fun h15 =>
((if (!b13) = true then
some (.inl ([some (vL v1 v1n), some (vA v3), some (vL v35 v35n), some (vI v36), some (vI v37), some (.bool true)], h15))
else
(run (Et base) 109 [(vA v3), (vI n2)] h15).bind fun r17 =>
((some r17.1).bind getB).bind fun b18 =>
some (.inl ([some (vL v1 v1n), some (vA v3), some (vL v35 v35n), some (vI v36), some (vI v37), some (.bool (!b18))], r17.2)))).bind fun j16 => joinK j16 fun j16 =>
j_LALIIB j16.1 fun l19 d20 l21 n22 n23 b24 =>
(if b24 = true then
some (1, [some (.bool false)], j16.2)
else
some (0, [some (vL l19.1 l19.2), some (vA d20), some (vL l21.1 l21.2), some (vI n22), some (vI (IntKind.wrap .i64 (n23 + (1 : Int))))], j16.2))
else none)
else
some (2, [], h)) : Option (Nat × Slots × AH)) := by kernel_rfl
theorem r50 {base : Nat} {v0_0 : Option Addr} {v0_0n : Nat} {v0_1 : Option Addr} {v0_1n : Nat} {v0_2 : Int} {v1 : Option Addr} {v1n : Nat} {v2 : Option Addr} {v2n : Nat} {h : AH} {r : Value × AH} (hx : (nw1 h 63 [(vL v0_0 v0_0n), (vL v0_1 v0_1n), (vI v0_2)] fun h1 =>
(((cell h1 (List.length h) 0).bind getS).bind fun l3 =>
(if (decide (((l3.2 : Nat) : Int) > (1000 : Int))) = true then
some (.inl ([some (vL v1 v1n), some (vL v2 v2n), some (vP (List.length h)), some (.bool true)], h1))
else
((cell h1 (List.length h) 1).bind getS).bind fun l4 =>
(if (decide (((l4.2 : Nat) : Int) > (1000 : Int))) = true then
some (.inl ([some (vL v1 v1n), some (vL v2 v2n), some (vP (List.length h)), some (.bool true)], h1))
else
((cell h1 (List.length h) 2).bind (getI .i64)).bind fun n5 =>
((cell h1 (List.length h) 1).bind getS).bind fun l6 =>
(run (Et base) 83 [(vI n5), (vI (0 : Int)), (vI ((l6.2 : Nat) : Int))] h1).bind fun r7 =>
((some r7.1).bind getB).bind fun b8 =>
(if (!b8) = true then
some (.inl ([some (vL v1 v1n), some (vL v2 v2n), some (vP (List.length h)), some (.bool true)], r7.2))
else
(run (Et base) 107 [(vL v1 v1n)] r7.2).bind fun r9 =>
((some r9.1).bind getB).bind fun b10 =>
some (.inl ([some (vL v1 v1n), some (vL v2 v2n), some (vP (List.length h)), some (.bool (!b10))], r9.2)))))).bind fun j2 => joinK j2 fun j2 =>
j_LLAB j2.1 fun l11 l12 d13 b14 =>
(if b14 = true then
some ((.bool false), j2.2)
else
(loopL (B50_0 base) [some (vL l11.1 l11.2), some (vA d13), some (vL l12.1 l12.2), some (vI ((l12.2 : Nat) : Int)), some (vI (0 : Int))] j2.2).bind fun q15 =>
(if q15.1 = 1 then
((sget q15.2.1 0).bind getB).bind fun b16 =>
some ((.bool b16), q15.2.2)
else
(if q15.1 = 2 then
some ((.bool true), q15.2.2)
else
none)))) = some r) : run (Et base) 50 [(.agg #[(vL v0_0 v0_0n), (vL v0_1 v0_1n), (vI v0_2)]), (vL v1 v1n), (vL v2 v2n)] h = some r := run_i (an := a50) Try.func50 (by kernel_rfl) (.trans (by kernel_rfl) hx)
theorem r58 {base : Nat} {v0_0 : Int} {v0_1 : Int} {v0_2 : ByteArray} {v0_3 : Option Addr} {v0_3n : Nat} {h : AH} {r : Value × AH} (hx : ((some (h ++ [some ⟨[(.int .i64 v0_0), (.int .i64 v0_1), (.string v0_2), (.slice v0_3 v0_3n v0_3n)], 42⟩])).bind fun h1 =>
((cell h1 (List.length h) 0).bind (getI .i64)).bind fun n2 =>
((cell h1 (List.length h) 1).bind (getI .i64)).bind fun n3 =>
((cell h1 (List.length h) 2).bind getStr).bind fun s4 =>
((cell h1 (List.length h) 3).bind getS).bind fun l5 =>
(run (Et base) 117 [(.agg #[(.int .i64 n2), (.int .i64 n3), (.string s4), (.slice l5.1 l5.2 l5.2)]), (.int .i64 (6 : Int)), (.int .i64 (100 : Int))] h1).bind fun r6 =>
((some r6.1).bind (getI .i64)).bind fun n7 =>
some ((.bool (decide (n7 ≥ (0 : Int)))), r6.2)) = some r) : run (Et base) 58 [(.agg #[(vI v0_0), (vI v0_1), (vT v0_2), (vL v0_3 v0_3n)])] h = some r := run_i (an := a58) Try.func58 (by kernel_rfl) (.trans (by kernel_rfl) hx)
theorem r65 {base : Nat} {v0_0 : Int} {v0_1 : Int} {v0_2 : ByteArray} {v0_3 : Option Addr} {v0_3n : Nat} {h : AH} {r : Value × AH} (hx : ((some (h ++ [some ⟨[(.int .i64 v0_0), (.int .i64 v0_1), (.string v0_2), (.slice v0_3 v0_3n v0_3n)], 42⟩])).bind fun h1 =>
((cell h1 (List.length h) 0).bind (getI .i64)).bind fun n2 =>
((cell h1 (List.length h) 1).bind (getI .i64)).bind fun n3 =>
((cell h1 (List.length h) 2).bind getStr).bind fun s4 =>
((cell h1 (List.length h) 3).bind getS).bind fun l5 =>
(run (Et base) 124 [(.agg #[(.int .i64 n2), (.int .i64 n3), (.string s4), (.slice l5.1 l5.2 l5.2)]), (.int .i64 (1 : Int)), (.int .i64 (0 : Int))] h1).bind fun r6 =>
(getTup 2 r6.1).bind fun l7 =>
((l7[0]?).bind (getI .i64)).bind fun n8 =>
((l7[1]?).bind getB).bind fun b9 =>
some ((.bool b9), r6.2)) = some r) : run (Et base) 65 [(.agg #[(vI v0_0), (vI v0_1), (vT v0_2), (vL v0_3 v0_3n)])] h = some r := run_i (an := a65) Try.func65 (by kernel_rfl) (.trans (by kernel_rfl) hx)
theorem r83 {base : Nat} {v0 : Int} {v1 : Int} {v2 : Int} {h : AH} {r : Value × AH} (hx : ((if (decide (v0 ≥ v1)) = true then
some ((.bool (decide (v0 ≤ v2))), h)
else
some ((.bool false), h))) = some r) : run (Et base) 83 [(vI v0), (vI v1), (vI v2)] h = some r := run_i (an := a83) Try.func83 (by kernel_rfl) (.trans (by kernel_rfl) hx)
theorem r90 {base : Nat} {v0 : Int} {v1 : Int} {v2 : Int} {h : AH} {r : Value × AH} (hx : ((if (decide (v0 ≥ v1)) = true then
some ((.bool (decide (v0 ≤ v2))), h)
else
some ((.bool false), h))) = some r) : run (Et base) 90 [(vI v0), (vI v1), (vI v2)] h = some r := run_i (an := a90) Try.func90 (by kernel_rfl) (.trans (by kernel_rfl) hx)
theorem r94 {base : Nat} {v0 : Option Addr} {v0n : Nat} {v1 : Int} {h : AH} {r : Value × AH} (hx : ((if (decide ((IntKind.wrap .i64 (v1 - ((v0n : Nat) : Int))) < (0 : Int))) = true then
some ((.int .i64 (-1 : Int)), h)
else
some ((.int .i64 (IntKind.wrap .i64 (v1 - ((v0n : Nat) : Int)))), h))) = some r) : run (Et base) 94 [(vL v0 v0n), (vI v1)] h = some r := run_i (an := a94) Try.func94 (by kernel_rfl) (.trans (by kernel_rfl) hx)
noncomputable def B95_0 (base : Nat) : Body := fun l h => lay s95_0 l fun s => exCode (Et base) (run (Et base)) loopL a95_0 (subC [1, 1, 0, 1, 0, 0] (bodyC Try.f95)) s h (keepK s95_0 e95_0)
theorem B95_0_eq (base : Nat) (v1 : Option Addr) (v1n : Nat) (v2 : Option Addr) (v2n : Nat) (v3 : Addr) (v7 : Int) (h : AH) : B95_0 base [some (vL v1 v1n), some (vL v2 v2n), some (vA v3), some (vI v7)] h =
((if (decide (v7 < ((v2n : Nat) : Int))) = true then
c_LLI h v3.block v3.off fun l1 l2 n3 =>
(if 0 ≤ v7 ∧ v7 < ((v2n : Nat) : Int) then
((v2 : Option Addr)).bind fun a4 =>
((cell h a4.block (a4.off + Int.toNat v7 * 1)).bind (getI .i64)).bind fun n5 =>
(run (Et base) 111 [(.agg #[(vL l1.1 l1.2), (vL l2.1 l2.2), (vI n3)]), (vL v1 v1n), (vI n5)] h).bind fun r6 =>
(getTup 2 r6.1).bind fun l7 =>
gG (l7[0]?) 4 fun l8 =>
l_IITL l8 fun n9 n10 s11 l12 =>
((l7[1]?).bind getB).bind fun b13 =>
(gate (neA (some ⟨a4.block, (a4.off + Int.toNat v7 * 1), none⟩) (List.length r6.2))
((gate (neA (some v3) (List.length r6.2))
(nw1 r6.2 42 [(vI 0), (vI 0), (vT ⟨#[]⟩), (vL none 0)] fun h14 =>
(wr base h14 (List.length r6.2) 0 [(vI n9), (vI n10), (vT s11), (vL l12.1 l12.2)]).bind fun h15 =>
((if (!b13) = true then
some (.inl ([some (vL v1 v1n), some (vL v2 v2n), some (vA v3), some (vI v7), some (.bool true)], h15))
else
c_LLI h15 v3.block v3.off fun l17 l18 n19 =>
(if 0 ≤ v7 ∧ v7 < ((v2n : Nat) : Int) then
((v2 : Option Addr)).bind fun a20 =>
((cell h15 a20.block (a20.off + Int.toNat v7 * 1)).bind (getI .i64)).bind fun n21 =>
(run (Et base) 145 [(.agg #[(vL l17.1 l17.2), (vL l18.1 l18.2), (vI n19)]), (vI n21), (vI (200000 : Int))] h15).bind fun r22 =>
((some r22.1).bind getB).bind fun b23 =>
some (.inl ([some (vL v1 v1n), some (vL v2 v2n), some (vA v3), some (vI v7), some (.bool (!b23))], r22.2))
else none))).bind fun j16 => joinK j16 fun j16 =>
j_LLAIB j16.1 fun l24 l25 d26 n27 b28 =>
(if b28 = true then
some (1, [some (.bool false)], j16.2)
else
some (0, [some (vL l24.1 l24.2), some (vL l25.1 l25.2), some (vA d26), some (vI (IntKind.wrap .i64 (n27 + (1 : Int))))], j16.2))))))
else none)
else
some (2, [], h)) : Option (Nat × Slots × AH)) := by kernel_rfl
theorem r95 {base : Nat} {v0_0 : Option Addr} {v0_0n : Nat} {v0_1 : Option Addr} {v0_1n : Nat} {v0_2 : Int} {v1 : Option Addr} {v1n : Nat} {v2 : Option Addr} {v2n : Nat} {h : AH} {r : Value × AH} (hx : (nw1 h 63 [(vL v0_0 v0_0n), (vL v0_1 v0_1n), (vI v0_2)] fun h1 =>
(((cell h1 (List.length h) 0).bind getS).bind fun l3 =>
(if (decide (((l3.2 : Nat) : Int) > (1000 : Int))) = true then
some (.inl ([some (vL v1 v1n), some (vL v2 v2n), some (vP (List.length h)), some (.bool true)], h1))
else
((cell h1 (List.length h) 1).bind getS).bind fun l4 =>
(if (decide (((l4.2 : Nat) : Int) > (1000 : Int))) = true then
some (.inl ([some (vL v1 v1n), some (vL v2 v2n), some (vP (List.length h)), some (.bool true)], h1))
else
((cell h1 (List.length h) 2).bind (getI .i64)).bind fun n5 =>
((cell h1 (List.length h) 1).bind getS).bind fun l6 =>
(run (Et base) 90 [(vI n5), (vI (0 : Int)), (vI ((l6.2 : Nat) : Int))] h1).bind fun r7 =>
((some r7.1).bind getB).bind fun b8 =>
(if (!b8) = true then
some (.inl ([some (vL v1 v1n), some (vL v2 v2n), some (vP (List.length h)), some (.bool true)], r7.2))
else
(run (Et base) 144 [(vL v1 v1n)] r7.2).bind fun r9 =>
((some r9.1).bind getB).bind fun b10 =>
some (.inl ([some (vL v1 v1n), some (vL v2 v2n), some (vP (List.length h)), some (.bool (!b10))], r9.2)))))).bind fun j2 => joinK j2 fun j2 =>
j_LLAB j2.1 fun l11 l12 d13 b14 =>
(if b14 = true then
some ((.bool false), j2.2)
else
(loopL (B95_0 base) [some (vL l11.1 l11.2), some (vL l12.1 l12.2), some (vA d13), some (vI (0 : Int))] j2.2).bind fun q15 =>
(if q15.1 = 1 then
((sget q15.2.1 0).bind getB).bind fun b16 =>
some ((.bool b16), q15.2.2)
else
(if q15.1 = 2 then
some ((.bool true), q15.2.2)
else
none)))) = some r) : run (Et base) 95 [(.agg #[(vL v0_0 v0_0n), (vL v0_1 v0_1n), (vI v0_2)]), (vL v1 v1n), (vL v2 v2n)] h = some r := run_i (an := a95) Try.func95 (by kernel_rfl) (.trans (by kernel_rfl) hx)
noncomputable def B96_0 (base : Nat) : Body := fun l h => lay s96_0 l fun s => exCode (Et base) (run (Et base)) loopL a96_0 (subC [1, 1, 1, 1, 0, 1, 0, 0] (bodyC Try.f96)) s h (keepK s96_0 e96_0)
theorem B96_0_eq (base : Nat) (v1 : Option Addr) (v1n : Nat) (v2 : Bool) (v6 : Addr) (v8 : Addr) (v9 : Option Addr) (v9n : Nat) (v10 : Int) (h : AH) : B96_0 base [some (vL v1 v1n), some (.bool v2), some (vA v6), some (vA v8), some (vL v9 v9n), some (vI v10)] h =
((if (decide (v10 < ((v1n : Nat) : Int))) = true then
(if 0 ≤ v10 ∧ v10 < ((v1n : Nat) : Int) then
((v1 : Option Addr)).bind fun a1 =>
((cell h a1.block (a1.off + Int.toNat v10 * 1)).bind (getI .i64)).bind fun n2 =>
(run (Et base) 147 [(.pointer (some v8)), (.int .i64 n2)] h).bind fun r3 =>
((some r3.1).bind (getI .i64)).bind fun n4 =>
(some (r3.2 ++ [some ⟨[(.int .i64 n4)], 3⟩])).bind fun h5 =>
(app base h5 3 1 8 v9 v9n (rawAt h5 (some ⟨(List.length r3.2), 0, none⟩) (1 * 1)) 1).bind fun p6 =>
((some p6.1).bind getS).bind fun l7 =>
some (0, [some (.slice v1 v1n v1n), some (.bool v2), some (.pointer (some v6)), some (.pointer (some v8)), some (.slice l7.1 l7.2 l7.2), some (.int .i64 (IntKind.wrap .i64 (v10 + (1 : Int))))], p6.2)
else none)
else
some (2, [some (.bool v2), some (.pointer (some v6)), some (.pointer (some v8)), some (.slice v9 v9n v9n)], h)) : Option (Nat × Slots × AH)) := by kernel_rfl
noncomputable abbrev qf96 (base : Nat) (v0_0 : Option Addr) (v0_0n : Nat) (v0_1 : Option Addr) (v0_1n : Nat) (v0_2 : Int) (v1 : Option Addr) (v1n : Nat) (v2 : Bool) (h : AH) : Option (Value × AH) :=
nw1 h 63 [(vL v0_0 v0_0n), (vL v0_1 v0_1n), (vI v0_2)] fun h1 =>
nw1 h1 63 [(vL none 0), (vL none 0), (vI 0)] fun h2 =>
c_LLI h2 (List.length h) 0 fun l3 l4 n5 =>
((cell h2 (List.length h) 0).bind getS).bind fun l6 =>
(run (Et base) 146 [(vI ((l6.2 : Nat) : Int))] h2).bind fun r7 =>
((some r7.1).bind getS).bind fun l8 =>
(gate (sameA h2 r7.2 (some ⟨(List.length h), 0, none⟩) 3)
((gate (sameA h2 r7.2 (some ⟨(List.length h), 1, none⟩) 1)
(((cell r7.2 (List.length h) 1).bind getS).bind fun l9 =>
(run (Et base) 146 [(vI ((l9.2 : Nat) : Int))] r7.2).bind fun r10 =>
((some r10.1).bind getS).bind fun l11 =>
(gate (sameA r7.2 r10.2 (some ⟨(List.length h), 0, none⟩) 3)
(nw1 r10.2 168 [(vL l3.1 l3.2), (vL l4.1 l4.2), (vI n5), (vL none 0), (vL none 0), (vI (0 : Int)), (vL l8.1 l8.2), (vL l11.1 l11.2), (.bool v2)] fun h12 =>
((if (!v2) = true then
nw1 h12 3 [] fun h14 =>
((cell h14 (List.length h) 0).bind getS).bind fun l15 =>
(app base h14 3 1 8 (some ⟨(List.length h12), 0, none⟩) 0 (rawAt h14 l15.1 (l15.2 * 1)) l15.2).bind fun p16 =>
((some p16.1).bind getS).bind fun l17 =>
(wr base p16.2 (List.length r10.2) 3 [(vL l17.1 l17.2)]).bind fun h18 =>
some (.inl ([some (vL v1 v1n), some (.bool v2), some (vP (List.length h1)), some (vP (List.length r10.2))], h18))
else
some (.inl ([some (vL v1 v1n), some (.bool v2), some (vP (List.length h1)), some (vP (List.length r10.2))], h12)))).bind fun j13 => joinK j13 fun j13 =>
j_LBAA j13.1 fun l19 b20 d21 d22 =>
nw1 j13.2 3 [] fun h23 =>
(loopL (B96_0 base) [some (vL l19.1 l19.2), some (.bool b20), some (vA d21), some (vA d22), some (vL (some ⟨(List.length j13.2), 0, none⟩) 0), some (vI (0 : Int))] h23).bind fun q24 =>
(if q24.1 = 2 then
j_BAAL q24.2.1 fun b25 d26 d27 l28 =>
((if (!b25) = true then
((cell q24.2.2 d27.block ((d27.off + 3) + 1)).bind getS).bind fun l30 =>
(wr base q24.2.2 d27.block ((d27.off + 3) + 2) [(vI ((l30.2 : Nat) : Int))]).bind fun h31 =>
some (.inl ([some (vA d26), some (vA d27), some (vL l28.1 l28.2)], h31))
else
some (.inl ([some (vA d26), some (vA d27), some (vL l28.1 l28.2)], q24.2.2)))).bind fun j29 => joinK j29 fun j29 =>
j_AAL j29.1 fun d32 d33 l34 =>
c_LLI j29.2 d33.block (d33.off + 3) fun l35 l36 n37 =>
(wr base j29.2 d32.block d32.off [(vL l35.1 l35.2), (vL l36.1 l36.2), (vI n37)]).bind fun h38 =>
c_LLI h38 d32.block d32.off fun l39 l40 n41 =>
some ((.tuple #[(.agg #[(vL l39.1 l39.2), (vL l40.1 l40.2), (vI n41)]), (vL l34.1 l34.2)]), h38)
else
none)))))))
theorem r96 {base : Nat} {v0_0 : Option Addr} {v0_0n : Nat} {v0_1 : Option Addr} {v0_1n : Nat} {v0_2 : Int} {v1 : Option Addr} {v1n : Nat} {v2 : Bool} {h : AH} {r : Value × AH} (hx : qf96 base v0_0 v0_0n v0_1 v0_1n v0_2 v1 v1n v2 h = some r) : run (Et base) 96 [(.agg #[(vL v0_0 v0_0n), (vL v0_1 v0_1n), (vI v0_2)]), (vL v1 v1n), (.bool v2)] h = some r := run_i (an := a96) Try.func96 (by kernel_rfl) (.trans (by kernel_rfl) hx)
noncomputable def B97_0 (base : Nat) : Body := fun l h => lay s97_0 l fun s => exCode (Et base) (run (Et base)) loopL a97_0 (subC [1, 1, 1, 1, 1, 1, 1, 1, 1, 1, 1, 1, 0, 1, 0, 0] (bodyC Try.f97)) s h (keepK s97_0 e97_0)
theorem B97_0_eq (base : Nat) (v0 : Option Addr) (v1 : Int) (v9 : Int) (v10 : Bool) (v12 : Int) (v110 : Int) (v111 : Int) (h : AH) : B97_0 base [some (.pointer v0), some (vI v1), some (vI v9), some (.bool v10), some (vI v12), some (vI v110), some (vI v111)] h =
((if (decide (v111 < v110)) = true then
(v0).bind fun a1 =>
(run (Et base) 149 [(vI v1)] h).bind fun r2 =>
((some r2.1).bind (getI .i64)).bind fun n3 =>
(run (Et base) 154 [(.pointer (some ⟨a1.block, (a1.off + 0), none⟩)), (vI (IntKind.wrap .i64 (n3 + v111)))] r2.2).bind fun r4 =>
(getTup 2 r4.1).bind fun l5 =>
l_IB l5 fun n6 b7 =>
(((run (Et base) 152 [(vI v1)] r4.2).bind fun r10 =>
((some r10.1).bind (getI .i64)).bind fun n11 =>
(if (n11 == (5 : Int)) = true then
some (.inl ([some (.pointer v0), some (vI v1), some (vI v9), some (.bool v10), some (vI v12), some (vI v111), some (vI n6), some (vI v110), some (vI v111), some (.bool true)], r10.2))
else
(run (Et base) 152 [(vI v1)] r10.2).bind fun r12 =>
((some r12.1).bind (getI .i64)).bind fun n13 =>
(if (n13 == (4 : Int)) = true then
some (.inl ([some (.pointer v0), some (vI v1), some (vI v9), some (.bool v10), some (vI v12), some (vI v111), some (vI n6), some (vI v110), some (vI v111), some (.bool (decide (v111 > (0 : Int))))], r12.2))
else
some (.inl ([some (.pointer v0), some (vI v1), some (vI v9), some (.bool v10), some (vI v12), some (vI v111), some (vI n6), some (vI v110), some (vI v111), some (.bool false)], r12.2))))).bind fun j9 => joinK j9 fun j9 =>
j_PIIBIIIIIB j9.1 fun p14 n15 n16 b17 n18 n19 n20 n21 n22 b23 =>
(if b23 = true then
(run (Et base) 97 [(.pointer p14), (vI n20)] j9.2).bind fun r24 =>
((some r24.1).bind (getI .i64)).bind fun n25 =>
some (.inl ([some (.pointer p14), some (vI n15), some (vI n16), some (.bool b17), some (vI n18), some (vI n19), some (vI n25), some (vI n21), some (vI n22)], r24.2))
else
some (.inl ([some (.pointer p14), some (vI n15), some (vI n16), some (.bool b17), some (vI n18), some (vI n19), some (vI n20), some (vI n21), some (vI n22)], j9.2)))).bind fun j8 => joinK j8 fun j8 =>
j_PIIBIIIII j8.1 fun p26 n27 n28 b29 n30 n31 n32 n33 n34 =>
(if b29 = true then
(p26).bind fun a35 =>
((cell j8.2 a35.block (a35.off + 4)).bind getS).bind fun l36 =>
(if 0 ≤ (IntKind.wrap .i64 (n28 + n31)) ∧ (IntKind.wrap .i64 (n28 + n31)) < ((l36.2 : Nat) : Int) then
((l36.1 : Option Addr)).bind fun a37 =>
(wr base j8.2 a37.block (a37.off + Int.toNat (IntKind.wrap .i64 (n28 + n31)) * 1) [(vI n32)]).bind fun h38 =>
some (0, [some (.pointer p26), some (vI n27), some (vI n28), some (.bool b29), some (vI n30), some (vI n33), some (vI (IntKind.wrap .i64 (n34 + (1 : Int))))], h38)
else none)
else
(p26).bind fun a39 =>
((cell j8.2 a39.block (a39.off + 5)).bind getS).bind fun l40 =>
(if 0 ≤ (IntKind.wrap .i64 (n28 + n31)) ∧ (IntKind.wrap .i64 (n28 + n31)) < ((l40.2 : Nat) : Int) then
((l40.1 : Option Addr)).bind fun a41 =>
(wr base j8.2 a41.block (a41.off + Int.toNat (IntKind.wrap .i64 (n28 + n31)) * 1) [(vI n32)]).bind fun h42 =>
some (0, [some (.pointer p26), some (vI n27), some (vI n28), some (.bool b29), some (vI n30), some (vI n33), some (vI (IntKind.wrap .i64 (n34 + (1 : Int))))], h42)
else none))
else
some (2, [some (vI v12)], h)) : Option (Nat × Slots × AH)) := by kernel_rfl
noncomputable abbrev qf97 (base : Nat) (v0 : Option Addr) (v1 : Int) (h : AH) : Option (Value × AH) :=
(v0).bind fun a1 =>
(run (Et base) 149 [(vI v1)] h).bind fun r2 =>
((some r2.1).bind (getI .i64)).bind fun n3 =>
(run (Et base) 148 [(.pointer (some ⟨a1.block, (a1.off + 0), none⟩)), (vI n3)] r2.2).bind fun r4 =>
((some r4.1).bind (getI .i64)).bind fun n5 =>
((run (Et base) 150 [(vI v1)] r4.2).bind fun r7 =>
((some r7.1).bind getB).bind fun b8 =>
(if (!b8) = true then
some (.inl ([some (.pointer v0), some (vI v1), some (vI n5), some (.bool true)], r7.2))
else
(if (n5 == (0 : Int)) = true then
(v0).bind fun a9 =>
((cell r7.2 a9.block (a9.off + 3)).bind getB).bind fun b10 =>
some (.inl ([some (.pointer v0), some (vI v1), some (vI n5), some (.bool (!b10))], r7.2))
else
some (.inl ([some (.pointer v0), some (vI v1), some (vI n5), some (.bool false)], r7.2))))).bind fun j6 => joinK j6 fun j6 =>
j_PIIB j6.1 fun p11 n12 n13 b14 =>
(if b14 = true then
some ((vI n12), j6.2)
else
(p11).bind fun a15 =>
((cell j6.2 a15.block (a15.off + 6)).bind getM).bind fun m16 =>
(run (Et base) 149 [(vI n12)] j6.2).bind fun r17 =>
((some r17.1).bind (getI .i64)).bind fun n18 =>
(gate (sameA j6.2 r17.2 (some ⟨a15.block, (a15.off + 6), none⟩) 1)
((mget r17.2 m16).bind fun w19 =>
(if (mfind w19 n18).isSome = true then
(run (Et base) 152 [(vI n12)] r17.2).bind fun r20 =>
((some r20.1).bind (getI .i64)).bind fun n21 =>
(run (Et base) 151 [(vI n21), (vI ((mfind w19 n18).getD 0))] r20.2).bind fun r22 =>
((some r22.1).bind (getI .i64)).bind fun n23 =>
some ((vI n23), r22.2)
else
(p11).bind fun a24 =>
(run (Et base) 153 [(.pointer (some ⟨a24.block, (a24.off + 0), none⟩)), (vI n12)] r17.2).bind fun r25 =>
((some r25.1).bind (getI .i64)).bind fun n26 =>
((p11).bind fun a28 =>
((cell r25.2 a28.block (a28.off + 3)).bind getB).bind fun b29 =>
(if b29 = true then
some (.inl ([some (.pointer p11), some (vI n12), some (vI n26), some (.bool true)], r25.2))
else
some (.inl ([some (.pointer p11), some (vI n12), some (vI n26), some (.bool (n13 == (1 : Int)))], r25.2)))).bind fun j27 => joinK j27 fun j27 =>
j_PIIB j27.1 fun p30 n31 n32 b33 =>
((if b33 = true then
(p30).bind fun a35 =>
((cell j27.2 a35.block (a35.off + 4)).bind getS).bind fun l36 =>
(p30).bind fun a37 =>
((cell j27.2 a37.block (a37.off + 4)).bind getS).bind fun l38 =>
(if 0 ≤ n32 ∧ n32 ≤ 140737488355328 then
(app base j27.2 3 1 8 l38.1 l38.2 (some (rep [(vI 0)] (Int.toNat n32))) (Int.toNat n32)).bind fun p39 =>
((some p39.1).bind getS).bind fun l40 =>
(p30).bind fun a41 =>
(wr base p39.2 a41.block (a41.off + 4) [(vL l40.1 l40.2)]).bind fun h42 =>
some (.inl ([some (.pointer p30), some (vI n31), some (vI n32), some (vI ((l36.2 : Nat) : Int)), some (.bool b33)], h42))
else none)
else
(p30).bind fun a43 =>
((cell j27.2 a43.block (a43.off + 5)).bind getS).bind fun l44 =>
(p30).bind fun a45 =>
((cell j27.2 a45.block (a45.off + 5)).bind getS).bind fun l46 =>
(if 0 ≤ n32 ∧ n32 ≤ 140737488355328 then
(app base j27.2 3 1 8 l46.1 l46.2 (some (rep [(vI 0)] (Int.toNat n32))) (Int.toNat n32)).bind fun p47 =>
((some p47.1).bind getS).bind fun l48 =>
(p30).bind fun a49 =>
(wr base p47.2 a49.block (a49.off + 5) [(vL l48.1 l48.2)]).bind fun h50 =>
some (.inl ([some (.pointer p30), some (vI n31), some (vI n32), some (vI ((l44.2 : Nat) : Int)), some (.bool b33)], h50))
else none))).bind fun j34 => joinK j34 fun j34 =>
j_PIIIB j34.1 fun p51 n52 n53 n54 b55 =>
((if (!b55) = true then
some (.inl ([some (.pointer p51), some (vI n52), some (vI n53), some (vI n54), some (.bool b55), some (vI (IntKind.wrap .i64 (n54 + (100000 : Int))))], j34.2))
else
some (.inl ([some (.pointer p51), some (vI n52), some (vI n53), some (vI n54), some (.bool b55), some (vI n54)], j34.2)))).bind fun j56 => joinK j56 fun j56 =>
j_PIIIBI j56.1 fun p57 n58 n59 n60 b61 n62 =>
(run (Et base) 152 [(vI n58)] j56.2).bind fun r63 =>
((some r63.1).bind (getI .i64)).bind fun n64 =>
(run (Et base) 151 [(vI n64), (vI n62)] r63.2).bind fun r65 =>
((some r65.1).bind (getI .i64)).bind fun n66 =>
(p57).bind fun a67 =>
((cell r65.2 a67.block (a67.off + 6)).bind getM).bind fun m68 =>
(run (Et base) 149 [(vI n58)] r65.2).bind fun r69 =>
((some r69.1).bind (getI .i64)).bind fun n70 =>
(gate (sameA r65.2 r69.2 (some ⟨a67.block, (a67.off + 6), none⟩) 1)
((mget r69.2 m68).bind fun w71 =>
(some (List.set r69.2 m68 (some (mblk (mput w71 n70 n62))))).bind fun h72 =>
(loopL (B97_0 base) [some (.pointer p57), some (vI n58), some (vI n60), some (.bool b61), some (vI n66), some (vI n59), some (vI (0 : Int))] h72).bind fun q73 =>
(if q73.1 = 2 then
((sget q73.2.1 0).bind (getI .i64)).bind fun n74 =>
some ((vI n74), q73.2.2)
else
none)))))))
theorem r97 {base : Nat} {v0 : Option Addr} {v1 : Int} {h : AH} {r : Value × AH} (hx : qf97 base v0 v1 h = some r) : run (Et base) 97 [(.pointer v0), (vI v1)] h = some r := run_i (an := a97) Try.func97 (by kernel_rfl) (.trans (by kernel_rfl) hx)
noncomputable def B107_0 (base : Nat) : Body := fun l h => lay s107_0 l fun s => exCode (Et base) (run (Et base)) loopL a107_0 (subC [1, 0, 1, 0, 0] (bodyC Try.f107)) s h (keepK s107_0 e107_0)
theorem B107_0_eq (base : Nat) (v0 : Option Addr) (v0n : Nat) (v5 : Option Addr) (v5n : Nat) (v6 : Int) (v7 : Int) (h : AH) : B107_0 base [some (vL v0 v0n), some (vL v5 v5n), some (vI v6), some (vI v7)] h =
((if (decide (v7 < v6)) = true then
(if 0 ≤ v7 ∧ v7 < ((v5n : Nat) : Int) then
((v5 : Option Addr)).bind fun a1 =>
((cell h a1.block (a1.off + Int.toNat v7 * 1)).bind getStr).bind fun s2 =>
((run (Et base) 158 [(vT s2)] h).bind fun r4 =>
((some r4.1).bind getB).bind fun b5 =>
(if (!b5) = true then
some (.inl ([some (vL v0 v0n), some (vL v5 v5n), some (vI v6), some (vI v7), some (.bool true)], r4.2))
else
(if 0 ≤ (0 : Int) ∧ (0 : Int) ≤ v7 ∧ v7 ≤ ((v0n : Nat) : Int) ∧ okTy base r4.2 v0 9 (Int.toNat (0 : Int)) = true then
(run (Et base) 159 [(.slice (shiftA v0 (Int.toNat (0 : Int) * 1)) (Int.toNat v7 - Int.toNat (0 : Int)) (Int.toNat v7 - Int.toNat (0 : Int))), (vT s2)] r4.2).bind fun r6 =>
((some r6.1).bind (getI .i64)).bind fun n7 =>
some (.inl ([some (vL v0 v0n), some (vL v5 v5n), some (vI v6), some (vI v7), some (.bool (decide (n7 ≥ (0 : Int))))], r6.2))
else none))).bind fun j3 => joinK j3 fun j3 =>
j_LLIIB j3.1 fun l8 l9 n10 n11 b12 =>
(if b12 = true then
some (1, [some (.bool false)], j3.2)
else
some (0, [some (vL l8.1 l8.2), some (vL l9.1 l9.2), some (vI n10), some (vI (IntKind.wrap .i64 (n11 + (1 : Int))))], j3.2))
else none)
else
some (2, [some (vL v0 v0n)], h)) : Option (Nat × Slots × AH)) := by kernel_rfl
theorem r107 {base : Nat} {v0 : Option Addr} {v0n : Nat} {h : AH} {r : Value × AH} (hx : ((loopL (B107_0 base) [some (.slice v0 v0n v0n), some (.slice v0 v0n v0n), some (.int .i64 ((v0n : Nat) : Int)), some (.int .i64 (0 : Int))] h).bind fun q1 =>
(if q1.1 = 1 then
((sget q1.2.1 0).bind getB).bind fun b2 =>
some ((.bool b2), q1.2.2)
else
(if q1.1 = 2 then
((sget q1.2.1 0).bind getS).bind fun l3 =>
some ((.bool (decide (((l3.2 : Nat) : Int) ≤ (200 : Int)))), q1.2.2)
else
none))) = some r) : run (Et base) 107 [(vL v0 v0n)] h = some r := run_i (an := a107) Try.func107 (by kernel_rfl) (.trans (by kernel_rfl) hx)
theorem r108 {base : Nat} {v0_0 : Option Addr} {v0_0n : Nat} {v0_1 : Option Addr} {v0_1n : Nat} {v0_2 : Int} {v1 : Option Addr} {v1n : Nat} {v2 : Int} {h : AH} {r : Value × AH} (hx : ((some (h ++ [some ⟨[(.slice v0_0 v0_0n v0_0n), (.slice v0_1 v0_1n v0_1n), (.int .i64 v0_2)], 63⟩])).bind fun h1 =>
(some (h1 ++ [some ⟨[(.int .i64 0), (.int .i64 0), (.string ⟨#[]⟩), (.slice none 0 0)], 42⟩])).bind fun h2 =>
(run (Et base) 160 [(.func (.func 154) #[(.pointer (some ⟨(List.length h), 0, none⟩))] #[]), (.slice v1 v1n v1n), (.int .i64 v2)] h2).bind fun r3 =>
(getTup 2 r3.1).bind fun l4 =>
((l4[0]?).bind (getAgg 4)).bind fun l5 =>
((l5[0]?).bind (getI .i64)).bind fun n6 =>
((l5[1]?).bind (getI .i64)).bind fun n7 =>
((l5[2]?).bind getStr).bind fun s8 =>
((l5[3]?).bind getS).bind fun l9 =>
((l4[1]?).bind getB).bind fun b10 =>
(wr base r3.2 (List.length h1) 0 [(.int .i64 n6), (.int .i64 n7), (.string s8), (.slice l9.1 l9.2 l9.2)]).bind fun h11 =>
((cell h11 (List.length h1) 0).bind (getI .i64)).bind fun n12 =>
((cell h11 (List.length h1) 1).bind (getI .i64)).bind fun n13 =>
((cell h11 (List.length h1) 2).bind getStr).bind fun s14 =>
((cell h11 (List.length h1) 3).bind getS).bind fun l15 =>
some ((.tuple #[(.agg #[(.int .i64 n12), (.int .i64 n13), (.string s14), (.slice l15.1 l15.2 l15.2)]), (.bool b10)]), h11)) = some r) : run (Et base) 108 [(.agg #[(vL v0_0 v0_0n), (vL v0_1 v0_1n), (vI v0_2)]), (vL v1 v1n), (vI v2)] h = some r := run_i (an := a108) Try.func108 (by kernel_rfl) (.trans (by kernel_rfl) hx)
noncomputable def B109_0 (base : Nat) : Body := fun l h => lay s109_0 l fun s => exCode (Et base) (run (Et base)) loopL a109_0 (subC [1, 1, 1, 0, 1, 0, 0] (bodyC Try.f109)) s h (keepK s109_0 e109_0)
theorem B109_0_eq (base : Nat) (v0 : Option Addr) (v5 : Int) (v17 : Option Addr) (v17n : Nat) (v18 : Int) (v19 : Int) (h : AH) : B109_0 base [some (.pointer v0), some (vI v5), some (vL v17 v17n), some (vI v18), some (vI v19)] h =
((if (decide (v19 < v18)) = true then
(if 0 ≤ v19 ∧ v19 < ((v17n : Nat) : Int) then
((v17 : Option Addr)).bind fun a1 =>
((cell h a1.block (a1.off + Int.toNat v19 * 1)).bind (getI .i64)).bind fun n2 =>
((run (Et base) 150 [(vI n2)] h).bind fun r4 =>
((some r4.1).bind getB).bind fun b5 =>
(if b5 = true then
(run (Et base) 149 [(vI n2)] r4.2).bind fun r6 =>
((some r6.1).bind (getI .i64)).bind fun n7 =>
(run (Et base) 148 [(.pointer v0), (vI n7)] r6.2).bind fun r8 =>
((some r8.1).bind (getI .i64)).bind fun n9 =>
(if (decide (n9 > v5)) = true then
some (.inl ([some (.pointer v0), some (vI v5), some (vL v17 v17n), some (vI v18), some (vI v19), some (.bool true)], r8.2))
else
(run (Et base) 109 [(.pointer v0), (vI n2)] r8.2).bind fun r10 =>
((some r10.1).bind getB).bind fun b11 =>
some (.inl ([some (.pointer v0), some (vI v5), some (vL v17 v17n), some (vI v18), some (vI v19), some (.bool (!b11))], r10.2)))
else
(run (Et base) 109 [(.pointer v0), (vI n2)] r4.2).bind fun r12 =>
((some r12.1).bind getB).bind fun b13 =>
some (.inl ([some (.pointer v0), some (vI v5), some (vL v17 v17n), some (vI v18), some (vI v19), some (.bool (!b13))], r12.2)))).bind fun j3 => joinK j3 fun j3 =>
j_PILIIB j3.1 fun p14 n15 l16 n17 n18 b19 =>
(if b19 = true then
some (1, [some (.bool false)], j3.2)
else
some (0, [some (.pointer p14), some (vI n15), some (vL l16.1 l16.2), some (vI n17), some (vI (IntKind.wrap .i64 (n18 + (1 : Int))))], j3.2))
else none)
else
some (2, [], h)) : Option (Nat × Slots × AH)) := by kernel_rfl
theorem r109 {base : Nat} {v0 : Option Addr} {v1 : Int} {h : AH} {r : Value × AH} (hx : ((run (Et base) 150 [(.int .i64 v1)] h).bind fun r1 =>
((some r1.1).bind getB).bind fun b2 =>
(if (!b2) = true then
some ((.bool true), r1.2)
else
(run (Et base) 149 [(.int .i64 v1)] r1.2).bind fun r3 =>
((some r3.1).bind (getI .i64)).bind fun n4 =>
(run (Et base) 148 [(.pointer v0), (.int .i64 n4)] r3.2).bind fun r5 =>
((some r5.1).bind (getI .i64)).bind fun n6 =>
(run (Et base) 161 [(.pointer v0), (.int .i64 v1)] r5.2).bind fun r7 =>
((some r7.1).bind getS).bind fun l8 =>
(loopL (B109_0 base) [some (.pointer v0), some (.int .i64 n6), some (.slice l8.1 l8.2 l8.2), some (.int .i64 ((l8.2 : Nat) : Int)), some (.int .i64 (0 : Int))] r7.2).bind fun q9 =>
(if q9.1 = 1 then
((sget q9.2.1 0).bind getB).bind fun b10 =>
some ((.bool b10), q9.2.2)
else
(if q9.1 = 2 then
some ((.bool true), q9.2.2)
else
none)))) = some r) : run (Et base) 109 [(.pointer v0), (vI v1)] h = some r := run_i (an := a109) Try.func109 (by kernel_rfl) (.trans (by kernel_rfl) hx)
theorem r111 {base : Nat} {v0_0 : Option Addr} {v0_0n : Nat} {v0_1 : Option Addr} {v0_1n : Nat} {v0_2 : Int} {v1 : Option Addr} {v1n : Nat} {v2 : Int} {h : AH} {r : Value × AH} (hx : (nw1 h 63 [(vL v0_0 v0_0n), (vL v0_1 v0_1n), (vI v0_2)] fun h1 =>
nw1 h1 42 [(vI 0), (vI 0), (vT ⟨#[]⟩), (vL none 0)] fun h2 =>
c_LLI h2 (List.length h) 0 fun l3 l4 n5 =>
nw1 h2 181 [(vL l3.1 l3.2), (vL l4.1 l4.2), (vI n5), (vL v1 v1n), (vI (100 : Int)), (.bool false)] fun h6 =>
(run (Et base) 162 [(vP (List.length h2)), (vI v2), (vI (6 : Int))] h6).bind fun r7 =>
gG (some r7.1) 4 fun l8 =>
l_IITL l8 fun n9 n10 s11 l12 =>
nw1 r7.2 42 [(vI 0), (vI 0), (vT ⟨#[]⟩), (vL none 0)] fun h13 =>
(wr base h13 (List.length r7.2) 0 [(vI n9), (vI n10), (vT s11), (vL l12.1 l12.2)]).bind fun h14 =>
(((cell h14 (List.length h2) 5).bind getB).bind fun b16 =>
(if b16 = true then
some (.inl ([some (vP (List.length h1)), some (vP (List.length r7.2)), some (.bool true)], h14))
else
c_IITL h14 (List.length r7.2) 0 fun n17 n18 s19 l20 =>
(run (Et base) 58 [(.agg #[(vI n17), (vI n18), (vT s19), (vL l20.1 l20.2)])] h14).bind fun r21 =>
((some r21.1).bind getB).bind fun b22 =>
some (.inl ([some (vP (List.length h1)), some (vP (List.length r7.2)), some (.bool (!b22))], r21.2)))).bind fun j15 => joinK j15 fun j15 =>
j_AAB j15.1 fun d23 d24 b25 =>
(if b25 = true then
(wr base j15.2 d23.block d23.off [(vI (0 : Int)), (vI (0 : Int)), (vT (⟨#[]⟩ : ByteArray)), (vL none 0)]).bind fun h26 =>
c_IITL h26 d23.block d23.off fun n27 n28 s29 l30 =>
some ((.tuple #[(.agg #[(vI n27), (vI n28), (vT s29), (vL l30.1 l30.2)]), (.bool false)]), h26)
else
c_IITL j15.2 d24.block d24.off fun n31 n32 s33 l34 =>
(wr base j15.2 d23.block d23.off [(vI n31), (vI n32), (vT s33), (vL l34.1 l34.2)]).bind fun h35 =>
c_IITL h35 d23.block d23.off fun n36 n37 s38 l39 =>
some ((.tuple #[(.agg #[(vI n36), (vI n37), (vT s38), (vL l39.1 l39.2)]), (.bool true)]), h35))) = some r) : run (Et base) 111 [(.agg #[(vL v0_0 v0_0n), (vL v0_1 v0_1n), (vI v0_2)]), (vL v1 v1n), (vI v2)] h = some r := run_i (an := a111) Try.func111 (by kernel_rfl) (.trans (by kernel_rfl) hx)
noncomputable def B117_0 (base : Nat) : Body := fun l h => lay s117_0 l fun s => exCode (Et base) (run (Et base)) loopL a117_0 (subC [1, 1, 1, 0, 1, 0, 0] (bodyC Try.f117)) s h (keepK s117_0 e117_0)
theorem B117_0_eq (base : Nat) (v1 : Int) (v2 : Int) (v3 : Addr) (v7 : Int) (h : AH) : B117_0 base [some (vI v1), some (vI v2), some (vA v3), some (vI v7)] h =
((((cell h v3.block (v3.off + 3)).bind getS).bind fun l2 =>
(if (decide (v7 < ((l2.2 : Nat) : Int))) = true then
some (.inl ([some (vI v1), some (vI v2), some (vA v3), some (vI v7), some (.bool (decide (v2 ≥ (0 : Int))))], h))
else
some (.inl ([some (vI v1), some (vI v2), some (vA v3), some (vI v7), some (.bool false)], h)))).bind fun j1 => joinK j1 fun j1 =>
j_IIAIB j1.1 fun n3 n4 d5 n6 b7 =>
(if b7 = true then
((cell j1.2 d5.block (d5.off + 3)).bind getS).bind fun l8 =>
(if 0 ≤ n6 ∧ n6 < ((l8.2 : Nat) : Int) then
((l8.1 : Option Addr)).bind fun a9 =>
c_IITL j1.2 a9.block (a9.off + Int.toNat n6 * 4) fun n10 n11 s12 l13 =>
(run (Et base) 117 [(.agg #[(vI n10), (vI n11), (vT s12), (vL l13.1 l13.2)]), (vI (IntKind.wrap .i64 (n3 - (1 : Int)))), (vI n4)] j1.2).bind fun r14 =>
((some r14.1).bind (getI .i64)).bind fun n15 =>
some (0, [some (vI n3), some (vI n15), some (vA d5), some (vI (IntKind.wrap .i64 (n6 + (1 : Int))))], r14.2)
else none)
else
some (2, [some (vI n4)], j1.2)) : Option (Nat × Slots × AH)) := by kernel_rfl
theorem r117 {base : Nat} {v0_0 : Int} {v0_1 : Int} {v0_2 : ByteArray} {v0_3 : Option Addr} {v0_3n : Nat} {v1 : Int} {v2 : Int} {h : AH} {r : Value × AH} (hx : (nw1 h 42 [(vI v0_0), (vI v0_1), (vT v0_2), (vL v0_3 v0_3n)] fun h1 =>
((if (decide (v1 < (1 : Int))) = true then
some (.inl ([some (vI v1), some (vI v2), some (vP (List.length h)), some (.bool true)], h1))
else
(if (decide (v2 < (1 : Int))) = true then
some (.inl ([some (vI v1), some (vI v2), some (vP (List.length h)), some (.bool true)], h1))
else
c_IITL h1 (List.length h) 0 fun n3 n4 s5 l6 =>
(run (Et base) 164 [(.agg #[(vI n3), (vI n4), (vT s5), (vL l6.1 l6.2)])] h1).bind fun r7 =>
((some r7.1).bind getB).bind fun b8 =>
some (.inl ([some (vI v1), some (vI v2), some (vP (List.length h)), some (.bool (!b8))], r7.2))))).bind fun j2 => joinK j2 fun j2 =>
j_IIAB j2.1 fun n9 n10 d11 b12 =>
(if b12 = true then
some ((vI (-1 : Int)), j2.2)
else
(loopL (B117_0 base) [some (vI n9), some (vI (IntKind.wrap .i64 (n10 - (1 : Int)))), some (vA d11), some (vI (0 : Int))] j2.2).bind fun q13 =>
(if q13.1 = 2 then
((sget q13.2.1 0).bind (getI .i64)).bind fun n14 =>
some ((vI n14), q13.2.2)
else
none))) = some r) : run (Et base) 117 [(.agg #[(vI v0_0), (vI v0_1), (vT v0_2), (vL v0_3 v0_3n)]), (vI v1), (vI v2)] h = some r := run_i (an := a117) Try.func117 (by kernel_rfl) (.trans (by kernel_rfl) hx)
noncomputable def B124_0 (base : Nat) : Body := fun l h => lay s124_0 l fun s => exCode (Et base) (run (Et base)) loopL a124_0 (subC [1, 1, 1, 0, 1, 0, 0] (bodyC Try.f124)) s h (keepK s124_0 e124_0)
theorem B124_0_eq (base : Nat) (v1 : Int) (v2 : Int) (v27 : Option Addr) (v27n : Nat) (v28 : Int) (v29 : Int) (h : AH) : B124_0 base [some (vI v1), some (vI v2), some (vL v27 v27n), some (vI v28), some (vI v29)] h =
((if (decide (v29 < v28)) = true then
(if 0 ≤ v29 ∧ v29 < ((v27n : Nat) : Int) then
((v27 : Option Addr)).bind fun a1 =>
c_IITL h a1.block (a1.off + Int.toNat v29 * 4) fun n2 n3 s4 l5 =>
nw1 h 42 [(vI 0), (vI 0), (vT ⟨#[]⟩), (vL none 0)] fun h6 =>
(wr base h6 (List.length h) 0 [(vI n2), (vI n3), (vT s4), (vL l5.1 l5.2)]).bind fun h7 =>
c_IITL h7 (List.length h) 0 fun n8 n9 s10 l11 =>
(run (Et base) 124 [(.agg #[(vI n8), (vI n9), (vT s10), (vL l11.1 l11.2)]), (vI (IntKind.wrap .i64 (v1 + (1 : Int)))), (vI v2)] h7).bind fun r12 =>
(getTup 2 r12.1).bind fun l13 =>
l_IB l13 fun n14 b15 =>
(if (!b15) = true then
some (1, [some (vI n14), some (.bool false)], r12.2)
else
some (0, [some (vI v1), some (vI n14), some (vL v27 v27n), some (vI v28), some (vI (IntKind.wrap .i64 (v29 + (1 : Int))))], r12.2))
else none)
else
some (2, [some (vI v2)], h)) : Option (Nat × Slots × AH)) := by kernel_rfl
theorem r124 {base : Nat} {v0_0 : Int} {v0_1 : Int} {v0_2 : ByteArray} {v0_3 : Option Addr} {v0_3n : Nat} {v1 : Int} {v2 : Int} {h : AH} {r : Value × AH} (hx : (nw1 h 42 [(vI v0_0), (vI v0_1), (vT v0_2), (vL v0_3 v0_3n)] fun h1 =>
((if (decide (v1 > (6 : Int))) = true then
some (.inl ([some (vI v1), some (vI (IntKind.wrap .i64 (v2 + (1 : Int)))), some (vP (List.length h)), some (.bool true)], h1))
else
(if (decide ((IntKind.wrap .i64 (v2 + (1 : Int))) > (100 : Int))) = true then
some (.inl ([some (vI v1), some (vI (IntKind.wrap .i64 (v2 + (1 : Int)))), some (vP (List.length h)), some (.bool true)], h1))
else
c_IITL h1 (List.length h) 0 fun n3 n4 s5 l6 =>
(run (Et base) 166 [(.agg #[(vI n3), (vI n4), (vT s5), (vL l6.1 l6.2)])] h1).bind fun r7 =>
((some r7.1).bind getB).bind fun b8 =>
some (.inl ([some (vI v1), some (vI (IntKind.wrap .i64 (v2 + (1 : Int)))), some (vP (List.length h)), some (.bool (!b8))], r7.2))))).bind fun j2 => joinK j2 fun j2 =>
j_IIAB j2.1 fun n9 n10 d11 b12 =>
(if b12 = true then
some ((.tuple #[(vI n10), (.bool false)]), j2.2)
else
((cell j2.2 d11.block (d11.off + 3)).bind getS).bind fun l13 =>
(loopL (B124_0 base) [some (vI n9), some (vI n10), some (vL l13.1 l13.2), some (vI ((l13.2 : Nat) : Int)), some (vI (0 : Int))] j2.2).bind fun q14 =>
(if q14.1 = 1 then
j_IB q14.2.1 fun n15 b16 =>
some ((.tuple #[(vI n15), (.bool b16)]), q14.2.2)
else
(if q14.1 = 2 then
((sget q14.2.1 0).bind (getI .i64)).bind fun n17 =>
some ((.tuple #[(vI n17), (.bool true)]), q14.2.2)
else
none)))) = some r) : run (Et base) 124 [(.agg #[(vI v0_0), (vI v0_1), (vT v0_2), (vL v0_3 v0_3n)]), (vI v1), (vI v2)] h = some r := run_i (an := a124) Try.func124 (by kernel_rfl) (.trans (by kernel_rfl) hx)
noncomputable def B144_0 (base : Nat) : Body := fun l h => lay s144_0 l fun s => exCode (Et base) (run (Et base)) loopL a144_0 (subC [1, 0, 1, 0, 0] (bodyC Try.f144)) s h (keepK s144_0 e144_0)
theorem B144_0_eq (base : Nat) (v0 : Option Addr) (v0n : Nat) (v3 : Int) (h : AH) : B144_0 base [some (vL v0 v0n), some (vI v3)] h =
((if (decide (v3 < ((v0n : Nat) : Int))) = true then
((if 0 ≤ v3 ∧ v3 < ((v0n : Nat) : Int) then
((v0 : Option Addr)).bind fun a2 =>
((cell h a2.block (a2.off + Int.toNat v3 * 1)).bind getStr).bind fun s3 =>
(run (Et base) 183 [(.string s3)] h).bind fun r4 =>
((some r4.1).bind getB).bind fun b5 =>
(if (!b5) = true then
some (.inl ([some (.slice v0 v0n v0n), some (.int .i64 v3), some (.bool true)], r4.2))
else
(if 0 ≤ v3 ∧ v3 < ((v0n : Nat) : Int) then
((v0 : Option Addr)).bind fun a6 =>
((cell r4.2 a6.block (a6.off + Int.toNat v3 * 1)).bind getStr).bind fun s7 =>
(run (Et base) 185 [(.slice v0 v0n v0n), (.string s7)] r4.2).bind fun r8 =>
((some r8.1).bind (getI .i64)).bind fun n9 =>
some (.inl ([some (.slice v0 v0n v0n), some (.int .i64 v3), some (.bool (n9 != v3))], r8.2))
else none))
else none)).bind fun j1 => joinK j1 fun j1 =>
((sget j1.1 0).bind getS).bind fun l10 =>
((sget (j1.1.tail) 0).bind (getI .i64)).bind fun n11 =>
((sget (j1.1.tail.tail) 0).bind getB).bind fun b12 =>
(if b12 = true then
some (1, [some (.bool false)], j1.2)
else
some (0, [some (.slice l10.1 l10.2 l10.2), some (.int .i64 (IntKind.wrap .i64 (n11 + (1 : Int))))], j1.2))
else
some (2, [some (.slice v0 v0n v0n)], h)) : Option (Nat × Slots × AH)) := by kernel_rfl
theorem r144 {base : Nat} {v0 : Option Addr} {v0n : Nat} {h : AH} {r : Value × AH} (hx : ((loopL (B144_0 base) [some (.slice v0 v0n v0n), some (.int .i64 (0 : Int))] h).bind fun q1 =>
(if q1.1 = 1 then
((sget q1.2.1 0).bind getB).bind fun b2 =>
some ((.bool b2), q1.2.2)
else
(if q1.1 = 2 then
((sget q1.2.1 0).bind getS).bind fun l3 =>
some ((.bool (decide (((l3.2 : Nat) : Int) ≤ (200 : Int)))), q1.2.2)
else
none))) = some r) : run (Et base) 144 [(vL v0 v0n)] h = some r := run_i (an := a144) Try.func144 (by kernel_rfl) (.trans (by kernel_rfl) hx)
noncomputable def B145_0 (base : Nat) : Body := fun l h => lay s145_0 l fun s => exCode (Et base) (run (Et base)) loopL a145_0 (subC [1, 1, 1, 1, 1, 1, 1, 1, 1, 0, 1, 0, 0] (bodyC Try.f145)) s h (keepK s145_0 e145_0)
theorem B145_0_eq (base : Nat) (v1 : Int) (v2 : Int) (v3 : Addr) (v9 : Option Addr) (v9n : Nat) (v12 : Int) (h : AH) : B145_0 base [some (vI v1), some (vI v2), some (vA v3), some (vL v9 v9n), some (vI v12)] h =
(((if (decide (v12 < ((v9n : Nat) : Int))) = true then
(run (Et base) 189 [(vI v1)] h).bind fun r2 =>
((some r2.1).bind (getI .i64)).bind fun n3 =>
some (.inl ([some (vI v1), some (vI v2), some (vA v3), some (vL v9 v9n), some (vI v12), some (.bool (n3 != (6 : Int)))], r2.2))
else
some (.inl ([some (vI v1), some (vI v2), some (vA v3), some (vL v9 v9n), some (vI v12), some (.bool false)], h)))).bind fun j1 => joinK j1 fun j1 =>
j_IIALIB j1.1 fun n4 n5 d6 l7 n8 b9 =>
(if b9 = true then
c_LLI j1.2 d6.block d6.off fun l10 l11 n12 =>
(if 0 ≤ n8 ∧ n8 < ((l7.2 : Nat) : Int) then
((l7.1 : Option Addr)).bind fun a13 =>
((cell j1.2 a13.block (a13.off + Int.toNat n8 * 1)).bind (getI .i64)).bind fun n14 =>
(run (Et base) 145 [(.agg #[(vL l10.1 l10.2), (vL l11.1 l11.2), (vI n12)]), (vI n14), (vI n5)] j1.2).bind fun r15 =>
((some r15.1).bind getB).bind fun b16 =>
(if (!b16) = true then
some (1, [some (.bool false)], r15.2)
else
some (0, [some (vI n4), some (vI n5), some (vA d6), some (vL l7.1 l7.2), some (vI (IntKind.wrap .i64 (n8 + (1 : Int))))], r15.2))
else none)
else
some (2, [], j1.2)) : Option (Nat × Slots × AH)) := by kernel_rfl
noncomputable abbrev qf145 (base : Nat) (v0_0 : Option Addr) (v0_0n : Nat) (v0_1 : Option Addr) (v0_1n : Nat) (v0_2 : Int) (v1 : Int) (v2 : Int) (h : AH) : Option (Value × AH) :=
nw1 h 63 [(vL v0_0 v0_0n), (vL v0_1 v0_1n), (vI v0_2)] fun h1 =>
c_LLI h1 (List.length h) 0 fun l2 l3 n4 =>
(run (Et base) 186 [(.agg #[(vL l2.1 l2.2), (vL l3.1 l3.2), (vI n4)]), (vI v1)] h1).bind fun r5 =>
((some r5.1).bind (getI .i64)).bind fun n6 =>
(if (n6 == (0 : Int)) = true then
some ((.bool true), r5.2)
else
(run (Et base) 187 [(vI v1)] r5.2).bind fun r7 =>
((some r7.1).bind (getI .i64)).bind fun n8 =>
(if (decide (n8 ≥ v2)) = true then
some ((.bool false), r7.2)
else
((if (decide (n8 < (100000 : Int))) = true then
some (.inl ([some (vI v1), some (vI (100000 : Int)), some (vP (List.length h)), some (vI n6), some (vI n8)], r7.2))
else
(((cell r7.2 (List.length h) 2).bind (getI .i64)).bind fun n11 =>
(if (decide (n8 < (IntKind.wrap .i64 ((100000 : Int) + n11)))) = true then
((cell r7.2 (List.length h) 2).bind (getI .i64)).bind fun n12 =>
some (.inl ([some (vI v1), some (vI v2), some (vP (List.length h)), some (vI n6), some (vI n8), some (.bool (decide (v2 > (IntKind.wrap .i64 ((100000 : Int) + n12)))))], r7.2))
else
some (.inl ([some (vI v1), some (vI v2), some (vP (List.length h)), some (vI n6), some (vI n8), some (.bool false)], r7.2)))).bind fun j10 => joinK j10 fun j10 =>
j_IIAIIB j10.1 fun n13 n14 d15 n16 n17 b18 =>
(if b18 = true then
((cell j10.2 d15.block (d15.off + 2)).bind (getI .i64)).bind fun n19 =>
some (.inl ([some (vI n13), some (vI (IntKind.wrap .i64 ((100000 : Int) + n19))), some (vA d15), some (vI n16), some (vI n17)], j10.2))
else
some (.inl ([some (vI n13), some (vI n14), some (vA d15), some (vI n16), some (vI n17)], j10.2))))).bind fun j9 => joinK j9 fun j9 =>
j_IIAII j9.1 fun n20 n21 d22 n23 n24 =>
c_LLI j9.2 d22.block d22.off fun l25 l26 n27 =>
(run (Et base) 188 [(.agg #[(vL l25.1 l25.2), (vL l26.1 l26.2), (vI n27)]), (vI n24), (vI n23)] j9.2).bind fun r28 =>
(getTup 2 r28.1).bind fun l29 =>
l_LB l29 fun l30 b31 =>
((run (Et base) 189 [(vI n20)] r28.2).bind fun r33 =>
((some r33.1).bind (getI .i64)).bind fun n34 =>
(if (n34 != (5 : Int)) = true then
some (.inl ([some (vI n20), some (vI n21), some (vA d22), some (vL l30.1 l30.2), some (vI (1 : Int))], r33.2))
else
some (.inl ([some (vI n20), some (vI n21), some (vA d22), some (vL l30.1 l30.2), some (vI (0 : Int))], r33.2)))).bind fun j32 => joinK j32 fun j32 =>
j_IIALI j32.1 fun n35 n36 d37 l38 n39 =>
(loopL (B145_0 base) [some (vI n35), some (vI n36), some (vA d37), some (vL l38.1 l38.2), some (vI n39)] j32.2).bind fun q40 =>
(if q40.1 = 1 then
((sget q40.2.1 0).bind getB).bind fun b41 =>
some ((.bool b41), q40.2.2)
else
(if q40.1 = 2 then
some ((.bool true), q40.2.2)
else
none))))
theorem r145 {base : Nat} {v0_0 : Option Addr} {v0_0n : Nat} {v0_1 : Option Addr} {v0_1n : Nat} {v0_2 : Int} {v1 : Int} {v2 : Int} {h : AH} {r : Value × AH} (hx : qf145 base v0_0 v0_0n v0_1 v0_1n v0_2 v1 v2 h = some r) : run (Et base) 145 [(.agg #[(vL v0_0 v0_0n), (vL v0_1 v0_1n), (vI v0_2)]), (vI v1), (vI v2)] h = some r := run_i (an := a145) Try.func145 (by kernel_rfl) (.trans (by kernel_rfl) hx)
noncomputable def B146_0 (base : Nat) : Body := fun l h => lay s146_0 l fun s => exCode (Et base) (run (Et base)) loopL a146_0 (subC [1, 1, 0, 1, 0, 0] (bodyC Try.f146)) s h (keepK s146_0 e146_0)
theorem B146_0_eq (base : Nat) (v0 : Int) (v3 : Option Addr) (v3n : Nat) (v4 : Int) (h : AH) : B146_0 base [some (vI v0), some (vL v3 v3n), some (vI v4)] h =
((if (decide (v4 < v0)) = true then
(if 0 ≤ v4 ∧ v4 < ((v3n : Nat) : Int) then
((v3 : Option Addr)).bind fun a1 =>
(wr base h a1.block (a1.off + Int.toNat v4 * 1) [(.int .i64 (-1 : Int))]).bind fun h2 =>
some (0, [some (.int .i64 v0), some (.slice v3 v3n v3n), some (.int .i64 (IntKind.wrap .i64 (v4 + (1 : Int))))], h2)
else none)
else
some (2, [some (.slice v3 v3n v3n)], h)) : Option (Nat × Slots × AH)) := by kernel_rfl
theorem r146 {base : Nat} {v0 : Int} {h : AH} {r : Value × AH} (hx : ((if v0 = v0 ∧ 0 ≤ v0 ∧ v0 * 8 ≤ 140737488355328 ∧ v0 ≤ 140737488355328 then
(some (h ++ [some ⟨rep [(.int .i64 0)] (Int.toNat v0), 3⟩])).bind fun h1 =>
(loopL (B146_0 base) [some (.int .i64 v0), some (.slice (some ⟨(List.length h), 0, none⟩) (Int.toNat v0) (Int.toNat v0)), some (.int .i64 (0 : Int))] h1).bind fun q2 =>
(if q2.1 = 2 then
((sget q2.2.1 0).bind getS).bind fun l3 =>
some ((.slice l3.1 l3.2 l3.2), q2.2.2)
else
none)
else none)) = some r) : run (Et base) 146 [(vI v0)] h = some r := run_i (an := a146) Try.func146 (by kernel_rfl) (.trans (by kernel_rfl) hx)
noncomputable def B147_0 (base : Nat) : Body := fun l h => lay s147_0 l fun s => exCode (Et base) (run (Et base)) loopL a147_0 (subC [1, 1, 1, 1, 1, 1, 1, 1, 1, 1, 1, 1, 1, 1, 0, 1, 0, 0] (bodyC Try.f147)) s h (keepK s147_0 e147_0)
theorem B147_0_eq (base : Nat) (v0 : Option Addr) (v1 : Int) (v5 : Int) (v7 : Option Addr) (v7n : Nat) (v8 : Int) (v9 : Option Addr) (v9n : Nat) (v11 : Bool) (v12 : Int) (v14 : Int) (h : AH) : B147_0 base [some (.pointer v0), some (vI v1), some (vI v5), some (vL v7 v7n), some (vI v8), some (vL v9 v9n), some (.bool v11), some (vI v12), some (vI v14)] h =
(((if (decide (v14 < v5)) = true then
(run (Et base) 189 [(vI v1)] h).bind fun r2 =>
((some r2.1).bind (getI .i64)).bind fun n3 =>
some (.inl ([some (.pointer v0), some (vI v1), some (vI v5), some (vL v7 v7n), some (vI v8), some (vL v9 v9n), some (.bool v11), some (vI v12), some (vI v14), some (.bool (n3 != (6 : Int)))], r2.2))
else
some (.inl ([some (.pointer v0), some (vI v1), some (vI v5), some (vL v7 v7n), some (vI v8), some (vL v9 v9n), some (.bool v11), some (vI v12), some (vI v14), some (.bool false)], h)))).bind fun j1 => joinK j1 fun j1 =>
j_PIILILBIIB j1.1 fun p4 n5 n6 l7 n8 l9 b10 n11 n12 b13 =>
(if b13 = true then
((if 0 ≤ n12 ∧ n12 < ((l9.2 : Nat) : Int) then
((l9.1 : Option Addr)).bind fun a15 =>
((cell j1.2 a15.block (a15.off + Int.toNat n12 * 1)).bind (getI .i64)).bind fun n16 =>
(run (Et base) 147 [(.pointer p4), (vI n16)] j1.2).bind fun r17 =>
((some r17.1).bind (getI .i64)).bind fun n18 =>
(if b10 = true then
(p4).bind fun a19 =>
((cell r17.2 a19.block ((a19.off + 3) + 0)).bind getS).bind fun l20 =>
(if 0 ≤ (IntKind.wrap .i64 (n11 + n12)) ∧ (IntKind.wrap .i64 (n11 + n12)) < ((l20.2 : Nat) : Int) then
((l20.1 : Option Addr)).bind fun a21 =>
(wr base r17.2 a21.block (a21.off + Int.toNat (IntKind.wrap .i64 (n11 + n12)) * 1) [(vI n18)]).bind fun h22 =>
some (.inl ([some (.pointer p4), some (vI n5), some (vI n6), some (vL l7.1 l7.2), some (vI n8), some (vL l9.1 l9.2), some (.bool b10), some (vI n11), some (vI n12)], h22))
else none)
else
(p4).bind fun a23 =>
((cell r17.2 a23.block ((a23.off + 3) + 1)).bind getS).bind fun l24 =>
(if 0 ≤ (IntKind.wrap .i64 (n11 + n12)) ∧ (IntKind.wrap .i64 (n11 + n12)) < ((l24.2 : Nat) : Int) then
((l24.1 : Option Addr)).bind fun a25 =>
(wr base r17.2 a25.block (a25.off + Int.toNat (IntKind.wrap .i64 (n11 + n12)) * 1) [(vI n18)]).bind fun h26 =>
some (.inl ([some (.pointer p4), some (vI n5), some (vI n6), some (vL l7.1 l7.2), some (vI n8), some (vL l9.1 l9.2), some (.bool b10), some (vI n11), some (vI n12)], h26))
else none))
else none)).bind fun j14 => joinK j14 fun j14 =>
j_PIILILBII j14.1 fun p27 n28 n29 l30 n31 l32 b33 n34 n35 =>
some (0, [some (.pointer p27), some (vI n28), some (vI n29), some (vL l30.1 l30.2), some (vI n31), some (vL l32.1 l32.2), some (.bool b33), some (vI n34), some (vI (IntKind.wrap .i64 (n35 + (1 : Int))))], j14.2)
else
some (2, [some (vI n5), some (vL l7.1 l7.2), some (vI n8)], j1.2)) : Option (Nat × Slots × AH)) := by kernel_rfl
noncomputable abbrev qf147 (base : Nat) (v0 : Option Addr) (v1 : Int) (h : AH) : Option (Value × AH) :=
(v0).bind fun a1 =>
c_LLI h a1.block (a1.off + 0) fun l2 l3 n4 =>
(run (Et base) 186 [(.agg #[(vL l2.1 l2.2), (vL l3.1 l3.2), (vI n4)]), (vI v1)] h).bind fun r5 =>
((some r5.1).bind (getI .i64)).bind fun n6 =>
(run (Et base) 187 [(vI v1)] r5.2).bind fun r7 =>
((some r7.1).bind (getI .i64)).bind fun n8 =>
((if (n6 == (0 : Int)) = true then
some (.inl ([some (.pointer v0), some (vI v1), some (vI n6), some (vI n8), some (.bool true)], r7.2))
else
(if (decide (n8 < (100000 : Int))) = true then
(v0).bind fun a10 =>
((cell r7.2 a10.block (a10.off + 8)).bind getB).bind fun b11 =>
some (.inl ([some (.pointer v0), some (vI v1), some (vI n6), some (vI n8), some (.bool (!b11))], r7.2))
else
some (.inl ([some (.pointer v0), some (vI v1), some (vI n6), some (vI n8), some (.bool false)], r7.2))))).bind fun j9 => joinK j9 fun j9 =>
j_PIIIB j9.1 fun p12 n13 n14 n15 b16 =>
(if b16 = true then
some ((vI n13), j9.2)
else
(run (Et base) 190 [(.pointer p12), (vI n15)] j9.2).bind fun r17 =>
(getTup 2 r17.1).bind fun l18 =>
l_LI l18 fun l19 n20 =>
(if 0 ≤ n20 ∧ n20 < ((l19.2 : Nat) : Int) then
((l19.1 : Option Addr)).bind fun a21 =>
((cell r17.2 a21.block (a21.off + Int.toNat n20 * 1)).bind (getI .i64)).bind fun n22 =>
(if (decide (n22 ≥ (0 : Int))) = true then
(run (Et base) 189 [(vI n13)] r17.2).bind fun r23 =>
((some r23.1).bind (getI .i64)).bind fun n24 =>
(if 0 ≤ n20 ∧ n20 < ((l19.2 : Nat) : Int) then
((l19.1 : Option Addr)).bind fun a25 =>
(gate (sameA r17.2 r23.2 (some ⟨a25.block, (a25.off + Int.toNat n20 * 1), none⟩) 1)
(((cell r23.2 a25.block (a25.off + Int.toNat n20 * 1)).bind (getI .i64)).bind fun n26 =>
(run (Et base) 191 [(vI n24), (vI n26)] r23.2).bind fun r27 =>
((some r27.1).bind (getI .i64)).bind fun n28 =>
some ((vI n28), r27.2)))
else none)
else
(p12).bind fun a29 =>
c_LLI r17.2 a29.block (a29.off + 0) fun l30 l31 n32 =>
(run (Et base) 188 [(.agg #[(vL l30.1 l30.2), (vL l31.1 l31.2), (vI n32)]), (vI n15), (vI n14)] r17.2).bind fun r33 =>
(getTup 2 r33.1).bind fun l34 =>
l_LB l34 fun l35 b36 =>
((p12).bind fun a38 =>
((cell r33.2 a38.block (a38.off + 8)).bind getB).bind fun b39 =>
(if b39 = true then
some (.inl ([some (.pointer p12), some (vI n13), some (vI n14), some (vL l19.1 l19.2), some (vI n20), some (vL l35.1 l35.2), some (.bool true)], r33.2))
else
(p12).bind fun a40 =>
((cell r33.2 a40.block ((a40.off + 0) + 2)).bind (getI .i64)).bind fun n41 =>
some (.inl ([some (.pointer p12), some (vI n13), some (vI n14), some (vL l19.1 l19.2), some (vI n20), some (vL l35.1 l35.2), some (.bool (decide (n15 < (IntKind.wrap .i64 ((100000 : Int) + n41)))))], r33.2)))).bind fun j37 => joinK j37 fun j37 =>
j_PIILILB j37.1 fun p42 n43 n44 l45 n46 l47 b48 =>
(p42).bind fun a49 =>
((cell j37.2 a49.block ((a49.off + 3) + 0)).bind getS).bind fun l50 =>
((if b48 = true then
(p42).bind fun a52 =>
((cell j37.2 a52.block ((a52.off + 3) + 0)).bind getS).bind fun l53 =>
(app base j37.2 3 1 8 l53.1 l53.2 (rawAt j37.2 l47.1 (l47.2 * 1)) l47.2).bind fun p54 =>
((some p54.1).bind getS).bind fun l55 =>
(p42).bind fun a56 =>
(wr base p54.2 a56.block ((a56.off + 3) + 0) [(vL l55.1 l55.2)]).bind fun h57 =>
some (.inl ([some (.pointer p42), some (vI n43), some (vI n44), some (vL l45.1 l45.2), some (vI n46), some (vL l47.1 l47.2), some (.bool b48), some (vI ((l50.2 : Nat) : Int))], h57))
else
(p42).bind fun a58 =>
((cell j37.2 a58.block ((a58.off + 3) + 1)).bind getS).bind fun l59 =>
(p42).bind fun a60 =>
((cell j37.2 a60.block ((a60.off + 3) + 1)).bind getS).bind fun l61 =>
(app base j37.2 3 1 8 l61.1 l61.2 (rawAt j37.2 l47.1 (l47.2 * 1)) l47.2).bind fun p62 =>
((some p62.1).bind getS).bind fun l63 =>
(p42).bind fun a64 =>
(wr base p62.2 a64.block ((a64.off + 3) + 1) [(vL l63.1 l63.2)]).bind fun h65 =>
some (.inl ([some (.pointer p42), some (vI n43), some (vI n44), some (vL l45.1 l45.2), some (vI n46), some (vL l47.1 l47.2), some (.bool b48), some (vI ((l59.2 : Nat) : Int))], h65)))).bind fun j51 => joinK j51 fun j51 =>
j_PIILILBI j51.1 fun p66 n67 n68 l69 n70 l71 b72 n73 =>
(if 0 ≤ n70 ∧ n70 < ((l69.2 : Nat) : Int) then
((l69.1 : Option Addr)).bind fun a74 =>
(wr base j51.2 a74.block (a74.off + Int.toNat n70 * 1) [(vI n73)]).bind fun h75 =>
((if (!b72) = true then
(if 0 ≤ n70 ∧ n70 < ((l69.2 : Nat) : Int) then
((l69.1 : Option Addr)).bind fun a77 =>
(wr base h75 a77.block (a77.off + Int.toNat n70 * 1) [(vI (IntKind.wrap .i64 ((100000 : Int) + n73)))]).bind fun h78 =>
some (.inl ([some (.pointer p66), some (vI n67), some (vI n68), some (vL l69.1 l69.2), some (vI n70), some (vL l71.1 l71.2), some (.bool b72), some (vI n73)], h78))
else none)
else
some (.inl ([some (.pointer p66), some (vI n67), some (vI n68), some (vL l69.1 l69.2), some (vI n70), some (vL l71.1 l71.2), some (.bool b72), some (vI n73)], h75)))).bind fun j76 => joinK j76 fun j76 =>
j_PIILILBI j76.1 fun p79 n80 n81 l82 n83 l84 b85 n86 =>
((run (Et base) 189 [(vI n80)] j76.2).bind fun r88 =>
((some r88.1).bind (getI .i64)).bind fun n89 =>
(if (n89 != (5 : Int)) = true then
some (.inl ([some (.pointer p79), some (vI n80), some (vI n81), some (vL l82.1 l82.2), some (vI n83), some (vL l84.1 l84.2), some (.bool b85), some (vI n86), some (vI (1 : Int))], r88.2))
else
some (.inl ([some (.pointer p79), some (vI n80), some (vI n81), some (vL l82.1 l82.2), some (vI n83), some (vL l84.1 l84.2), some (.bool b85), some (vI n86), some (vI (0 : Int))], r88.2)))).bind fun j87 => joinK j87 fun j87 =>
j_PIILILBII j87.1 fun p90 n91 n92 l93 n94 l95 b96 n97 n98 =>
(loopL (B147_0 base) [some (.pointer p90), some (vI n91), some (vI n92), some (vL l93.1 l93.2), some (vI n94), some (vL l95.1 l95.2), some (.bool b96), some (vI n97), some (vI n98)] j87.2).bind fun q99 =>
(if q99.1 = 2 then
j_ILI q99.2.1 fun n100 l101 n102 =>
(run (Et base) 189 [(vI n100)] q99.2.2).bind fun r103 =>
((some r103.1).bind (getI .i64)).bind fun n104 =>
(if 0 ≤ n102 ∧ n102 < ((l101.2 : Nat) : Int) then
((l101.1 : Option Addr)).bind fun a105 =>
(gate (sameA q99.2.2 r103.2 (some ⟨a105.block, (a105.off + Int.toNat n102 * 1), none⟩) 1)
(((cell r103.2 a105.block (a105.off + Int.toNat n102 * 1)).bind (getI .i64)).bind fun n106 =>
(run (Et base) 191 [(vI n104), (vI n106)] r103.2).bind fun r107 =>
((some r107.1).bind (getI .i64)).bind fun n108 =>
some ((vI n108), r107.2)))
else none)
else
none)
else none))
else none))
theorem r147 {base : Nat} {v0 : Option Addr} {v1 : Int} {h : AH} {r : Value × AH} (hx : qf147 base v0 v1 h = some r) : run (Et base) 147 [(.pointer v0), (vI v1)] h = some r := run_i (an := a147) Try.func147 (by kernel_rfl) (.trans (by kernel_rfl) hx)
theorem r148 {base : Nat} {v0 : Option Addr} {v1 : Int} {h : AH} {r : Value × AH} (hx : ((if (decide (v1 < (100000 : Int))) = true then
some ((.int .i64 (0 : Int)), h)
else
(v0).bind fun a1 =>
((cell h a1.block (a1.off + 2)).bind (getI .i64)).bind fun n2 =>
(if (decide ((IntKind.wrap .i64 (v1 - (100000 : Int))) < n2)) = true then
some ((.int .i64 (1 : Int)), h)
else
some ((.int .i64 (2 : Int)), h)))) = some r) : run (Et base) 148 [(.pointer v0), (vI v1)] h = some r := run_i (an := a148) Try.func148 (by kernel_rfl) (.trans (by kernel_rfl) hx)
theorem r149 {base : Nat} {v0 : Int} {h : AH} {r : Value × AH} (hx : (some ((.int .i64 (IntKind.wrap .i64 (Int.tdiv (if (0 : Int) > v0 then (0 : Int) else v0) (8 : Int)))), h)) = some r) : run (Et base) 149 [(vI v0)] h = some r := run_i (an := a149) Try.func149 (by kernel_rfl) (.trans (by kernel_rfl) hx)
theorem r150 {base : Nat} {v0 : Int} {h : AH} {r : Value × AH} (hx : ((run (Et base) 152 [(.int .i64 v0)] h).bind fun r1 =>
((some r1.1).bind (getI .i64)).bind fun n2 =>
(run (Et base) 83 [(.int .i64 n2), (.int .i64 (4 : Int)), (.int .i64 (6 : Int))] r1.2).bind fun r3 =>
((some r3.1).bind getB).bind fun b4 =>
some ((.bool b4), r3.2)) = some r) : run (Et base) 150 [(vI v0)] h = some r := run_i (an := a150) Try.func150 (by kernel_rfl) (.trans (by kernel_rfl) hx)
theorem r151 {base : Nat} {v0 : Int} {v1 : Int} {h : AH} {r : Value × AH} (hx : (((run (Et base) 83 [(.int .i64 v0), (.int .i64 (0 : Int)), (.int .i64 (6 : Int))] h).bind fun r2 =>
((some r2.1).bind getB).bind fun b3 =>
(if (!b3) = true then
some (.inl ([some (.int .i64 v0), some (.int .i64 v1), some (.bool true)], r2.2))
else
(run (Et base) 83 [(.int .i64 v1), (.int .i64 (0 : Int)), (.int .i64 (4000000 : Int))] r2.2).bind fun r4 =>
((some r4.1).bind getB).bind fun b5 =>
some (.inl ([some (.int .i64 v0), some (.int .i64 v1), some (.bool (!b5))], r4.2)))).bind fun j1 => joinK j1 fun j1 =>
((sget j1.1 0).bind (getI .i64)).bind fun n6 =>
((sget (j1.1.tail) 0).bind (getI .i64)).bind fun n7 =>
((sget (j1.1.tail.tail) 0).bind getB).bind fun b8 =>
(if b8 = true then
some ((.int .i64 (0 : Int)), j1.2)
else
some ((.int .i64 (IntKind.wrap .i64 (n6 + (IntKind.wrap .i64 ((8 : Int) * n7))))), j1.2))) = some r) : run (Et base) 151 [(vI v0), (vI v1)] h = some r := run_i (an := a151) Try.func151 (by kernel_rfl) (.trans (by kernel_rfl) hx)
theorem r152 {base : Nat} {v0 : Int} {h : AH} {r : Value × AH} (hx : (some ((.int .i64 (Int.tmod (if (0 : Int) > v0 then (0 : Int) else v0) (8 : Int))), h)) = some r) : run (Et base) 152 [(vI v0)] h = some r := run_i (an := a152) Try.func152 (by kernel_rfl) (.trans (by kernel_rfl) hx)
theorem r153 {base : Nat} {v0 : Option Addr} {v1 : Int} {h : AH} {r : Value × AH} (hx : ((run (Et base) 152 [(.int .i64 v1)] h).bind fun r1 =>
((some r1.1).bind (getI .i64)).bind fun n2 =>
(if (n2 == (5 : Int)) = true then
some ((.int .i64 (2 : Int)), r1.2)
else
(run (Et base) 149 [(.int .i64 v1)] r1.2).bind fun r3 =>
((some r3.1).bind (getI .i64)).bind fun n4 =>
(run (Et base) 154 [(.pointer v0), (.int .i64 n4)] r3.2).bind fun r5 =>
(getTup 2 r5.1).bind fun l6 =>
((l6[0]?).bind (getI .i64)).bind fun n7 =>
((l6[1]?).bind getB).bind fun b8 =>
some ((.int .i64 (IntKind.wrap .i64 (n7 + (1 : Int)))), r5.2))) = some r) : run (Et base) 153 [(.pointer v0), (vI v1)] h = some r := run_i (an := a153) Try.func153 (by kernel_rfl) (.trans (by kernel_rfl) hx)
theorem r154 {base : Nat} {v0 : Option Addr} {v1 : Int} {h : AH} {r : Value × AH} (hx : ((v0).bind fun a1 =>
((cell h a1.block (a1.off + 0)).bind getS).bind fun l2 =>
((if (decide (v1 ≥ (100000 : Int))) = true then
(v0).bind fun a4 =>
((cell h a4.block (a4.off + 1)).bind getS).bind fun l5 =>
some (.inl ([some (.int .i64 (IntKind.wrap .i64 (v1 - (100000 : Int)))), some (.slice l5.1 l5.2 l5.2)], h))
else
some (.inl ([some (.int .i64 v1), some (.slice l2.1 l2.2 l2.2)], h)))).bind fun j3 => joinK j3 fun j3 =>
((sget j3.1 0).bind (getI .i64)).bind fun n6 =>
((sget (j3.1.tail) 0).bind getS).bind fun l7 =>
(run (Et base) 83 [(.int .i64 n6), (.int .i64 (0 : Int)), (.int .i64 (IntKind.wrap .i64 (((l7.2 : Nat) : Int) - (1 : Int))))] j3.2).bind fun r8 =>
((some r8.1).bind getB).bind fun b9 =>
(if (!b9) = true then
some ((.tuple #[(.int .i64 (0 : Int)), (.bool false)]), r8.2)
else
(if 0 ≤ n6 ∧ n6 < ((l7.2 : Nat) : Int) then
((l7.1 : Option Addr)).bind fun a10 =>
((cell r8.2 a10.block (a10.off + Int.toNat n6 * 1)).bind (getI .i64)).bind fun n11 =>
some ((.tuple #[(.int .i64 n11), (.bool true)]), r8.2)
else none))) = some r) : run (Et base) 154 [(.pointer v0), (vI v1)] h = some r := run_i (an := a154) Try.func154 (by kernel_rfl) (.trans (by kernel_rfl) hx)
noncomputable def B158_0 (base : Nat) : Body := fun l h => lay s158_0 l fun s => exCode (Et base) (run (Et base)) loopL a158_0 (subC [1, 0, 1, 0, 0] (bodyC Try.f158)) s h (keepK s158_0 e158_0)
theorem B158_0_eq (base : Nat) (v0 : ByteArray) (v3 : Int) (h : AH) : B158_0 base [some (vT v0), some (vI v3)] h =
((if (decide (v3 < (v0.size : Int))) = true then
((if 0 ≤ v3 ∧ v3 < (v0.size : Int) then
(run (Et base) 194 [(.int .u8 ((v0.data.toList.getD (Int.toNat v3) 0).toNat : Int))] h).bind fun r2 =>
((some r2.1).bind getB).bind fun b3 =>
(if (!b3) = true then
(if (v3 == (0 : Int)) = true then
some (.inl ([some (.string v0), some (.int .i64 v3), some (.bool true)], r2.2))
else
(if 0 ≤ v3 ∧ v3 < (v0.size : Int) then
(run (Et base) 195 [(.int .u8 ((v0.data.toList.getD (Int.toNat v3) 0).toNat : Int))] r2.2).bind fun r4 =>
((some r4.1).bind getB).bind fun b5 =>
some (.inl ([some (.string v0), some (.int .i64 v3), some (.bool (!b5))], r4.2))
else none))
else
some (.inl ([some (.string v0), some (.int .i64 v3), some (.bool false)], r2.2)))
else none)).bind fun j1 => joinK j1 fun j1 =>
((sget j1.1 0).bind getStr).bind fun s6 =>
((sget (j1.1.tail) 0).bind (getI .i64)).bind fun n7 =>
((sget (j1.1.tail.tail) 0).bind getB).bind fun b8 =>
(if b8 = true then
some (1, [some (.bool false)], j1.2)
else
some (0, [some (.string s6), some (.int .i64 (IntKind.wrap .i64 (n7 + (1 : Int))))], j1.2))
else
some (2, [some (.string v0)], h)) : Option (Nat × Slots × AH)) := by kernel_rfl
theorem r158 {base : Nat} {v0 : ByteArray} {h : AH} {r : Value × AH} (hx : ((loopL (B158_0 base) [some (.string v0), some (.int .i64 (0 : Int))] h).bind fun q1 =>
(if q1.1 = 1 then
((sget q1.2.1 0).bind getB).bind fun b2 =>
some ((.bool b2), q1.2.2)
else
(if q1.1 = 2 then
((sget q1.2.1 0).bind getStr).bind fun s3 =>
(run (Et base) 83 [(.int .i64 (s3.size : Int)), (.int .i64 (1 : Int)), (.int .i64 (12 : Int))] q1.2.2).bind fun r4 =>
((some r4.1).bind getB).bind fun b5 =>
some ((.bool b5), r4.2)
else
none))) = some r) : run (Et base) 158 [(vT v0)] h = some r := run_i (an := a158) Try.func158 (by kernel_rfl) (.trans (by kernel_rfl) hx)
noncomputable def B159_0 (base : Nat) : Body := fun l h => lay s159_0 l fun s => exCode (Et base) (run (Et base)) loopL a159_0 (subC [1, 0, 1, 0, 0] (bodyC Try.f159)) s h (keepK s159_0 e159_0)
theorem B159_0_eq (base : Nat) (v1 : ByteArray) (v7 : Option Addr) (v7n : Nat) (v8 : Int) (v9 : Int) (h : AH) : B159_0 base [some (vT v1), some (vL v7 v7n), some (vI v8), some (vI v9)] h =
((if (decide (v9 < v8)) = true then
(if 0 ≤ v9 ∧ v9 < ((v7n : Nat) : Int) then
((v7 : Option Addr)).bind fun a1 =>
((cell h a1.block (a1.off + Int.toNat v9 * 1)).bind getStr).bind fun s2 =>
(if (s2.toList == v1.toList) = true then
some (1, [some (.int .i64 v9)], h)
else
some (0, [some (.string v1), some (.slice v7 v7n v7n), some (.int .i64 v8), some (.int .i64 (IntKind.wrap .i64 (v9 + (1 : Int))))], h))
else none)
else
some (2, [], h)) : Option (Nat × Slots × AH)) := by kernel_rfl
theorem r159 {base : Nat} {v0 : Option Addr} {v0n : Nat} {v1 : ByteArray} {h : AH} {r : Value × AH} (hx : ((loopL (B159_0 base) [some (.string v1), some (.slice v0 v0n v0n), some (.int .i64 ((v0n : Nat) : Int)), some (.int .i64 (0 : Int))] h).bind fun q1 =>
(if q1.1 = 1 then
((sget q1.2.1 0).bind (getI .i64)).bind fun n2 =>
some ((.int .i64 n2), q1.2.2)
else
(if q1.1 = 2 then
some ((.int .i64 (-1 : Int)), q1.2.2)
else
none))) = some r) : run (Et base) 159 [(vL v0 v0n), (vT v1)] h = some r := run_i (an := a159) Try.func159 (by kernel_rfl) (.trans (by kernel_rfl) hx)
theorem r160 {base : Nat} {v0 : Fn} {v0p v0q : Array Value} {v1 : Option Addr} {v1n : Nat} {v2 : Int} {h : AH} {r : Value × AH} (hx : (nw1 h 42 [(vI 0), (vI 0), (vT ⟨#[]⟩), (vL none 0)] fun h1 =>
nw1 h1 208 [(.func v0 v0p v0q), (vL v1 v1n), (vI (0 : Int)), (.bool false)] fun h2 =>
(run (Et base) 196 [(vP (List.length h1)), (vI v2), (vI (1 : Int))] h2).bind fun r3 =>
gG (some r3.1) 4 fun l4 =>
l_IITL l4 fun n5 n6 s7 l8 =>
nw1 r3.2 42 [(vI 0), (vI 0), (vT ⟨#[]⟩), (vL none 0)] fun h9 =>
(wr base h9 (List.length r3.2) 0 [(vI n5), (vI n6), (vT s7), (vL l8.1 l8.2)]).bind fun h10 =>
(((cell h10 (List.length h1) 3).bind getB).bind fun b12 =>
(if b12 = true then
some (.inl ([some (vP (List.length h)), some (vP (List.length r3.2)), some (.bool true)], h10))
else
c_IITL h10 (List.length r3.2) 0 fun n13 n14 s15 l16 =>
(run (Et base) 65 [(.agg #[(vI n13), (vI n14), (vT s15), (vL l16.1 l16.2)])] h10).bind fun r17 =>
((some r17.1).bind getB).bind fun b18 =>
some (.inl ([some (vP (List.length h)), some (vP (List.length r3.2)), some (.bool (!b18))], r17.2)))).bind fun j11 => joinK j11 fun j11 =>
j_AAB j11.1 fun d19 d20 b21 =>
(if b21 = true then
(wr base j11.2 d19.block d19.off [(vI (0 : Int)), (vI (0 : Int)), (vT (⟨#[]⟩ : ByteArray)), (vL none 0)]).bind fun h22 =>
c_IITL h22 d19.block d19.off fun n23 n24 s25 l26 =>
some ((.tuple #[(.agg #[(vI n23), (vI n24), (vT s25), (vL l26.1 l26.2)]), (.bool false)]), h22)
else
c_IITL j11.2 d20.block d20.off fun n27 n28 s29 l30 =>
(wr base j11.2 d19.block d19.off [(vI n27), (vI n28), (vT s29), (vL l30.1 l30.2)]).bind fun h31 =>
c_IITL h31 d19.block d19.off fun n32 n33 s34 l35 =>
some ((.tuple #[(.agg #[(vI n32), (vI n33), (vT s34), (vL l35.1 l35.2)]), (.bool true)]), h31))) = some r) : run (Et base) 160 [(.func v0 v0p v0q), (vL v1 v1n), (vI v2)] h = some r := run_i (an := a160) Try.func160 (by kernel_rfl) (.trans (by kernel_rfl) hx)
end Go.Proofs.Ytkdenmdijdmnjaa.Am
