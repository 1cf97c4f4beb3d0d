/- What each of these functions comes to on the abstract machine, one equation a function and one a loop.
Conditions: none. -/
import Derived.Test.YtjmkbglnjklbcaaTb
set_option linter.unusedVariables false
set_option maxRecDepth 100000
namespace Go.Proofs.Ytjmkbglnjklbcaa.Am
open Go Go.RowKit
noncomputable abbrev qf5 (base : Nat) (v0_0 : Option Addr) (v0_0n : Nat) (v0_1 : Option Addr) (v0_1n : Nat) (v0_2 : Int) (v1 : Option Addr) (v1n : Nat) (v2 : Option Addr) (v2n : Nat) (h : AH) : Option (Value × AH) :=
nw1 h 48 [(vL v0_0 v0_0n), (vL v0_1 v0_1n), (vI v0_2)] fun h1 =>
(if (decide (((v2n : Nat) : Int) > (1048576 : Int))) = true then
some ((.bool true), h1)
else
c_LLI h1 (List.length h) 0 fun l2 l3 n4 =>
(run (Et base) 27 [(.agg #[(vL l2.1 l2.2), (vL l3.1 l3.2), (vI n4)]), (vI (1048576 : Int))] h1).bind fun r5 =>
((some r5.1).bind (getI .i64)).bind fun n6 =>
(if (decide (n6 < (0 : Int))) = true then
some ((.bool true), r5.2)
else
(run (Et base) 12 [(vL v1 v1n), (vI n6)] r5.2).bind fun r7 =>
((some r7.1).bind (getI .i64)).bind fun n8 =>
(if (decide (n8 < (0 : Int))) = true then
some ((.bool true), r7.2)
else
c_LLI r7.2 (List.length h) 0 fun l9 l10 n11 =>
(run (Et base) 29 [(.agg #[(vL l9.1 l9.2), (vL l10.1 l10.2), (vI n11)])] r7.2).bind fun r12 =>
gG (some r12.1) 3 fun l13 =>
l_LLI l13 fun l14 l15 n16 =>
(run (Et base) 16 [(vL v1 v1n)] r12.2).bind fun r17 =>
((some r17.1).bind getS).bind fun l18 =>
(run (Et base) 35 [(vL v2 v2n)] r17.2).bind fun r19 =>
((some r19.1).bind getS).bind fun l20 =>
(run (Et base) 34 [(.agg #[(vL l14.1 l14.2), (vL l15.1 l15.2), (vI n16)]), (vL l18.1 l18.2), (vL l20.1 l20.2)] r19.2).bind fun r21 =>
((some r21.1).bind getB).bind fun b22 =>
c_LLI r21.2 (List.length h) 0 fun l23 l24 n25 =>
(run (Et base) 29 [(.agg #[(vL l23.1 l23.2), (vL l24.1 l24.2), (vI n25)])] r21.2).bind fun r26 =>
gG (some r26.1) 3 fun l27 =>
l_LLI l27 fun l28 l29 n30 =>
nw1 r26.2 50 [(vL none 0), (vL none 0), (vI 0)] fun h31 =>
(wr base h31 (List.length r26.2) 0 [(vL l28.1 l28.2), (vL l29.1 l29.2), (vI n30)]).bind fun h32 =>
(run (Et base) 16 [(vL v1 v1n)] h32).bind fun r33 =>
((some r33.1).bind getS).bind fun l34 =>
(run (Et base) 35 [(vL v2 v2n)] r33.2).bind fun r35 =>
((some r35.1).bind getS).bind fun l36 =>
c_LLI r35.2 (List.length r26.2) 0 fun l37 l38 n39 =>
(run (Et base) 36 [(.agg #[(vL l37.1 l37.2), (vL l38.1 l38.2), (vI n39)]), (vL l34.1 l34.2), (vL l36.1 l36.2)] r35.2).bind fun r40 =>
((some r40.1).bind getB).bind fun b41 =>
(if (!(b41 == b22)) = true then
some ((.bool false), r40.2)
else
c_LLI r40.2 (List.length r26.2) 0 fun l42 l43 n44 =>
c_LLI r40.2 (List.length h) 0 fun l45 l46 n47 =>
(run (Et base) 29 [(.agg #[(vL l45.1 l45.2), (vL l46.1 l46.2), (vI n47)])] r40.2).bind fun r48 =>
gG (some r48.1) 3 fun l49 =>
l_LLI l49 fun l50 l51 n52 =>
(gate (sameA r40.2 r48.2 (some ⟨(List.length r26.2), 0, none⟩) 3)
((run (Et base) 31 [(.agg #[(vL l42.1 l42.2), (vL l43.1 l43.2), (vI n44)]), (.agg #[(vL l50.1 l50.2), (vL l51.1 l51.2), (vI n52)])] r48.2).bind fun r53 =>
((some r53.1).bind getB).bind fun b54 =>
(if (!b54) = true then
some ((.bool false), r53.2)
else
(run (Et base) 16 [(vL v1 v1n)] r53.2).bind fun r55 =>
((some r55.1).bind getS).bind fun l56 =>
(run (Et base) 20 [(vL l34.1 l34.2), (vL l56.1 l56.2)] r55.2).bind fun r57 =>
((some r57.1).bind getB).bind fun b58 =>
(if (!b58) = true then
some ((.bool false), r57.2)
else
(run (Et base) 35 [(vL v2 v2n)] r57.2).bind fun r59 =>
((some r59.1).bind getS).bind fun l60 =>
(run (Et base) 37 [(vL l36.1 l36.2), (vL l60.1 l60.2)] r59.2).bind fun r61 =>
((some r61.1).bind getB).bind fun b62 =>
(if (!b62) = true then
some ((.bool false), r61.2)
else
some ((.bool true), r61.2))))))))))
theorem r5 {base : Nat} {v0_0 : Option Addr} {v0_0n : Nat} {v0_1 : Option Addr} {v0_1n : Nat} {v0_2 : Int} {v1 : Option Addr} {v1n : Nat} {v2 : Option Addr} {v2n : Nat} {h : AH} {r : Value × AH} (hx : qf5 base v0_0 v0_0n v0_1 v0_1n v0_2 v1 v1n v2 v2n h = some r) : run (Et base) 5 [(.agg #[(vL v0_0 v0_0n), (vL v0_1 v0_1n), (vI v0_2)]), (vL v1 v1n), (vL v2 v2n)] h = some r := run_i (an := a5) Try.func5 (by kernel_rfl) (.trans (by kernel_rfl) hx)
noncomputable def B12_0 (base : Nat) : Body := fun l h => lay s12_0 l fun s => exCode (Et base) (run (Et base)) loopL a12_0 (subC [1, 1, 1, 0, 1, 0, 0] (bodyC Try.f12)) s h (keepK s12_0 e12_0)
theorem B12_0_eq (base : Nat) (v0 : Option Addr) (v0n : Nat) (v1 : Int) (v5 : Int) (h : AH) : B12_0 base [some (vL v0 v0n), some (vI v1), some (vI v5)] h =
((if (decide (v5 < ((v0n : Nat) : Int))) = true then
(if 0 ≤ v5 ∧ v5 < ((v0n : Nat) : Int) then
((v0 : Option Addr)).bind fun a1 =>
((cell h a1.block (a1.off + Int.toNat v5 * 1)).bind getStr).bind fun s2 =>
(if (decide ((IntKind.wrap .i64 (v1 - (s2.size : Int))) < (0 : Int))) = true then
some (1, [some (.int .i64 (-1 : Int))], h)
else
some (0, [some (.slice v0 v0n v0n), some (.int .i64 (IntKind.wrap .i64 (v1 - (s2.size : Int)))), some (.int .i64 (IntKind.wrap .i64 (v5 + (1 : Int))))], h))
else none)
else
some (2, [some (.int .i64 v1)], h)) : Option (Nat × Slots × AH)) := by kernel_rfl
theorem r12 {base : Nat} {v0 : Option Addr} {v0n : Nat} {v1 : Int} {h : AH} {r : Value × AH} (hx : ((if (decide ((IntKind.wrap .i64 (v1 - ((v0n : Nat) : Int))) < (0 : Int))) = true then
some ((.int .i64 (-1 : Int)), h)
else
(loopL (B12_0 base) [some (.slice v0 v0n v0n), some (.int .i64 (IntKind.wrap .i64 (v1 - ((v0n : Nat) : Int)))), some (.int .i64 (0 : Int))] h).bind fun q1 =>
(if q1.1 = 1 then
((sget q1.2.1 0).bind (getI .i64)).bind fun n2 =>
some ((.int .i64 n2), q1.2.2)
else
(if q1.1 = 2 then
((sget q1.2.1 0).bind (getI .i64)).bind fun n3 =>
some ((.int .i64 n3), q1.2.2)
else
none)))) = some r) : run (Et base) 12 [(vL v0 v0n), (vI v1)] h = some r := run_i (an := a12) Try.func12 (by kernel_rfl) (.trans (by kernel_rfl) hx)
noncomputable def B16_0 (base : Nat) : Body := fun l h => lay s16_0 l fun s => exCode (Et base) (run (Et base)) loopL a16_0 (subC [1, 1, 0, 1, 0, 0] (bodyC Try.f16)) s h (keepK s16_0 e16_0)
theorem B16_0_eq (base : Nat) (v0 : Option Addr) (v0n : Nat) (v3 : Option Addr) (v3n : Nat) (v4 : Int) (h : AH) : B16_0 base [some (vL v0 v0n), some (vL v3 v3n), some (vI v4)] h =
((if (decide (v4 < ((v0n : Nat) : Int))) = true then
(if 0 ≤ v4 ∧ v4 < ((v0n : Nat) : Int) then
((v0 : Option Addr)).bind fun a1 =>
((cell h a1.block (a1.off + Int.toNat v4 * 1)).bind getStr).bind fun s2 =>
(if 0 ≤ v4 ∧ v4 < ((v3n : Nat) : Int) then
((v3 : Option Addr)).bind fun a3 =>
(wr base h a3.block (a3.off + Int.toNat v4 * 1) [(.string s2)]).bind fun h4 =>
some (0, [some (.slice v0 v0n v0n), some (.slice v3 v3n v3n), some (.int .i64 (IntKind.wrap .i64 (v4 + (1 : Int))))], h4)
else none)
else none)
else
some (2, [some (.slice v3 v3n v3n)], h)) : Option (Nat × Slots × AH)) := by kernel_rfl
theorem r16 {base : Nat} {v0 : Option Addr} {v0n : Nat} {h : AH} {r : Value × AH} (hx : ((if ((v0n : Nat) : Int) = ((v0n : Nat) : Int) ∧ 0 ≤ ((v0n : Nat) : Int) ∧ ((v0n : Nat) : Int) * 16 ≤ 140737488355328 ∧ ((v0n : Nat) : Int) ≤ 140737488355328 then
(some (h ++ [some ⟨rep [(.string ⟨#[]⟩)] (Int.toNat ((v0n : Nat) : Int)), 9⟩])).bind fun h1 =>
(loopL (B16_0 base) [some (.slice v0 v0n v0n), some (.slice (some ⟨(List.length h), 0, none⟩) (Int.toNat ((v0n : Nat) : Int)) (Int.toNat ((v0n : Nat) : Int))), some (.int .i64 (0 : Int))] h1).bind fun q2 =>
(if q2.1 = 2 then
((sget q2.2.1 0).bind getS).bind fun l3 =>
some ((.slice l3.1 l3.2 l3.2), q2.2.2)
else
none)
else none)) = some r) : run (Et base) 16 [(vL v0 v0n)] h = some r := run_i (an := a16) Try.func16 (by kernel_rfl) (.trans (by kernel_rfl) hx)
noncomputable def B20_0 (base : Nat) : Body := fun l h => lay s20_0 l fun s => exCode (Et base) (run (Et base)) loopL a20_0 (subC [1, 1, 0, 1, 0, 0] (bodyC Try.f20)) s h (keepK s20_0 e20_0)
theorem B20_0_eq (base : Nat) (v0 : Option Addr) (v0n : Nat) (v1 : Option Addr) (v1n : Nat) (v5 : Int) (h : AH) : B20_0 base [some (vL v0 v0n), some (vL v1 v1n), some (vI v5)] h =
((if (decide (v5 < ((v0n : Nat) : Int))) = true then
(if 0 ≤ v5 ∧ v5 < ((v0n : Nat) : Int) then
((v0 : Option Addr)).bind fun a1 =>
((cell h a1.block (a1.off + Int.toNat v5 * 1)).bind getStr).bind fun s2 =>
(if 0 ≤ v5 ∧ v5 < ((v1n : Nat) : Int) then
((v1 : Option Addr)).bind fun a3 =>
((cell h a3.block (a3.off + Int.toNat v5 * 1)).bind getStr).bind fun s4 =>
(if (!(s2.toList == s4.toList)) = true then
some (1, [some (.bool false)], h)
else
some (0, [some (.slice v0 v0n v0n), some (.slice v1 v1n v1n), some (.int .i64 (IntKind.wrap .i64 (v5 + (1 : Int))))], h))
else none)
else none)
else
some (2, [], h)) : Option (Nat × Slots × AH)) := by kernel_rfl
theorem r20 {base : Nat} {v0 : Option Addr} {v0n : Nat} {v1 : Option Addr} {v1n : Nat} {h : AH} {r : Value × AH} (hx : ((if (((v0n : Nat) : Int) != ((v1n : Nat) : Int)) = true then
some ((.bool false), h)
else
(loopL (B20_0 base) [some (.slice v0 v0n v0n), some (.slice v1 v1n v1n), some (.int .i64 (0 : Int))] h).bind fun q1 =>
(if q1.1 = 1 then
((sget q1.2.1 0).bind getB).bind fun b2 =>
some ((.bool b2), q1.2.2)
else
(if q1.1 = 2 then
some ((.bool true), q1.2.2)
else
none)))) = some r) : run (Et base) 20 [(vL v0 v0n), (vL v1 v1n)] h = some r := run_i (an := a20) Try.func20 (by kernel_rfl) (.trans (by kernel_rfl) hx)
theorem r27 {base : Nat} {v0_0 : Option Addr} {v0_0n : Nat} {v0_1 : Option Addr} {v0_1n : Nat} {v0_2 : Int} {v1 : Int} {h : AH} {r : Value × AH} (hx : ((some (h ++ [some ⟨[(.slice v0_0 v0_0n v0_0n), (.slice v0_1 v0_1n v0_1n), (.int .i64 v0_2)], 48⟩])).bind fun h1 =>
((cell h1 (List.length h) 0).bind getS).bind fun l2 =>
(run (Et base) 67 [(.slice l2.1 l2.2 l2.2), (.int .i64 v1)] h1).bind fun r3 =>
((some r3.1).bind (getI .i64)).bind fun n4 =>
(if (decide (n4 < (0 : Int))) = true then
some ((.int .i64 (-1 : Int)), r3.2)
else
((cell r3.2 (List.length h) 1).bind getS).bind fun l5 =>
(run (Et base) 67 [(.slice l5.1 l5.2 l5.2), (.int .i64 n4)] r3.2).bind fun r6 =>
((some r6.1).bind (getI .i64)).bind fun n7 =>
(if (decide (n7 < (0 : Int))) = true then
some ((.int .i64 (-1 : Int)), r6.2)
else
some ((.int .i64 n7), r6.2)))) = some r) : run (Et base) 27 [(.agg #[(vL v0_0 v0_0n), (vL v0_1 v0_1n), (vI v0_2)]), (vI v1)] h = some r := run_i (an := a27) Try.func27 (by kernel_rfl) (.trans (by kernel_rfl) hx)
theorem r29 {base : Nat} {v0_0 : Option Addr} {v0_0n : Nat} {v0_1 : Option Addr} {v0_1n : Nat} {v0_2 : Int} {h : AH} {r : Value × AH} (hx : ((some (h ++ [some ⟨[(.slice v0_0 v0_0n v0_0n), (.slice v0_1 v0_1n v0_1n), (.int .i64 v0_2)], 48⟩])).bind fun h1 =>
(some (h1 ++ [some ⟨[(.slice none 0 0), (.slice none 0 0), (.int .i64 0)], 50⟩])).bind fun h2 =>
(some (h2 ++ [some ⟨[(.slice none 0 0), (.slice none 0 0), (.int .i64 0)], 50⟩])).bind fun h3 =>
((cell h3 (List.length h) 0).bind getS).bind fun l4 =>
(run (Et base) 35 [(.slice l4.1 l4.2 l4.2)] h3).bind fun r5 =>
((some r5.1).bind getS).bind fun l6 =>
(wr base r5.2 (List.length h2) 0 [(.slice l6.1 l6.2 l6.2)]).bind fun h7 =>
((cell h7 (List.length h) 1).bind getS).bind fun l8 =>
(run (Et base) 35 [(.slice l8.1 l8.2 l8.2)] h7).bind fun r9 =>
((some r9.1).bind getS).bind fun l10 =>
(wr base r9.2 (List.length h2) 1 [(.slice l10.1 l10.2 l10.2)]).bind fun h11 =>
((cell h11 (List.length h) 2).bind (getI .i64)).bind fun n12 =>
(wr base h11 (List.length h2) 2 [(.int .i64 n12)]).bind fun h13 =>
((cell h13 (List.length h2) 0).bind getS).bind fun l14 =>
((cell h13 (List.length h2) 1).bind getS).bind fun l15 =>
((cell h13 (List.length h2) 2).bind (getI .i64)).bind fun n16 =>
(wr base h13 (List.length h1) 0 [(.slice l14.1 l14.2 l14.2), (.slice l15.1 l15.2 l15.2), (.int .i64 n16)]).bind fun h17 =>
((cell h17 (List.length h1) 0).bind getS).bind fun l18 =>
((cell h17 (List.length h1) 1).bind getS).bind fun l19 =>
((cell h17 (List.length h1) 2).bind (getI .i64)).bind fun n20 =>
some ((.agg #[(.slice l18.1 l18.2 l18.2), (.slice l19.1 l19.2 l19.2), (.int .i64 n20)]), h17)) = some r) : run (Et base) 29 [(.agg #[(vL v0_0 v0_0n), (vL v0_1 v0_1n), (vI v0_2)])] h = some r := run_i (an := a29) Try.func29 (by kernel_rfl) (.trans (by kernel_rfl) hx)
theorem r31 {base : Nat} {v0_0 : Option Addr} {v0_0n : Nat} {v0_1 : Option Addr} {v0_1n : Nat} {v0_2 : Int} {v1_0 : Option Addr} {v1_0n : Nat} {v1_1 : Option Addr} {v1_1n : Nat} {v1_2 : Int} {h : AH} {r : Value × AH} (hx : ((some (h ++ [some ⟨[(.slice v0_0 v0_0n v0_0n), (.slice v0_1 v0_1n v0_1n), (.int .i64 v0_2)], 50⟩])).bind fun h1 =>
(some (h1 ++ [some ⟨[(.slice v1_0 v1_0n v1_0n), (.slice v1_1 v1_1n v1_1n), (.int .i64 v1_2)], 50⟩])).bind fun h2 =>
((cell h2 (List.length h) 0).bind getS).bind fun l3 =>
((cell h2 (List.length h1) 0).bind getS).bind fun l4 =>
(run (Et base) 37 [(.slice l3.1 l3.2 l3.2), (.slice l4.1 l4.2 l4.2)] h2).bind fun r5 =>
((some r5.1).bind getB).bind fun b6 =>
(if (!b6) = true then
some ((.bool false), r5.2)
else
((cell r5.2 (List.length h) 1).bind getS).bind fun l7 =>
((cell r5.2 (List.length h1) 1).bind getS).bind fun l8 =>
(run (Et base) 37 [(.slice l7.1 l7.2 l7.2), (.slice l8.1 l8.2 l8.2)] r5.2).bind fun r9 =>
((some r9.1).bind getB).bind fun b10 =>
(if (!b10) = true then
some ((.bool false), r9.2)
else
((cell r9.2 (List.length h) 2).bind (getI .i64)).bind fun n11 =>
((cell r9.2 (List.length h1) 2).bind (getI .i64)).bind fun n12 =>
(if (n11 != n12) = true then
some ((.bool false), r9.2)
else
some ((.bool true), r9.2))))) = some r) : run (Et base) 31 [(.agg #[(vL v0_0 v0_0n), (vL v0_1 v0_1n), (vI v0_2)]), (.agg #[(vL v1_0 v1_0n), (vL v1_1 v1_1n), (vI v1_2)])] h = some r := run_i (an := a31) Try.func31 (by kernel_rfl) (.trans (by kernel_rfl) hx)
noncomputable def B34_0 (base : Nat) : Body := fun l h => lay s34_0 l fun s => exCode (Et base) (run (Et base)) loopL a34_0 (subC [1, 1, 0, 1, 0, 0] (bodyC Try.f34)) s h (keepK s34_0 e34_0)
theorem B34_0_eq (base : Nat) (v1 : Option Addr) (v1n : Nat) (v2 : Option Addr) (v2n : Nat) (v3 : Addr) (v7 : Int) (h : AH) : B34_0 base [some (vL v1 v1n), some (vL v2 v2n), some (vA v3), some (vI v7)] h =
((if (decide (v7 < ((v2n : Nat) : Int))) = true then
c_LLI h v3.block v3.off fun l1 l2 n3 =>
(if 0 ≤ v7 ∧ v7 < ((v2n : Nat) : Int) then
((v2 : Option Addr)).bind fun a4 =>
((cell h a4.block (a4.off + Int.toNat v7 * 1)).bind (getI .i64)).bind fun n5 =>
(run (Et base) 85 [(.agg #[(vL l1.1 l1.2), (vL l2.1 l2.2), (vI n3)]), (vL v1 v1n), (vI n5)] h).bind fun r6 =>
(getTup 2 r6.1).bind fun l7 =>
gG (l7[0]?) 4 fun l8 =>
l_IITL l8 fun n9 n10 s11 l12 =>
((l7[1]?).bind getB).bind fun b13 =>
(gate (neA (some ⟨a4.block, (a4.off + Int.toNat v7 * 1), none⟩) (List.length r6.2))
((gate (neA (some v3) (List.length r6.2))
(nw1 r6.2 39 [(vI 0), (vI 0), (vT ⟨#[]⟩), (vL none 0)] fun h14 =>
(wr base h14 (List.length r6.2) 0 [(vI n9), (vI n10), (vT s11), (vL l12.1 l12.2)]).bind fun h15 =>
((if (!b13) = true then
some (.inl ([some (vL v1 v1n), some (vL v2 v2n), some (vA v3), some (vI v7), some (.bool true)], h15))
else
c_LLI h15 v3.block v3.off fun l17 l18 n19 =>
(if 0 ≤ v7 ∧ v7 < ((v2n : Nat) : Int) then
((v2 : Option Addr)).bind fun a20 =>
((cell h15 a20.block (a20.off + Int.toNat v7 * 1)).bind (getI .i64)).bind fun n21 =>
(run (Et base) 86 [(.agg #[(vL l17.1 l17.2), (vL l18.1 l18.2), (vI n19)]), (vI n21), (vI (200000 : Int))] h15).bind fun r22 =>
((some r22.1).bind getB).bind fun b23 =>
some (.inl ([some (vL v1 v1n), some (vL v2 v2n), some (vA v3), some (vI v7), some (.bool (!b23))], r22.2))
else none))).bind fun j16 => joinK j16 fun j16 =>
j_LLAIB j16.1 fun l24 l25 d26 n27 b28 =>
(if b28 = true then
some (1, [some (.bool false)], j16.2)
else
some (0, [some (vL l24.1 l24.2), some (vL l25.1 l25.2), some (vA d26), some (vI (IntKind.wrap .i64 (n27 + (1 : Int))))], j16.2))))))
else none)
else
some (2, [], h)) : Option (Nat × Slots × AH)) := by kernel_rfl
theorem r34 {base : Nat} {v0_0 : Option Addr} {v0_0n : Nat} {v0_1 : Option Addr} {v0_1n : Nat} {v0_2 : Int} {v1 : Option Addr} {v1n : Nat} {v2 : Option Addr} {v2n : Nat} {h : AH} {r : Value × AH} (hx : (nw1 h 50 [(vL v0_0 v0_0n), (vL v0_1 v0_1n), (vI v0_2)] fun h1 =>
(((cell h1 (List.length h) 0).bind getS).bind fun l3 =>
(if (decide (((l3.2 : Nat) : Int) > (1000 : Int))) = true then
some (.inl ([some (vL v1 v1n), some (vL v2 v2n), some (vP (List.length h)), some (.bool true)], h1))
else
((cell h1 (List.length h) 1).bind getS).bind fun l4 =>
(if (decide (((l4.2 : Nat) : Int) > (1000 : Int))) = true then
some (.inl ([some (vL v1 v1n), some (vL v2 v2n), some (vP (List.length h)), some (.bool true)], h1))
else
((cell h1 (List.length h) 2).bind (getI .i64)).bind fun n5 =>
((cell h1 (List.length h) 1).bind getS).bind fun l6 =>
(run (Et base) 83 [(vI n5), (vI (0 : Int)), (vI ((l6.2 : Nat) : Int))] h1).bind fun r7 =>
((some r7.1).bind getB).bind fun b8 =>
(if (!b8) = true then
some (.inl ([some (vL v1 v1n), some (vL v2 v2n), some (vP (List.length h)), some (.bool true)], r7.2))
else
(run (Et base) 84 [(vL v1 v1n)] r7.2).bind fun r9 =>
((some r9.1).bind getB).bind fun b10 =>
some (.inl ([some (vL v1 v1n), some (vL v2 v2n), some (vP (List.length h)), some (.bool (!b10))], r9.2)))))).bind fun j2 => joinK j2 fun j2 =>
j_LLAB j2.1 fun l11 l12 d13 b14 =>
(if b14 = true then
some ((.bool false), j2.2)
else
(loopL (B34_0 base) [some (vL l11.1 l11.2), some (vL l12.1 l12.2), some (vA d13), some (vI (0 : Int))] j2.2).bind fun q15 =>
(if q15.1 = 1 then
((sget q15.2.1 0).bind getB).bind fun b16 =>
some ((.bool b16), q15.2.2)
else
(if q15.1 = 2 then
some ((.bool true), q15.2.2)
else
none)))) = some r) : run (Et base) 34 [(.agg #[(vL v0_0 v0_0n), (vL v0_1 v0_1n), (vI v0_2)]), (vL v1 v1n), (vL v2 v2n)] h = some r := run_i (an := a34) Try.func34 (by kernel_rfl) (.trans (by kernel_rfl) hx)
noncomputable def B35_0 (base : Nat) : Body := fun l h => lay s35_0 l fun s => exCode (Et base) (run (Et base)) loopL a35_0 (subC [1, 1, 0, 1, 0, 0] (bodyC Try.f35)) s h (keepK s35_0 e35_0)
theorem B35_0_eq (base : Nat) (v0 : Option Addr) (v0n : Nat) (v3 : Option Addr) (v3n : Nat) (v4 : Int) (h : AH) : B35_0 base [some (vL v0 v0n), some (vL v3 v3n), some (vI v4)] h =
((if (decide (v4 < ((v0n : Nat) : Int))) = true then
(if 0 ≤ v4 ∧ v4 < ((v0n : Nat) : Int) then
((v0 : Option Addr)).bind fun a1 =>
((cell h a1.block (a1.off + Int.toNat v4 * 1)).bind (getI .i64)).bind fun n2 =>
(if 0 ≤ v4 ∧ v4 < ((v3n : Nat) : Int) then
((v3 : Option Addr)).bind fun a3 =>
(wr base h a3.block (a3.off + Int.toNat v4 * 1) [(.int .i64 n2)]).bind fun h4 =>
some (0, [some (.slice v0 v0n v0n), some (.slice v3 v3n v3n), some (.int .i64 (IntKind.wrap .i64 (v4 + (1 : Int))))], h4)
else none)
else none)
else
some (2, [some (.slice v3 v3n v3n)], h)) : Option (Nat × Slots × AH)) := by kernel_rfl
theorem r35 {base : Nat} {v0 : Option Addr} {v0n : Nat} {h : AH} {r : Value × AH} (hx : ((if ((v0n : Nat) : Int) = ((v0n : Nat) : Int) ∧ 0 ≤ ((v0n : Nat) : Int) ∧ ((v0n : Nat) : Int) * 8 ≤ 140737488355328 ∧ ((v0n : Nat) : Int) ≤ 140737488355328 then
(some (h ++ [some ⟨rep [(.int .i64 0)] (Int.toNat ((v0n : Nat) : Int)), 3⟩])).bind fun h1 =>
(loopL (B35_0 base) [some (.slice v0 v0n v0n), some (.slice (some ⟨(List.length h), 0, none⟩) (Int.toNat ((v0n : Nat) : Int)) (Int.toNat ((v0n : Nat) : Int))), some (.int .i64 (0 : Int))] h1).bind fun q2 =>
(if q2.1 = 2 then
((sget q2.2.1 0).bind getS).bind fun l3 =>
some ((.slice l3.1 l3.2 l3.2), q2.2.2)
else
none)
else none)) = some r) : run (Et base) 35 [(vL v0 v0n)] h = some r := run_i (an := a35) Try.func35 (by kernel_rfl) (.trans (by kernel_rfl) hx)
noncomputable def B36_0 (base : Nat) : Body := fun l h => lay s36_0 l fun s => exCode (Et base) (run (Et base)) loopL a36_0 (subC [1, 1, 0, 1, 0, 0] (bodyC Try.f36)) s h (keepK s36_0 e36_0)
theorem B36_0_eq (base : Nat) (v1 : Option Addr) (v1n : Nat) (v3 : Addr) (v35 : Option Addr) (v35n : Nat) (v36 : Int) (v37 : Int) (h : AH) : B36_0 base [some (vL v1 v1n), some (vA v3), some (vL v35 v35n), some (vI v36), some (vI v37)] h =
((if (decide (v37 < v36)) = true then
(if 0 ≤ v37 ∧ v37 < ((v35n : Nat) : Int) then
((v35 : Option Addr)).bind fun a1 =>
((cell h a1.block (a1.off + Int.toNat v37 * 1)).bind (getI .i64)).bind fun n2 =>
c_LLI h v3.block v3.off fun l3 l4 n5 =>
(run (Et base) 89 [(.agg #[(vL l3.1 l3.2), (vL l4.1 l4.2), (vI n5)]), (vL v1 v1n), (vI n2)] h).bind fun r6 =>
(getTup 2 r6.1).bind fun l7 =>
gG (l7[0]?) 4 fun l8 =>
l_IITL l8 fun n9 n10 s11 l12 =>
((l7[1]?).bind getB).bind fun b13 =>
nw1 r6.2 39 [(vI 0), (vI 0), (vT ⟨#[]⟩), (vL none 0)] fun h14 =>
(wr base h14 (List.length r6.2) 0 [(vI n9), (vI n10), (vT s11), (vL l12.1 l12.2)]).bind fun h15 =>
((if (!b13) = true then
some (.inl ([some (vL v1 v1n), some (vA v3), some (vL v35 v35n), some (vI v36), some (vI v37), some (.bool true)], h15))
else
(run (Et base) 90 [(vA v3), (vI n2)] h15).bind fun r17 =>
((some r17.1).bind getB).bind fun b18 =>
some (.inl ([some (vL v1 v1n), some (vA v3), some (vL v35 v35n), some (vI v36), some (vI v37), some (.bool (!b18))], r17.2)))).bind fun j16 => joinK j16 fun j16 =>
j_LALIIB j16.1 fun l19 d20 l21 n22 n23 b24 =>
(if b24 = true then
some (1, [some (.bool false)], j16.2)
else
some (0, [some (vL l19.1 l19.2), some (vA d20), some (vL l21.1 l21.2), some (vI n22), some (vI (IntKind.wrap .i64 (n23 + (1 : Int))))], j16.2))
else none)
else
some (2, [], h)) : Option (Nat × Slots × AH)) := by kernel_rfl
theorem r36 {base : Nat} {v0_0 : Option Addr} {v0_0n : Nat} {v0_1 : Option Addr} {v0_1n : Nat} {v0_2 : Int} {v1 : Option Addr} {v1n : Nat} {v2 : Option Addr} {v2n : Nat} {h : AH} {r : Value × AH} (hx : (nw1 h 50 [(vL v0_0 v0_0n), (vL v0_1 v0_1n), (vI v0_2)] fun h1 =>
(((cell h1 (List.length h) 0).bind getS).bind fun l3 =>
(if (decide (((l3.2 : Nat) : Int) > (1000 : Int))) = true then
some (.inl ([some (vL v1 v1n), some (vL v2 v2n), some (vP (List.length h)), some (.bool true)], h1))
else
((cell h1 (List.length h) 1).bind getS).bind fun l4 =>
(if (decide (((l4.2 : Nat) : Int) > (1000 : Int))) = true then
some (.inl ([some (vL v1 v1n), some (vL v2 v2n), some (vP (List.length h)), some (.bool true)], h1))
else
((cell h1 (List.length h) 2).bind (getI .i64)).bind fun n5 =>
((cell h1 (List.length h) 1).bind getS).bind fun l6 =>
(run (Et base) 87 [(vI n5), (vI (0 : Int)), (vI ((l6.2 : Nat) : Int))] h1).bind fun r7 =>
((some r7.1).bind getB).bind fun b8 =>
(if (!b8) = true then
some (.inl ([some (vL v1 v1n), some (vL v2 v2n), some (vP (List.length h)), some (.bool true)], r7.2))
else
(run (Et base) 88 [(vL v1 v1n)] r7.2).bind fun r9 =>
((some r9.1).bind getB).bind fun b10 =>
some (.inl ([some (vL v1 v1n), some (vL v2 v2n), some (vP (List.length h)), some (.bool (!b10))], r9.2)))))).bind fun j2 => joinK j2 fun j2 =>
j_LLAB j2.1 fun l11 l12 d13 b14 =>
(if b14 = true then
some ((.bool false), j2.2)
else
(loopL (B36_0 base) [some (vL l11.1 l11.2), some (vA d13), some (vL l12.1 l12.2), some (vI ((l12.2 : Nat) : Int)), some (vI (0 : Int))] j2.2).bind fun q15 =>
(if q15.1 = 1 then
((sget q15.2.1 0).bind getB).bind fun b16 =>
some ((.bool b16), q15.2.2)
else
(if q15.1 = 2 then
some ((.bool true), q15.2.2)
else
none)))) = some r) : run (Et base) 36 [(.agg #[(vL v0_0 v0_0n), (vL v0_1 v0_1n), (vI v0_2)]), (vL v1 v1n), (vL v2 v2n)] h = some r := run_i (an := a36) Try.func36 (by kernel_rfl) (.trans (by kernel_rfl) hx)
noncomputable def B37_0 (base : Nat) : Body := fun l h => lay s37_0 l fun s => exCode (Et base) (run (Et base)) loopL a37_0 (subC [1, 1, 0, 1, 0, 0] (bodyC Try.f37)) s h (keepK s37_0 e37_0)
theorem B37_0_eq (base : Nat) (v0 : Option Addr) (v0n : Nat) (v1 : Option Addr) (v1n : Nat) (v5 : Int) (h : AH) : B37_0 base [some (vL v0 v0n), some (vL v1 v1n), some (vI v5)] h =
((if (decide (v5 < ((v0n : Nat) : Int))) = true then
(if 0 ≤ v5 ∧ v5 < ((v0n : Nat) : Int) then
((v0 : Option Addr)).bind fun a1 =>
((cell h a1.block (a1.off + Int.toNat v5 * 1)).bind (getI .i64)).bind fun n2 =>
(if 0 ≤ v5 ∧ v5 < ((v1n : Nat) : Int) then
((v1 : Option Addr)).bind fun a3 =>
((cell h a3.block (a3.off + Int.toNat v5 * 1)).bind (getI .i64)).bind fun n4 =>
(if (n2 != n4) = true then
some (1, [some (.bool false)], h)
else
some (0, [some (.slice v0 v0n v0n), some (.slice v1 v1n v1n), some (.int .i64 (IntKind.wrap .i64 (v5 + (1 : Int))))], h))
else none)
else none)
else
some (2, [], h)) : Option (Nat × Slots × AH)) := by kernel_rfl
theorem r37 {base : Nat} {v0 : Option Addr} {v0n : Nat} {v1 : Option Addr} {v1n : Nat} {h : AH} {r : Value × AH} (hx : ((if (((v0n : Nat) : Int) != ((v1n : Nat) : Int)) = true then
some ((.bool false), h)
else
(loopL (B37_0 base) [some (.slice v0 v0n v0n), some (.slice v1 v1n v1n), some (.int .i64 (0 : Int))] h).bind fun q1 =>
(if q1.1 = 1 then
((sget q1.2.1 0).bind getB).bind fun b2 =>
some ((.bool b2), q1.2.2)
else
(if q1.1 = 2 then
some ((.bool true), q1.2.2)
else
none)))) = some r) : run (Et base) 37 [(vL v0 v0n), (vL v1 v1n)] h = some r := run_i (an := a37) Try.func37 (by kernel_rfl) (.trans (by kernel_rfl) hx)
theorem r67 {base : Nat} {v0 : Option Addr} {v0n : Nat} {v1 : Int} {h : AH} {r : Value × AH} (hx : ((if (decide ((IntKind.wrap .i64 (v1 - ((v0n : Nat) : Int))) < (0 : Int))) = true then
some ((.int .i64 (-1 : Int)), h)
else
some ((.int .i64 (IntKind.wrap .i64 (v1 - ((v0n : Nat) : Int)))), h))) = some r) : run (Et base) 67 [(vL v0 v0n), (vI v1)] h = some r := run_i (an := a67) Try.func67 (by kernel_rfl) (.trans (by kernel_rfl) hx)
theorem r70 {base : Nat} {v0_0 : Int} {v0_1 : Int} {v0_2 : ByteArray} {v0_3 : Option Addr} {v0_3n : Nat} {h : AH} {r : Value × AH} (hx : ((some (h ++ [some ⟨[(.int .i64 v0_0), (.int .i64 v0_1), (.string v0_2), (.slice v0_3 v0_3n v0_3n)], 39⟩])).bind fun h1 =>
((cell h1 (List.length h) 0).bind (getI .i64)).bind fun n2 =>
((cell h1 (List.length h) 1).bind (getI .i64)).bind fun n3 =>
((cell h1 (List.length h) 2).bind getStr).bind fun s4 =>
((cell h1 (List.length h) 3).bind getS).bind fun l5 =>
(run (Et base) 131 [(.agg #[(.int .i64 n2), (.int .i64 n3), (.string s4), (.slice l5.1 l5.2 l5.2)]), (.int .i64 (6 : Int)), (.int .i64 (100 : Int))] h1).bind fun r6 =>
((some r6.1).bind (getI .i64)).bind fun n7 =>
some ((.bool (decide (n7 ≥ (0 : Int)))), r6.2)) = some r) : run (Et base) 70 [(.agg #[(vI v0_0), (vI v0_1), (vT v0_2), (vL v0_3 v0_3n)])] h = some r := run_i (an := a70) Try.func70 (by kernel_rfl) (.trans (by kernel_rfl) hx)
theorem r83 {base : Nat} {v0 : Int} {v1 : Int} {v2 : Int} {h : AH} {r : Value × AH} (hx : ((if (decide (v0 ≥ v1)) = true then
some ((.bool (decide (v0 ≤ v2))), h)
else
some ((.bool false), h))) = some r) : run (Et base) 83 [(vI v0), (vI v1), (vI v2)] h = some r := run_i (an := a83) Try.func83 (by kernel_rfl) (.trans (by kernel_rfl) hx)
noncomputable def B84_0 (base : Nat) : Body := fun l h => lay s84_0 l fun s => exCode (Et base) (run (Et base)) loopL a84_0 (subC [1, 0, 1, 0, 0] (bodyC Try.f84)) s h (keepK s84_0 e84_0)
theorem B84_0_eq (base : Nat) (v0 : Option Addr) (v0n : Nat) (v3 : Int) (h : AH) : B84_0 base [some (vL v0 v0n), some (vI v3)] h =
((if (decide (v3 < ((v0n : Nat) : Int))) = true then
((if 0 ≤ v3 ∧ v3 < ((v0n : Nat) : Int) then
((v0 : Option Addr)).bind fun a2 =>
((cell h a2.block (a2.off + Int.toNat v3 * 1)).bind getStr).bind fun s3 =>
(run (Et base) 139 [(.string s3)] h).bind fun r4 =>
((some r4.1).bind getB).bind fun b5 =>
(if (!b5) = true then
some (.inl ([some (.slice v0 v0n v0n), some (.int .i64 v3), some (.bool true)], r4.2))
else
(if 0 ≤ v3 ∧ v3 < ((v0n : Nat) : Int) then
((v0 : Option Addr)).bind fun a6 =>
((cell r4.2 a6.block (a6.off + Int.toNat v3 * 1)).bind getStr).bind fun s7 =>
(run (Et base) 140 [(.slice v0 v0n v0n), (.string s7)] r4.2).bind fun r8 =>
((some r8.1).bind (getI .i64)).bind fun n9 =>
some (.inl ([some (.slice v0 v0n v0n), some (.int .i64 v3), some (.bool (n9 != v3))], r8.2))
else none))
else none)).bind fun j1 => joinK j1 fun j1 =>
((sget j1.1 0).bind getS).bind fun l10 =>
((sget (j1.1.tail) 0).bind (getI .i64)).bind fun n11 =>
((sget (j1.1.tail.tail) 0).bind getB).bind fun b12 =>
(if b12 = true then
some (1, [some (.bool false)], j1.2)
else
some (0, [some (.slice l10.1 l10.2 l10.2), some (.int .i64 (IntKind.wrap .i64 (n11 + (1 : Int))))], j1.2))
else
some (2, [some (.slice v0 v0n v0n)], h)) : Option (Nat × Slots × AH)) := by kernel_rfl
theorem r84 {base : Nat} {v0 : Option Addr} {v0n : Nat} {h : AH} {r : Value × AH} (hx : ((loopL (B84_0 base) [some (.slice v0 v0n v0n), some (.int .i64 (0 : Int))] h).bind fun q1 =>
(if q1.1 = 1 then
((sget q1.2.1 0).bind getB).bind fun b2 =>
some ((.bool b2), q1.2.2)
else
(if q1.1 = 2 then
((sget q1.2.1 0).bind getS).bind fun l3 =>
some ((.bool (decide (((l3.2 : Nat) : Int) ≤ (200 : Int)))), q1.2.2)
else
none))) = some r) : run (Et base) 84 [(vL v0 v0n)] h = some r := run_i (an := a84) Try.func84 (by kernel_rfl) (.trans (by kernel_rfl) hx)
theorem r85 {base : Nat} {v0_0 : Option Addr} {v0_0n : Nat} {v0_1 : Option Addr} {v0_1n : Nat} {v0_2 : Int} {v1 : Option Addr} {v1n : Nat} {v2 : Int} {h : AH} {r : Value × AH} (hx : (nw1 h 50 [(vL v0_0 v0_0n), (vL v0_1 v0_1n), (vI v0_2)] fun h1 =>
nw1 h1 39 [(vI 0), (vI 0), (vT ⟨#[]⟩), (vL none 0)] fun h2 =>
c_LLI h2 (List.length h) 0 fun l3 l4 n5 =>
nw1 h2 172 [(vL l3.1 l3.2), (vL l4.1 l4.2), (vI n5), (vL v1 v1n), (vI (100 : Int)), (.bool false)] fun h6 =>
(run (Et base) 141 [(vP (List.length h2)), (vI v2), (vI (6 : Int))] h6).bind fun r7 =>
gG (some r7.1) 4 fun l8 =>
l_IITL l8 fun n9 n10 s11 l12 =>
nw1 r7.2 39 [(vI 0), (vI 0), (vT ⟨#[]⟩), (vL none 0)] fun h13 =>
(wr base h13 (List.length r7.2) 0 [(vI n9), (vI n10), (vT s11), (vL l12.1 l12.2)]).bind fun h14 =>
(((cell h14 (List.length h2) 5).bind getB).bind fun b16 =>
(if b16 = true then
some (.inl ([some (vP (List.length h1)), some (vP (List.length r7.2)), some (.bool true)], h14))
else
c_IITL h14 (List.length r7.2) 0 fun n17 n18 s19 l20 =>
(run (Et base) 70 [(.agg #[(vI n17), (vI n18), (vT s19), (vL l20.1 l20.2)])] h14).bind fun r21 =>
((some r21.1).bind getB).bind fun b22 =>
some (.inl ([some (vP (List.length h1)), some (vP (List.length r7.2)), some (.bool (!b22))], r21.2)))).bind fun j15 => joinK j15 fun j15 =>
j_AAB j15.1 fun d23 d24 b25 =>
(if b25 = true then
(wr base j15.2 d23.block d23.off [(vI (0 : Int)), (vI (0 : Int)), (vT (⟨#[]⟩ : ByteArray)), (vL none 0)]).bind fun h26 =>
c_IITL h26 d23.block d23.off fun n27 n28 s29 l30 =>
some ((.tuple #[(.agg #[(vI n27), (vI n28), (vT s29), (vL l30.1 l30.2)]), (.bool false)]), h26)
else
c_IITL j15.2 d24.block d24.off fun n31 n32 s33 l34 =>
(wr base j15.2 d23.block d23.off [(vI n31), (vI n32), (vT s33), (vL l34.1 l34.2)]).bind fun h35 =>
c_IITL h35 d23.block d23.off fun n36 n37 s38 l39 =>
some ((.tuple #[(.agg #[(vI n36), (vI n37), (vT s38), (vL l39.1 l39.2)]), (.bool true)]), h35))) = some r) : run (Et base) 85 [(.agg #[(vL v0_0 v0_0n), (vL v0_1 v0_1n), (vI v0_2)]), (vL v1 v1n), (vI v2)] h = some r := run_i (an := a85) Try.func85 (by kernel_rfl) (.trans (by kernel_rfl) hx)
noncomputable def B86_0 (base : Nat) : Body := fun l h => lay s86_0 l fun s => exCode (Et base) (run (Et base)) loopL a86_0 (subC [1, 1, 1, 1, 1, 1, 1, 1, 1, 0, 1, 0, 0] (bodyC Try.f86)) s h (keepK s86_0 e86_0)
theorem B86_0_eq (base : Nat) (v1 : Int) (v2 : Int) (v3 : Addr) (v9 : Option Addr) (v9n : Nat) (v12 : Int) (h : AH) : B86_0 base [some (vI v1), some (vI v2), some (vA v3), some (vL v9 v9n), some (vI v12)] h =
(((if (decide (v12 < ((v9n : Nat) : Int))) = true then
(run (Et base) 145 [(vI v1)] h).bind fun r2 =>
((some r2.1).bind (getI .i64)).bind fun n3 =>
some (.inl ([some (vI v1), some (vI v2), some (vA v3), some (vL v9 v9n), some (vI v12), some (.bool (n3 != (6 : Int)))], r2.2))
else
some (.inl ([some (vI v1), some (vI v2), some (vA v3), some (vL v9 v9n), some (vI v12), some (.bool false)], h)))).bind fun j1 => joinK j1 fun j1 =>
j_IIALIB j1.1 fun n4 n5 d6 l7 n8 b9 =>
(if b9 = true then
c_LLI j1.2 d6.block d6.off fun l10 l11 n12 =>
(if 0 ≤ n8 ∧ n8 < ((l7.2 : Nat) : Int) then
((l7.1 : Option Addr)).bind fun a13 =>
((cell j1.2 a13.block (a13.off + Int.toNat n8 * 1)).bind (getI .i64)).bind fun n14 =>
(run (Et base) 86 [(.agg #[(vL l10.1 l10.2), (vL l11.1 l11.2), (vI n12)]), (vI n14), (vI n5)] j1.2).bind fun r15 =>
((some r15.1).bind getB).bind fun b16 =>
(if (!b16) = true then
some (1, [some (.bool false)], r15.2)
else
some (0, [some (vI n4), some (vI n5), some (vA d6), some (vL l7.1 l7.2), some (vI (IntKind.wrap .i64 (n8 + (1 : Int))))], r15.2))
else none)
else
some (2, [], j1.2)) : Option (Nat × Slots × AH)) := by kernel_rfl
noncomputable abbrev qf86 (base : Nat) (v0_0 : Option Addr) (v0_0n : Nat) (v0_1 : Option Addr) (v0_1n : Nat) (v0_2 : Int) (v1 : Int) (v2 : Int) (h : AH) : Option (Value × AH) :=
nw1 h 50 [(vL v0_0 v0_0n), (vL v0_1 v0_1n), (vI v0_2)] fun h1 =>
c_LLI h1 (List.length h) 0 fun l2 l3 n4 =>
(run (Et base) 142 [(.agg #[(vL l2.1 l2.2), (vL l3.1 l3.2), (vI n4)]), (vI v1)] h1).bind fun r5 =>
((some r5.1).bind (getI .i64)).bind fun n6 =>
(if (n6 == (0 : Int)) = true then
some ((.bool true), r5.2)
else
(run (Et base) 143 [(vI v1)] r5.2).bind fun r7 =>
((some r7.1).bind (getI .i64)).bind fun n8 =>
(if (decide (n8 ≥ v2)) = true then
some ((.bool false), r7.2)
else
((if (decide (n8 < (100000 : Int))) = true then
some (.inl ([some (vI v1), some (vI (100000 : Int)), some (vP (List.length h)), some (vI n6), some (vI n8)], r7.2))
else
(((cell r7.2 (List.length h) 2).bind (getI .i64)).bind fun n11 =>
(if (decide (n8 < (IntKind.wrap .i64 ((100000 : Int) + n11)))) = true then
((cell r7.2 (List.length h) 2).bind (getI .i64)).bind fun n12 =>
some (.inl ([some (vI v1), some (vI v2), some (vP (List.length h)), some (vI n6), some (vI n8), some (.bool (decide (v2 > (IntKind.wrap .i64 ((100000 : Int) + n12)))))], r7.2))
else
some (.inl ([some (vI v1), some (vI v2), some (vP (List.length h)), some (vI n6), some (vI n8), some (.bool false)], r7.2)))).bind fun j10 => joinK j10 fun j10 =>
j_IIAIIB j10.1 fun n13 n14 d15 n16 n17 b18 =>
(if b18 = true then
((cell j10.2 d15.block (d15.off + 2)).bind (getI .i64)).bind fun n19 =>
some (.inl ([some (vI n13), some (vI (IntKind.wrap .i64 ((100000 : Int) + n19))), some (vA d15), some (vI n16), some (vI n17)], j10.2))
else
some (.inl ([some (vI n13), some (vI n14), some (vA d15), some (vI n16), some (vI n17)], j10.2))))).bind fun j9 => joinK j9 fun j9 =>
j_IIAII j9.1 fun n20 n21 d22 n23 n24 =>
c_LLI j9.2 d22.block d22.off fun l25 l26 n27 =>
(run (Et base) 144 [(.agg #[(vL l25.1 l25.2), (vL l26.1 l26.2), (vI n27)]), (vI n24), (vI n23)] j9.2).bind fun r28 =>
(getTup 2 r28.1).bind fun l29 =>
l_LB l29 fun l30 b31 =>
((run (Et base) 145 [(vI n20)] r28.2).bind fun r33 =>
((some r33.1).bind (getI .i64)).bind fun n34 =>
(if (n34 != (5 : Int)) = true then
some (.inl ([some (vI n20), some (vI n21), some (vA d22), some (vL l30.1 l30.2), some (vI (1 : Int))], r33.2))
else
some (.inl ([some (vI n20), some (vI n21), some (vA d22), some (vL l30.1 l30.2), some (vI (0 : Int))], r33.2)))).bind fun j32 => joinK j32 fun j32 =>
j_IIALI j32.1 fun n35 n36 d37 l38 n39 =>
(loopL (B86_0 base) [some (vI n35), some (vI n36), some (vA d37), some (vL l38.1 l38.2), some (vI n39)] j32.2).bind fun q40 =>
(if q40.1 = 1 then
((sget q40.2.1 0).bind getB).bind fun b41 =>
some ((.bool b41), q40.2.2)
else
(if q40.1 = 2 then
some ((.bool true), q40.2.2)
else
none))))
theorem r86 {base : Nat} {v0_0 : Option Addr} {v0_0n : Nat} {v0_1 : Option Addr} {v0_1n : Nat} {v0_2 : Int} {v1 : Int} {v2 : Int} {h : AH} {r : Value × AH} (hx : qf86 base v0_0 v0_0n v0_1 v0_1n v0_2 v1 v2 h = some r) : run (Et base) 86 [(.agg #[(vL v0_0 v0_0n), (vL v0_1 v0_1n), (vI v0_2)]), (vI v1), (vI v2)] h = some r := run_i (an := a86) Try.func86 (by kernel_rfl) (.trans (by kernel_rfl) hx)
theorem r87 {base : Nat} {v0 : Int} {v1 : Int} {v2 : Int} {h : AH} {r : Value × AH} (hx : ((if (decide (v0 ≥ v1)) = true then
some ((.bool (decide (v0 ≤ v2))), h)
else
some ((.bool false), h))) = some r) : run (Et base) 87 [(vI v0), (vI v1), (vI v2)] h = some r := run_i (an := a87) Try.func87 (by kernel_rfl) (.trans (by kernel_rfl) hx)
noncomputable def B88_0 (base : Nat) : Body := fun l h => lay s88_0 l fun s => exCode (Et base) (run (Et base)) loopL a88_0 (subC [1, 0, 1, 0, 0] (bodyC Try.f88)) s h (keepK s88_0 e88_0)
theorem B88_0_eq (base : Nat) (v0 : Option Addr) (v0n : Nat) (v5 : Option Addr) (v5n : Nat) (v6 : Int) (v7 : Int) (h : AH) : B88_0 base [some (vL v0 v0n), some (vL v5 v5n), some (vI v6), some (vI v7)] h =
((if (decide (v7 < v6)) = true then
(if 0 ≤ v7 ∧ v7 < ((v5n : Nat) : Int) then
((v5 : Option Addr)).bind fun a1 =>
((cell h a1.block (a1.off + Int.toNat v7 * 1)).bind getStr).bind fun s2 =>
((run (Et base) 146 [(vT s2)] h).bind fun r4 =>
((some r4.1).bind getB).bind fun b5 =>
(if (!b5) = true then
some (.inl ([some (vL v0 v0n), some (vL v5 v5n), some (vI v6), some (vI v7), some (.bool true)], r4.2))
else
(if 0 ≤ (0 : Int) ∧ (0 : Int) ≤ v7 ∧ v7 ≤ ((v0n : Nat) : Int) ∧ okTy base r4.2 v0 9 (Int.toNat (0 : Int)) = true then
(run (Et base) 147 [(.slice (shiftA v0 (Int.toNat (0 : Int) * 1)) (Int.toNat v7 - Int.toNat (0 : Int)) (Int.toNat v7 - Int.toNat (0 : Int))), (vT s2)] r4.2).bind fun r6 =>
((some r6.1).bind (getI .i64)).bind fun n7 =>
some (.inl ([some (vL v0 v0n), some (vL v5 v5n), some (vI v6), some (vI v7), some (.bool (decide (n7 ≥ (0 : Int))))], r6.2))
else none))).bind fun j3 => joinK j3 fun j3 =>
j_LLIIB j3.1 fun l8 l9 n10 n11 b12 =>
(if b12 = true then
some (1, [some (.bool false)], j3.2)
else
some (0, [some (vL l8.1 l8.2), some (vL l9.1 l9.2), some (vI n10), some (vI (IntKind.wrap .i64 (n11 + (1 : Int))))], j3.2))
else none)
else
some (2, [some (vL v0 v0n)], h)) : Option (Nat × Slots × AH)) := by kernel_rfl
theorem r88 {base : Nat} {v0 : Option Addr} {v0n : Nat} {h : AH} {r : Value × AH} (hx : ((loopL (B88_0 base) [some (.slice v0 v0n v0n), some (.slice v0 v0n v0n), some (.int .i64 ((v0n : Nat) : Int)), some (.int .i64 (0 : Int))] h).bind fun q1 =>
(if q1.1 = 1 then
((sget q1.2.1 0).bind getB).bind fun b2 =>
some ((.bool b2), q1.2.2)
else
(if q1.1 = 2 then
((sget q1.2.1 0).bind getS).bind fun l3 =>
some ((.bool (decide (((l3.2 : Nat) : Int) ≤ (200 : Int)))), q1.2.2)
else
none))) = some r) : run (Et base) 88 [(vL v0 v0n)] h = some r := run_i (an := a88) Try.func88 (by kernel_rfl) (.trans (by kernel_rfl) hx)
theorem r89 {base : Nat} {v0_0 : Option Addr} {v0_0n : Nat} {v0_1 : Option Addr} {v0_1n : Nat} {v0_2 : Int} {v1 : Option Addr} {v1n : Nat} {v2 : Int} {h : AH} {r : Value × AH} (hx : ((some (h ++ [some ⟨[(.slice v0_0 v0_0n v0_0n), (.slice v0_1 v0_1n v0_1n), (.int .i64 v0_2)], 50⟩])).bind fun h1 =>
(some (h1 ++ [some ⟨[(.int .i64 0), (.int .i64 0), (.string ⟨#[]⟩), (.slice none 0 0)], 39⟩])).bind fun h2 =>
(run (Et base) 148 [(.func (.func 149) #[(.pointer (some ⟨(List.length h), 0, none⟩))] #[]), (.slice v1 v1n v1n), (.int .i64 v2)] h2).bind fun r3 =>
(getTup 2 r3.1).bind fun l4 =>
((l4[0]?).bind (getAgg 4)).bind fun l5 =>
((l5[0]?).bind (getI .i64)).bind fun n6 =>
((l5[1]?).bind (getI .i64)).bind fun n7 =>
((l5[2]?).bind getStr).bind fun s8 =>
((l5[3]?).bind getS).bind fun l9 =>
((l4[1]?).bind getB).bind fun b10 =>
(wr base r3.2 (List.length h1) 0 [(.int .i64 n6), (.int .i64 n7), (.string s8), (.slice l9.1 l9.2 l9.2)]).bind fun h11 =>
((cell h11 (List.length h1) 0).bind (getI .i64)).bind fun n12 =>
((cell h11 (List.length h1) 1).bind (getI .i64)).bind fun n13 =>
((cell h11 (List.length h1) 2).bind getStr).bind fun s14 =>
((cell h11 (List.length h1) 3).bind getS).bind fun l15 =>
some ((.tuple #[(.agg #[(.int .i64 n12), (.int .i64 n13), (.string s14), (.slice l15.1 l15.2 l15.2)]), (.bool b10)]), h11)) = some r) : run (Et base) 89 [(.agg #[(vL v0_0 v0_0n), (vL v0_1 v0_1n), (vI v0_2)]), (vL v1 v1n), (vI v2)] h = some r := run_i (an := a89) Try.func89 (by kernel_rfl) (.trans (by kernel_rfl) hx)
noncomputable def B90_0 (base : Nat) : Body := fun l h => lay s90_0 l fun s => exCode (Et base) (run (Et base)) loopL a90_0 (subC [1, 1, 1, 0, 1, 0, 0] (bodyC Try.f90)) s h (keepK s90_0 e90_0)
theorem B90_0_eq (base : Nat) (v0 : Option Addr) (v5 : Int) (v17 : Option Addr) (v17n : Nat) (v18 : Int) (v19 : Int) (h : AH) : B90_0 base [some (.pointer v0), some (vI v5), some (vL v17 v17n), some (vI v18), some (vI v19)] h =
((if (decide (v19 < v18)) = true then
(if 0 ≤ v19 ∧ v19 < ((v17n : Nat) : Int) then
((v17 : Option Addr)).bind fun a1 =>
((cell h a1.block (a1.off + Int.toNat v19 * 1)).bind (getI .i64)).bind fun n2 =>
((run (Et base) 150 [(vI n2)] h).bind fun r4 =>
((some r4.1).bind getB).bind fun b5 =>
(if b5 = true then
(run (Et base) 152 [(vI n2)] r4.2).bind fun r6 =>
((some r6.1).bind (getI .i64)).bind fun n7 =>
(run (Et base) 151 [(.pointer v0), (vI n7)] r6.2).bind fun r8 =>
((some r8.1).bind (getI .i64)).bind fun n9 =>
(if (decide (n9 > v5)) = true then
some (.inl ([some (.pointer v0), some (vI v5), some (vL v17 v17n), some (vI v18), some (vI v19), some (.bool true)], r8.2))
else
(run (Et base) 90 [(.pointer v0), (vI n2)] r8.2).bind fun r10 =>
((some r10.1).bind getB).bind fun b11 =>
some (.inl ([some (.pointer v0), some (vI v5), some (vL v17 v17n), some (vI v18), some (vI v19), some (.bool (!b11))], r10.2)))
else
(run (Et base) 90 [(.pointer v0), (vI n2)] r4.2).bind fun r12 =>
((some r12.1).bind getB).bind fun b13 =>
some (.inl ([some (.pointer v0), some (vI v5), some (vL v17 v17n), some (vI v18), some (vI v19), some (.bool (!b13))], r12.2)))).bind fun j3 => joinK j3 fun j3 =>
j_PILIIB j3.1 fun p14 n15 l16 n17 n18 b19 =>
(if b19 = true then
some (1, [some (.bool false)], j3.2)
else
some (0, [some (.pointer p14), some (vI n15), some (vL l16.1 l16.2), some (vI n17), some (vI (IntKind.wrap .i64 (n18 + (1 : Int))))], j3.2))
else none)
else
some (2, [], h)) : Option (Nat × Slots × AH)) := by kernel_rfl
theorem r90 {base : Nat} {v0 : Option Addr} {v1 : Int} {h : AH} {r : Value × AH} (hx : ((run (Et base) 150 [(.int .i64 v1)] h).bind fun r1 =>
((some r1.1).bind getB).bind fun b2 =>
(if (!b2) = true then
some ((.bool true), r1.2)
else
(run (Et base) 152 [(.int .i64 v1)] r1.2).bind fun r3 =>
((some r3.1).bind (getI .i64)).bind fun n4 =>
(run (Et base) 151 [(.pointer v0), (.int .i64 n4)] r3.2).bind fun r5 =>
((some r5.1).bind (getI .i64)).bind fun n6 =>
(run (Et base) 153 [(.pointer v0), (.int .i64 v1)] r5.2).bind fun r7 =>
((some r7.1).bind getS).bind fun l8 =>
(loopL (B90_0 base) [some (.pointer v0), some (.int .i64 n6), some (.slice l8.1 l8.2 l8.2), some (.int .i64 ((l8.2 : Nat) : Int)), some (.int .i64 (0 : Int))] r7.2).bind fun q9 =>
(if q9.1 = 1 then
((sget q9.2.1 0).bind getB).bind fun b10 =>
some ((.bool b10), q9.2.2)
else
(if q9.1 = 2 then
some ((.bool true), q9.2.2)
else
none)))) = some r) : run (Et base) 90 [(.pointer v0), (vI v1)] h = some r := run_i (an := a90) Try.func90 (by kernel_rfl) (.trans (by kernel_rfl) hx)
theorem r102 {base : Nat} {v0_0 : Int} {v0_1 : Int} {v0_2 : ByteArray} {v0_3 : Option Addr} {v0_3n : Nat} {h : AH} {r : Value × AH} (hx : ((some (h ++ [some ⟨[(.int .i64 v0_0), (.int .i64 v0_1), (.string v0_2), (.slice v0_3 v0_3n v0_3n)], 39⟩])).bind fun h1 =>
((cell h1 (List.length h) 0).bind (getI .i64)).bind fun n2 =>
((cell h1 (List.length h) 1).bind (getI .i64)).bind fun n3 =>
((cell h1 (List.length h) 2).bind getStr).bind fun s4 =>
((cell h1 (List.length h) 3).bind getS).bind fun l5 =>
(run (Et base) 162 [(.agg #[(.int .i64 n2), (.int .i64 n3), (.string s4), (.slice l5.1 l5.2 l5.2)]), (.int .i64 (1 : Int)), (.int .i64 (0 : Int))] h1).bind fun r6 =>
(getTup 2 r6.1).bind fun l7 =>
((l7[0]?).bind (getI .i64)).bind fun n8 =>
((l7[1]?).bind getB).bind fun b9 =>
some ((.bool b9), r6.2)) = some r) : run (Et base) 102 [(.agg #[(vI v0_0), (vI v0_1), (vT v0_2), (vL v0_3 v0_3n)])] h = some r := run_i (an := a102) Try.func102 (by kernel_rfl) (.trans (by kernel_rfl) hx)
noncomputable def B131_0 (base : Nat) : Body := fun l h => lay s131_0 l fun s => exCode (Et base) (run (Et base)) loopL a131_0 (subC [1, 1, 1, 0, 1, 0, 0] (bodyC Try.f131)) s h (keepK s131_0 e131_0)
theorem B131_0_eq (base : Nat) (v1 : Int) (v2 : Int) (v3 : Addr) (v7 : Int) (h : AH) : B131_0 base [some (vI v1), some (vI v2), some (vA v3), some (vI v7)] h =
((((cell h v3.block (v3.off + 3)).bind getS).bind fun l2 =>
(if (decide (v7 < ((l2.2 : Nat) : Int))) = true then
some (.inl ([some (vI v1), some (vI v2), some (vA v3), some (vI v7), some (.bool (decide (v2 ≥ (0 : Int))))], h))
else
some (.inl ([some (vI v1), some (vI v2), some (vA v3), some (vI v7), some (.bool false)], h)))).bind fun j1 => joinK j1 fun j1 =>
j_IIAIB j1.1 fun n3 n4 d5 n6 b7 =>
(if b7 = true then
((cell j1.2 d5.block (d5.off + 3)).bind getS).bind fun l8 =>
(if 0 ≤ n6 ∧ n6 < ((l8.2 : Nat) : Int) then
((l8.1 : Option Addr)).bind fun a9 =>
c_IITL j1.2 a9.block (a9.off + Int.toNat n6 * 4) fun n10 n11 s12 l13 =>
(run (Et base) 131 [(.agg #[(vI n10), (vI n11), (vT s12), (vL l13.1 l13.2)]), (vI (IntKind.wrap .i64 (n3 - (1 : Int)))), (vI n4)] j1.2).bind fun r14 =>
((some r14.1).bind (getI .i64)).bind fun n15 =>
some (0, [some (vI n3), some (vI n15), some (vA d5), some (vI (IntKind.wrap .i64 (n6 + (1 : Int))))], r14.2)
else none)
else
some (2, [some (vI n4)], j1.2)) : Option (Nat × Slots × AH)) := by kernel_rfl
theorem r131 {base : Nat} {v0_0 : Int} {v0_1 : Int} {v0_2 : ByteArray} {v0_3 : Option Addr} {v0_3n : Nat} {v1 : Int} {v2 : Int} {h : AH} {r : Value × AH} (hx : (nw1 h 39 [(vI v0_0), (vI v0_1), (vT v0_2), (vL v0_3 v0_3n)] fun h1 =>
((if (decide (v1 < (1 : Int))) = true then
some (.inl ([some (vI v1), some (vI v2), some (vP (List.length h)), some (.bool true)], h1))
else
(if (decide (v2 < (1 : Int))) = true then
some (.inl ([some (vI v1), some (vI v2), some (vP (List.length h)), some (.bool true)], h1))
else
c_IITL h1 (List.length h) 0 fun n3 n4 s5 l6 =>
(run (Et base) 173 [(.agg #[(vI n3), (vI n4), (vT s5), (vL l6.1 l6.2)])] h1).bind fun r7 =>
((some r7.1).bind getB).bind fun b8 =>
some (.inl ([some (vI v1), some (vI v2), some (vP (List.length h)), some (.bool (!b8))], r7.2))))).bind fun j2 => joinK j2 fun j2 =>
j_IIAB j2.1 fun n9 n10 d11 b12 =>
(if b12 = true then
some ((vI (-1 : Int)), j2.2)
else
(loopL (B131_0 base) [some (vI n9), some (vI (IntKind.wrap .i64 (n10 - (1 : Int)))), some (vA d11), some (vI (0 : Int))] j2.2).bind fun q13 =>
(if q13.1 = 2 then
((sget q13.2.1 0).bind (getI .i64)).bind fun n14 =>
some ((vI n14), q13.2.2)
else
none))) = some r) : run (Et base) 131 [(.agg #[(vI v0_0), (vI v0_1), (vT v0_2), (vL v0_3 v0_3n)]), (vI v1), (vI v2)] h = some r := run_i (an := a131) Try.func131 (by kernel_rfl) (.trans (by kernel_rfl) hx)
theorem r132 {base : Nat} {v0 : Int} {v1 : Int} {h : AH} {r : Value × AH} (hx : (((run (Et base) 83 [(.int .i64 v0), (.int .i64 (0 : Int)), (.int .i64 (6 : Int))] h).bind fun r2 =>
((some r2.1).bind getB).bind fun b3 =>
(if (!b3) = true then
some (.inl ([some (.int .i64 v0), some (.int .i64 v1), some (.bool true)], r2.2))
else
(run (Et base) 83 [(.int .i64 v1), (.int .i64 (0 : Int)), (.int .i64 (4000000 : Int))] r2.2).bind fun r4 =>
((some r4.1).bind getB).bind fun b5 =>
some (.inl ([some (.int .i64 v0), some (.int .i64 v1), some (.bool (!b5))], r4.2)))).bind fun j1 => joinK j1 fun j1 =>
((sget j1.1 0).bind (getI .i64)).bind fun n6 =>
((sget (j1.1.tail) 0).bind (getI .i64)).bind fun n7 =>
((sget (j1.1.tail.tail) 0).bind getB).bind fun b8 =>
(if b8 = true then
some ((.int .i64 (0 : Int)), j1.2)
else
some ((.int .i64 (IntKind.wrap .i64 ((IntKind.wrap .i64 (n7 * (8 : Int))) + n6))), j1.2))) = some r) : run (Et base) 132 [(vI v0), (vI v1)] h = some r := run_i (an := a132) Try.func132 (by kernel_rfl) (.trans (by kernel_rfl) hx)
noncomputable def B139_0 (base : Nat) : Body := fun l h => lay s139_0 l fun s => exCode (Et base) (run (Et base)) loopL a139_0 (subC [1, 0, 1, 0, 0] (bodyC Try.f139)) s h (keepK s139_0 e139_0)
theorem B139_0_eq (base : Nat) (v0 : ByteArray) (v3 : Int) (h : AH) : B139_0 base [some (vT v0), some (vI v3)] h =
((if (decide (v3 < (v0.size : Int))) = true then
(if 0 ≤ v3 ∧ v3 < (v0.size : Int) then
(run (Et base) 83 [(.int .i64 (IntKind.wrap .i64 ((v0.data.toList.getD (Int.toNat v3) 0).toNat : Int))), (.int .i64 (97 : Int)), (.int .i64 (122 : Int))] h).bind fun r1 =>
((some r1.1).bind getB).bind fun b2 =>
((if (!b2) = true then
(if (v3 == (0 : Int)) = true then
some (.inl ([some (.string v0), some (.int .i64 v3), some (.bool true)], r1.2))
else
(if 0 ≤ v3 ∧ v3 < (v0.size : Int) then
(run (Et base) 83 [(.int .i64 (IntKind.wrap .i64 ((v0.data.toList.getD (Int.toNat v3) 0).toNat : Int))), (.int .i64 (48 : Int)), (.int .i64 (57 : Int))] r1.2).bind fun r4 =>
((some r4.1).bind getB).bind fun b5 =>
some (.inl ([some (.string v0), some (.int .i64 v3), some (.bool (!b5))], r4.2))
else none))
else
some (.inl ([some (.string v0), some (.int .i64 v3), some (.bool false)], r1.2)))).bind fun j3 => joinK j3 fun j3 =>
((sget j3.1 0).bind getStr).bind fun s6 =>
((sget (j3.1.tail) 0).bind (getI .i64)).bind fun n7 =>
((sget (j3.1.tail.tail) 0).bind getB).bind fun b8 =>
(if b8 = true then
some (1, [some (.bool false)], j3.2)
else
some (0, [some (.string s6), some (.int .i64 (IntKind.wrap .i64 (n7 + (1 : Int))))], j3.2))
else none)
else
some (2, [some (.string v0)], h)) : Option (Nat × Slots × AH)) := by kernel_rfl
theorem r139 {base : Nat} {v0 : ByteArray} {h : AH} {r : Value × AH} (hx : ((loopL (B139_0 base) [some (.string v0), some (.int .i64 (0 : Int))] h).bind fun q1 =>
(if q1.1 = 1 then
((sget q1.2.1 0).bind getB).bind fun b2 =>
some ((.bool b2), q1.2.2)
else
(if q1.1 = 2 then
((sget q1.2.1 0).bind getStr).bind fun s3 =>
(run (Et base) 83 [(.int .i64 (s3.size : Int)), (.int .i64 (1 : Int)), (.int .i64 (12 : Int))] q1.2.2).bind fun r4 =>
((some r4.1).bind getB).bind fun b5 =>
some ((.bool b5), r4.2)
else
none))) = some r) : run (Et base) 139 [(vT v0)] h = some r := run_i (an := a139) Try.func139 (by kernel_rfl) (.trans (by kernel_rfl) hx)
noncomputable def B140_0 (base : Nat) : Body := fun l h => lay s140_0 l fun s => exCode (Et base) (run (Et base)) loopL a140_0 (subC [1, 0, 1, 0, 0] (bodyC Try.f140)) s h (keepK s140_0 e140_0)
theorem B140_0_eq (base : Nat) (v0 : Option Addr) (v0n : Nat) (v1 : ByteArray) (v5 : Int) (h : AH) : B140_0 base [some (vL v0 v0n), some (vT v1), some (vI v5)] h =
((if (decide (v5 < ((v0n : Nat) : Int))) = true then
(if 0 ≤ v5 ∧ v5 < ((v0n : Nat) : Int) then
((v0 : Option Addr)).bind fun a1 =>
((cell h a1.block (a1.off + Int.toNat v5 * 1)).bind getStr).bind fun s2 =>
(if (s2.toList == v1.toList) = true then
some (1, [some (.int .i64 v5)], h)
else
some (0, [some (.slice v0 v0n v0n), some (.string v1), some (.int .i64 (IntKind.wrap .i64 (v5 + (1 : Int))))], h))
else none)
else
some (2, [], h)) : Option (Nat × Slots × AH)) := by kernel_rfl
theorem r140 {base : Nat} {v0 : Option Addr} {v0n : Nat} {v1 : ByteArray} {h : AH} {r : Value × AH} (hx : ((loopL (B140_0 base) [some (.slice v0 v0n v0n), some (.string v1), some (.int .i64 (0 : Int))] h).bind fun q1 =>
(if q1.1 = 1 then
((sget q1.2.1 0).bind (getI .i64)).bind fun n2 =>
some ((.int .i64 n2), q1.2.2)
else
(if q1.1 = 2 then
some ((.int .i64 (-1 : Int)), q1.2.2)
else
none))) = some r) : run (Et base) 140 [(vL v0 v0n), (vT v1)] h = some r := run_i (an := a140) Try.func140 (by kernel_rfl) (.trans (by kernel_rfl) hx)
noncomputable abbrev qf141 (base : Nat) (v0 : Option Addr) (v1 : Int) (v2 : Int) (h : AH) : Option (Value × AH) :=
nw1 h 39 [(vI 0), (vI 0), (vT ⟨#[]⟩), (vL none 0)] fun h1 =>
(v0).bind fun a2 =>
((cell h1 a2.block (a2.off + 4)).bind (getI .i64)).bind fun n3 =>
(v0).bind fun a4 =>
(wr base h1 a4.block (a4.off + 4) [(vI (IntKind.wrap .i64 (n3 - (1 : Int))))]).bind fun h5 =>
((if (decide (v1 < (0 : Int))) = true then
some (.inl ([some (.pointer v0), some (vI v1), some (vI v2), some (vP (List.length h)), some (.bool true)], h5))
else
(if (decide (v2 < (1 : Int))) = true then
some (.inl ([some (.pointer v0), some (vI v1), some (vI v2), some (vP (List.length h)), some (.bool true)], h5))
else
(v0).bind fun a7 =>
((cell h5 a7.block (a7.off + 4)).bind (getI .i64)).bind fun n8 =>
some (.inl ([some (.pointer v0), some (vI v1), some (vI v2), some (vP (List.length h)), some (.bool (decide (n8 < (0 : Int))))], h5))))).bind fun j6 => joinK j6 fun j6 =>
j_PIIAB j6.1 fun p9 n10 n11 d12 b13 =>
(if b13 = true then
(p9).bind fun a14 =>
(wr base j6.2 a14.block (a14.off + 5) [(.bool true)]).bind fun h15 =>
(wr base h15 d12.block d12.off [(vI (0 : Int)), (vI (0 : Int)), (vT (⟨#[]⟩ : ByteArray)), (vL none 0)]).bind fun h16 =>
c_IITL h16 d12.block d12.off fun n17 n18 s19 l20 =>
some ((.agg #[(vI n17), (vI n18), (vT s19), (vL l20.1 l20.2)]), h16)
else
(run (Et base) 145 [(vI n10)] j6.2).bind fun r21 =>
((some r21.1).bind (getI .i64)).bind fun n22 =>
((if (n22 == (3 : Int)) = true then
some (.inl ([some (.pointer p9), some (vI n10), some (vI n11), some (vA d12), some (vI n22), some (.bool (n22 == (3 : Int)))], r21.2))
else
some (.inl ([some (.pointer p9), some (vI n10), some (vI n11), some (vA d12), some (vI n22), some (.bool (n22 == (5 : Int)))], r21.2)))).bind fun j23 => joinK j23 fun j23 =>
j_PIIAIB j23.1 fun p24 n25 n26 d27 n28 b29 =>
(if b29 = true then
(run (Et base) 178 [(.pointer p24), (vI n25), (vI n26)] j23.2).bind fun r30 =>
gG (some r30.1) 4 fun l31 =>
l_IITL l31 fun n32 n33 s34 l35 =>
(wr base r30.2 d27.block d27.off [(vI n32), (vI n33), (vT s34), (vL l35.1 l35.2)]).bind fun h36 =>
c_IITL h36 d27.block d27.off fun n37 n38 s39 l40 =>
some ((.agg #[(vI n37), (vI n38), (vT s39), (vL l40.1 l40.2)]), h36)
else
(if (n28 == (4 : Int)) = true then
(run (Et base) 143 [(vI n25)] j23.2).bind fun r41 =>
((some r41.1).bind (getI .i64)).bind fun n42 =>
(run (Et base) 179 [(.pointer p24), (vI n42), (vI n26)] r41.2).bind fun r43 =>
gG (some r43.1) 4 fun l44 =>
l_IITL l44 fun n45 n46 s47 l48 =>
(wr base r43.2 d27.block d27.off [(vI n45), (vI n46), (vT s47), (vL l48.1 l48.2)]).bind fun h49 =>
c_IITL h49 d27.block d27.off fun n50 n51 s52 l53 =>
some ((.agg #[(vI n50), (vI n51), (vT s52), (vL l53.1 l53.2)]), h49)
else
(if (n28 == (6 : Int)) = true then
(run (Et base) 143 [(vI n25)] j23.2).bind fun r54 =>
((some r54.1).bind (getI .i64)).bind fun n55 =>
(run (Et base) 180 [(.pointer p24), (vI n55)] r54.2).bind fun r56 =>
gG (some r56.1) 4 fun l57 =>
l_IITL l57 fun n58 n59 s60 l61 =>
(wr base r56.2 d27.block d27.off [(vI n58), (vI n59), (vT s60), (vL l61.1 l61.2)]).bind fun h62 =>
c_IITL h62 d27.block d27.off fun n63 n64 s65 l66 =>
some ((.agg #[(vI n63), (vI n64), (vT s65), (vL l66.1 l66.2)]), h62)
else
(p24).bind fun a67 =>
((cell j23.2 a67.block (a67.off + 3)).bind getS).bind fun l68 =>
nw1 j23.2 195 [(vL none 0), (vL l68.1 l68.2), (vI (1 : Int)), (.bool false)] fun h69 =>
(run (Et base) 181 [(vP (List.length j23.2)), (vI n25), (vI (1 : Int))] h69).bind fun r70 =>
gG (some r70.1) 4 fun l71 =>
l_IITL l71 fun n72 n73 s74 l75 =>
nw1 r70.2 39 [(vI 0), (vI 0), (vT ⟨#[]⟩), (vL none 0)] fun h76 =>
(wr base h76 (List.length r70.2) 0 [(vI n72), (vI n73), (vT s74), (vL l75.1 l75.2)]).bind fun h77 =>
((p24).bind fun a79 =>
((cell h77 a79.block (a79.off + 5)).bind getB).bind fun b80 =>
(if b80 = true then
(p24).bind fun a81 =>
(wr base h77 a81.block (a81.off + 5) [(.bool true)]).bind fun h82 =>
some (.inl ([some (vA d27), some (vP (List.length r70.2))], h82))
else
((cell h77 (List.length j23.2) 3).bind getB).bind fun b83 =>
(p24).bind fun a84 =>
(wr base h77 a84.block (a84.off + 5) [(.bool b83)]).bind fun h85 =>
some (.inl ([some (vA d27), some (vP (List.length r70.2))], h85)))).bind fun j78 => joinK j78 fun j78 =>
j_AA j78.1 fun d86 d87 =>
c_IITL j78.2 d87.block d87.off fun n88 n89 s90 l91 =>
(wr base j78.2 d86.block d86.off [(vI n88), (vI n89), (vT s90), (vL l91.1 l91.2)]).bind fun h92 =>
c_IITL h92 d86.block d86.off fun n93 n94 s95 l96 =>
some ((.agg #[(vI n93), (vI n94), (vT s95), (vL l96.1 l96.2)]), h92)))))
theorem r141 {base : Nat} {v0 : Option Addr} {v1 : Int} {v2 : Int} {h : AH} {r : Value × AH} (hx : qf141 base v0 v1 v2 h = some r) : run (Et base) 141 [(.pointer v0), (vI v1), (vI v2)] h = some r := run_i (an := a141) Try.func141 (by kernel_rfl) (.trans (by kernel_rfl) hx)
theorem r142 {base : Nat} {v0_0 : Option Addr} {v0_0n : Nat} {v0_1 : Option Addr} {v0_1n : Nat} {v0_2 : Int} {v1 : Int} {h : AH} {r : Value × AH} (hx : (nw1 h 50 [(vL v0_0 v0_0n), (vL v0_1 v0_1n), (vI v0_2)] fun h1 =>
(run (Et base) 145 [(vI v1)] h1).bind fun r2 =>
((some r2.1).bind (getI .i64)).bind fun n3 =>
(if (n3 == (5 : Int)) = true then
some ((vI (2 : Int)), r2.2)
else
((if (n3 == (4 : Int)) = true then
some (.inl ([some (vI v1), some (vP (List.length h)), some (.bool (n3 == (4 : Int)))], r2.2))
else
some (.inl ([some (vI v1), some (vP (List.length h)), some (.bool (n3 == (6 : Int)))], r2.2)))).bind fun j4 => joinK j4 fun j4 =>
j_IAB j4.1 fun n5 d6 b7 =>
(if b7 = true then
c_LLI j4.2 d6.block d6.off fun l8 l9 n10 =>
(run (Et base) 143 [(vI n5)] j4.2).bind fun r11 =>
((some r11.1).bind (getI .i64)).bind fun n12 =>
(gate (sameA j4.2 r11.2 (some d6) 3)
((run (Et base) 144 [(.agg #[(vL l8.1 l8.2), (vL l9.1 l9.2), (vI n10)]), (vI n12), (vI (1 : Int))] r11.2).bind fun r13 =>
(getTup 2 r13.1).bind fun l14 =>
l_LB l14 fun l15 b16 =>
((if b16 = true then
(if 0 ≤ (0 : Int) ∧ (0 : Int) < ((l15.2 : Nat) : Int) then
((l15.1 : Option Addr)).bind fun a18 =>
((cell r13.2 a18.block (a18.off + Int.toNat (0 : Int) * 1)).bind (getI .i64)).bind fun n19 =>
(run (Et base) 83 [(vI n19), (vI (0 : Int)), (vI (1000 : Int))] r13.2).bind fun r20 =>
((some r20.1).bind getB).bind fun b21 =>
some (.inl ([some (vL l15.1 l15.2), some (.bool b21)], r20.2))
else none)
else
some (.inl ([some (vL l15.1 l15.2), some (.bool false)], r13.2)))).bind fun j17 => joinK j17 fun j17 =>
j_LB j17.1 fun l22 b23 =>
(if b23 = true then
(if 0 ≤ (0 : Int) ∧ (0 : Int) < ((l22.2 : Nat) : Int) then
((l22.1 : Option Addr)).bind fun a24 =>
((cell j17.2 a24.block (a24.off + Int.toNat (0 : Int) * 1)).bind (getI .i64)).bind fun n25 =>
some ((vI (IntKind.wrap .i64 (n25 + (1 : Int)))), j17.2)
else none)
else
some ((vI (0 : Int)), j17.2))))
else
some ((vI (0 : Int)), j4.2)))) = some r) : run (Et base) 142 [(.agg #[(vL v0_0 v0_0n), (vL v0_1 v0_1n), (vI v0_2)]), (vI v1)] h = some r := run_i (an := a142) Try.func142 (by kernel_rfl) (.trans (by kernel_rfl) hx)
theorem r143 {base : Nat} {v0 : Int} {h : AH} {r : Value × AH} (hx : ((if (decide (v0 < (0 : Int))) = true then
some ((.int .i64 (0 : Int)), h)
else
some ((.int .i64 (IntKind.wrap .i64 (Int.tdiv v0 (8 : Int)))), h))) = some r) : run (Et base) 143 [(vI v0)] h = some r := run_i (an := a143) Try.func143 (by kernel_rfl) (.trans (by kernel_rfl) hx)
theorem r144 {base : Nat} {v0_0 : Option Addr} {v0_0n : Nat} {v0_1 : Option Addr} {v0_1n : Nat} {v0_2 : Int} {v1 : Int} {v2 : Int} {h : AH} {r : Value × AH} (hx : (nw1 h 50 [(vL v0_0 v0_0n), (vL v0_1 v0_1n), (vI v0_2)] fun h1 =>
((cell h1 (List.length h) 0).bind getS).bind fun l2 =>
((if (decide (v1 ≥ (100000 : Int))) = true then
((cell h1 (List.length h) 1).bind getS).bind fun l4 =>
some (.inl ([some (vI (IntKind.wrap .i64 (v1 - (100000 : Int)))), some (vI v2), some (vL l4.1 l4.2)], h1))
else
some (.inl ([some (vI v1), some (vI v2), some (vL l2.1 l2.2)], h1)))).bind fun j3 => joinK j3 fun j3 =>
j_IIL j3.1 fun n5 n6 l7 =>
((run (Et base) 83 [(vI n5), (vI (0 : Int)), (vI ((l7.2 : Nat) : Int))] j3.2).bind fun r9 =>
((some r9.1).bind getB).bind fun b10 =>
(if (!b10) = true then
some (.inl ([some (vI n5), some (vI n6), some (vL l7.1 l7.2), some (.bool true)], r9.2))
else
(run (Et base) 83 [(vI n6), (vI (0 : Int)), (vI (IntKind.wrap .i64 (((l7.2 : Nat) : Int) - n5)))] r9.2).bind fun r11 =>
((some r11.1).bind getB).bind fun b12 =>
some (.inl ([some (vI n5), some (vI n6), some (vL l7.1 l7.2), some (.bool (!b12))], r11.2)))).bind fun j8 => joinK j8 fun j8 =>
j_IILB j8.1 fun n13 n14 l15 b16 =>
(if b16 = true then
nw1 j8.2 3 [] fun h17 =>
some ((.tuple #[(vL (some ⟨(List.length j8.2), 0, none⟩) 0), (.bool false)]), h17)
else
(if 0 ≤ n13 ∧ n13 ≤ (IntKind.wrap .i64 (n13 + n14)) ∧ (IntKind.wrap .i64 (n13 + n14)) ≤ ((l15.2 : Nat) : Int) ∧ okTy base j8.2 l15.1 3 (Int.toNat n13) = true then
some ((.tuple #[(.slice (shiftA l15.1 (Int.toNat n13 * 1)) (Int.toNat (IntKind.wrap .i64 (n13 + n14)) - Int.toNat n13) (Int.toNat (IntKind.wrap .i64 (n13 + n14)) - Int.toNat n13)), (.bool true)]), j8.2)
else none))) = some r) : run (Et base) 144 [(.agg #[(vL v0_0 v0_0n), (vL v0_1 v0_1n), (vI v0_2)]), (vI v1), (vI v2)] h = some r := run_i (an := a144) Try.func144 (by kernel_rfl) (.trans (by kernel_rfl) hx)
theorem r145 {base : Nat} {v0 : Int} {h : AH} {r : Value × AH} (hx : ((if (decide (v0 < (0 : Int))) = true then
some ((.int .i64 (0 : Int)), h)
else
some ((.int .i64 (Int.tmod v0 (8 : Int))), h))) = some r) : run (Et base) 145 [(vI v0)] h = some r := run_i (an := a145) Try.func145 (by kernel_rfl) (.trans (by kernel_rfl) hx)
noncomputable def B146_0 (base : Nat) : Body := fun l h => lay s146_0 l fun s => exCode (Et base) (run (Et base)) loopL a146_0 (subC [1, 0, 1, 0, 0] (bodyC Try.f146)) s h (keepK s146_0 e146_0)
theorem B146_0_eq (base : Nat) (v0 : ByteArray) (v3 : Int) (h : AH) : B146_0 base [some (vT v0), some (vI v3)] h =
((if (decide (v3 < (v0.size : Int))) = true then
((if 0 ≤ v3 ∧ v3 < (v0.size : Int) then
(run (Et base) 182 [(.int .u8 ((v0.data.toList.getD (Int.toNat v3) 0).toNat : Int))] h).bind fun r2 =>
((some r2.1).bind getB).bind fun b3 =>
(if (!b3) = true then
(if (v3 == (0 : Int)) = true then
some (.inl ([some (.string v0), some (.int .i64 v3), some (.bool true)], r2.2))
else
(if 0 ≤ v3 ∧ v3 < (v0.size : Int) then
(run (Et base) 183 [(.int .u8 ((v0.data.toList.getD (Int.toNat v3) 0).toNat : Int))] r2.2).bind fun r4 =>
((some r4.1).bind getB).bind fun b5 =>
some (.inl ([some (.string v0), some (.int .i64 v3), some (.bool (!b5))], r4.2))
else none))
else
some (.inl ([some (.string v0), some (.int .i64 v3), some (.bool false)], r2.2)))
else none)).bind fun j1 => joinK j1 fun j1 =>
((sget j1.1 0).bind getStr).bind fun s6 =>
((sget (j1.1.tail) 0).bind (getI .i64)).bind fun n7 =>
((sget (j1.1.tail.tail) 0).bind getB).bind fun b8 =>
(if b8 = true then
some (1, [some (.bool false)], j1.2)
else
some (0, [some (.string s6), some (.int .i64 (IntKind.wrap .i64 (n7 + (1 : Int))))], j1.2))
else
some (2, [some (.string v0)], h)) : Option (Nat × Slots × AH)) := by kernel_rfl
theorem r146 {base : Nat} {v0 : ByteArray} {h : AH} {r : Value × AH} (hx : ((loopL (B146_0 base) [some (.string v0), some (.int .i64 (0 : Int))] h).bind fun q1 =>
(if q1.1 = 1 then
((sget q1.2.1 0).bind getB).bind fun b2 =>
some ((.bool b2), q1.2.2)
else
(if q1.1 = 2 then
((sget q1.2.1 0).bind getStr).bind fun s3 =>
(run (Et base) 87 [(.int .i64 (s3.size : Int)), (.int .i64 (1 : Int)), (.int .i64 (12 : Int))] q1.2.2).bind fun r4 =>
((some r4.1).bind getB).bind fun b5 =>
some ((.bool b5), r4.2)
else
none))) = some r) : run (Et base) 146 [(vT v0)] h = some r := run_i (an := a146) Try.func146 (by kernel_rfl) (.trans (by kernel_rfl) hx)
noncomputable def B147_0 (base : Nat) : Body := fun l h => lay s147_0 l fun s => exCode (Et base) (run (Et base)) loopL a147_0 (subC [1, 0, 1, 0, 0] (bodyC Try.f147)) s h (keepK s147_0 e147_0)
theorem B147_0_eq (base : Nat) (v1 : ByteArray) (v7 : Option Addr) (v7n : Nat) (v8 : Int) (v9 : Int) (h : AH) : B147_0 base [some (vT v1), some (vL v7 v7n), some (vI v8), some (vI v9)] h =
((if (decide (v9 < v8)) = true then
(if 0 ≤ v9 ∧ v9 < ((v7n : Nat) : Int) then
((v7 : Option Addr)).bind fun a1 =>
((cell h a1.block (a1.off + Int.toNat v9 * 1)).bind getStr).bind fun s2 =>
(if (s2.toList == v1.toList) = true then
some (1, [some (.int .i64 v9)], h)
else
some (0, [some (.string v1), some (.slice v7 v7n v7n), some (.int .i64 v8), some (.int .i64 (IntKind.wrap .i64 (v9 + (1 : Int))))], h))
else none)
else
some (2, [], h)) : Option (Nat × Slots × AH)) := by kernel_rfl
theorem r147 {base : Nat} {v0 : Option Addr} {v0n : Nat} {v1 : ByteArray} {h : AH} {r : Value × AH} (hx : ((loopL (B147_0 base) [some (.string v1), some (.slice v0 v0n v0n), some (.int .i64 ((v0n : Nat) : Int)), some (.int .i64 (0 : Int))] h).bind fun q1 =>
(if q1.1 = 1 then
((sget q1.2.1 0).bind (getI .i64)).bind fun n2 =>
some ((.int .i64 n2), q1.2.2)
else
(if q1.1 = 2 then
some ((.int .i64 (-1 : Int)), q1.2.2)
else
none))) = some r) : run (Et base) 147 [(vL v0 v0n), (vT v1)] h = some r := run_i (an := a147) Try.func147 (by kernel_rfl) (.trans (by kernel_rfl) hx)
theorem r148 {base : Nat} {v0 : Fn} {v0p v0q : Array Value} {v1 : Option Addr} {v1n : Nat} {v2 : Int} {h : AH} {r : Value × AH} (hx : (nw1 h 39 [(vI 0), (vI 0), (vT ⟨#[]⟩), (vL none 0)] fun h1 =>
nw1 h1 200 [(.func v0 v0p v0q), (vL v1 v1n), (vI (0 : Int)), (.bool false)] fun h2 =>
(run (Et base) 184 [(vP (List.length h1)), (vI v2), (vI (1 : Int))] h2).bind fun r3 =>
gG (some r3.1) 4 fun l4 =>
l_IITL l4 fun n5 n6 s7 l8 =>
nw1 r3.2 39 [(vI 0), (vI 0), (vT ⟨#[]⟩), (vL none 0)] fun h9 =>
(wr base h9 (List.length r3.2) 0 [(vI n5), (vI n6), (vT s7), (vL l8.1 l8.2)]).bind fun h10 =>
(((cell h10 (List.length h1) 3).bind getB).bind fun b12 =>
(if b12 = true then
some (.inl ([some (vP (List.length h)), some (vP (List.length r3.2)), some (.bool true)], h10))
else
c_IITL h10 (List.length r3.2) 0 fun n13 n14 s15 l16 =>
(run (Et base) 102 [(.agg #[(vI n13), (vI n14), (vT s15), (vL l16.1 l16.2)])] h10).bind fun r17 =>
((some r17.1).bind getB).bind fun b18 =>
some (.inl ([some (vP (List.length h)), some (vP (List.length r3.2)), some (.bool (!b18))], r17.2)))).bind fun j11 => joinK j11 fun j11 =>
j_AAB j11.1 fun d19 d20 b21 =>
(if b21 = true then
(wr base j11.2 d19.block d19.off [(vI (0 : Int)), (vI (0 : Int)), (vT (⟨#[]⟩ : ByteArray)), (vL none 0)]).bind fun h22 =>
c_IITL h22 d19.block d19.off fun n23 n24 s25 l26 =>
some ((.tuple #[(.agg #[(vI n23), (vI n24), (vT s25), (vL l26.1 l26.2)]), (.bool false)]), h22)
else
c_IITL j11.2 d20.block d20.off fun n27 n28 s29 l30 =>
(wr base j11.2 d19.block d19.off [(vI n27), (vI n28), (vT s29), (vL l30.1 l30.2)]).bind fun h31 =>
c_IITL h31 d19.block d19.off fun n32 n33 s34 l35 =>
some ((.tuple #[(.agg #[(vI n32), (vI n33), (vT s34), (vL l35.1 l35.2)]), (.bool true)]), h31))) = some r) : run (Et base) 148 [(.func v0 v0p v0q), (vL v1 v1n), (vI v2)] h = some r := run_i (an := a148) Try.func148 (by kernel_rfl) (.trans (by kernel_rfl) hx)
theorem r149 {base : Nat} {v0 : Option Addr} {v1 : Int} {h : AH} {r : Value × AH} (hx : ((v0).bind fun a1 =>
((cell h a1.block (a1.off + 0)).bind getS).bind fun l2 =>
((if (decide (v1 ≥ (100000 : Int))) = true then
(v0).bind fun a4 =>
((cell h a4.block (a4.off + 1)).bind getS).bind fun l5 =>
some (.inl ([some (.int .i64 (IntKind.wrap .i64 (v1 - (100000 : Int)))), some (.slice l5.1 l5.2 l5.2)], h))
else
some (.inl ([some (.int .i64 v1), some (.slice l2.1 l2.2 l2.2)], h)))).bind fun j3 => joinK j3 fun j3 =>
((sget j3.1 0).bind (getI .i64)).bind fun n6 =>
((sget (j3.1.tail) 0).bind getS).bind fun l7 =>
(run (Et base) 87 [(.int .i64 n6), (.int .i64 (0 : Int)), (.int .i64 (IntKind.wrap .i64 (((l7.2 : Nat) : Int) - (1 : Int))))] j3.2).bind fun r8 =>
((some r8.1).bind getB).bind fun b9 =>
(if (!b9) = true then
some ((.tuple #[(.int .i64 (0 : Int)), (.bool false)]), r8.2)
else
(if 0 ≤ n6 ∧ n6 < ((l7.2 : Nat) : Int) then
((l7.1 : Option Addr)).bind fun a10 =>
((cell r8.2 a10.block (a10.off + Int.toNat n6 * 1)).bind (getI .i64)).bind fun n11 =>
some ((.tuple #[(.int .i64 n11), (.bool true)]), r8.2)
else none))) = some r) : run (Et base) 149 [(.pointer v0), (vI v1)] h = some r := run_i (an := a149) Try.func149 (by kernel_rfl) (.trans (by kernel_rfl) hx)
theorem r150 {base : Nat} {v0 : Int} {h : AH} {r : Value × AH} (hx : ((run (Et base) 185 [(.int .i64 v0)] h).bind fun r1 =>
((some r1.1).bind (getI .i64)).bind fun n2 =>
(run (Et base) 87 [(.int .i64 n2), (.int .i64 (4 : Int)), (.int .i64 (6 : Int))] r1.2).bind fun r3 =>
((some r3.1).bind getB).bind fun b4 =>
some ((.bool b4), r3.2)) = some r) : run (Et base) 150 [(vI v0)] h = some r := run_i (an := a150) Try.func150 (by kernel_rfl) (.trans (by kernel_rfl) hx)
theorem r151 {base : Nat} {v0 : Option Addr} {v1 : Int} {h : AH} {r : Value × AH} (hx : ((if (decide (v1 < (100000 : Int))) = true then
some ((.int .i64 (0 : Int)), h)
else
(v0).bind fun a1 =>
((cell h a1.block (a1.off + 2)).bind (getI .i64)).bind fun n2 =>
(if (decide ((IntKind.wrap .i64 (v1 - (100000 : Int))) < n2)) = true then
some ((.int .i64 (1 : Int)), h)
else
some ((.int .i64 (2 : Int)), h)))) = some r) : run (Et base) 151 [(.pointer v0), (vI v1)] h = some r := run_i (an := a151) Try.func151 (by kernel_rfl) (.trans (by kernel_rfl) hx)
theorem r152 {base : Nat} {v0 : Int} {h : AH} {r : Value × AH} (hx : (some ((.int .i64 (IntKind.wrap .i64 (Int.tdiv (if (0 : Int) > v0 then (0 : Int) else v0) (8 : Int)))), h)) = some r) : run (Et base) 152 [(vI v0)] h = some r := run_i (an := a152) Try.func152 (by kernel_rfl) (.trans (by kernel_rfl) hx)
noncomputable def B153_0 (base : Nat) : Body := fun l h => lay s153_0 l fun s => exCode (Et base) (run (Et base)) loopL a153_0 (subC [1, 1, 1, 1, 0, 1, 0, 0] (bodyC Try.f153)) s h (keepK s153_0 e153_0)
theorem B153_0_eq (base : Nat) (v0 : Option Addr) (v1 : Int) (v5 : Int) (v7 : Option Addr) (v7n : Nat) (v8 : Int) (h : AH) : B153_0 base [some (.pointer v0), some (vI v1), some (vI v5), some (vL v7 v7n), some (vI v8)] h =
((run (Et base) 186 [(.pointer v0), (.int .i64 v1)] h).bind fun r1 =>
((some r1.1).bind (getI .i64)).bind fun n2 =>
(if (decide (v8 < n2)) = true then
(run (Et base) 149 [(.pointer v0), (.int .i64 (IntKind.wrap .i64 (v5 + v8)))] r1.2).bind fun r3 =>
(getTup 2 r3.1).bind fun l4 =>
((l4[0]?).bind (getI .i64)).bind fun n5 =>
((l4[1]?).bind getB).bind fun b6 =>
(some (r3.2 ++ [some ⟨[(.int .i64 n5)], 3⟩])).bind fun h7 =>
(app base h7 3 1 8 v7 v7n (rawAt h7 (some ⟨(List.length r3.2), 0, none⟩) (1 * 1)) 1).bind fun p8 =>
((some p8.1).bind getS).bind fun l9 =>
some (0, [some (.pointer v0), some (.int .i64 v1), some (.int .i64 v5), some (.slice l9.1 l9.2 l9.2), some (.int .i64 (IntKind.wrap .i64 (v8 + (1 : Int))))], p8.2)
else
some (3, [some (.slice v7 v7n v7n)], r1.2)) : Option (Nat × Slots × AH)) := by kernel_rfl
theorem r153 {base : Nat} {v0 : Option Addr} {v1 : Int} {h : AH} {r : Value × AH} (hx : ((run (Et base) 152 [(.int .i64 v1)] h).bind fun r1 =>
((some r1.1).bind (getI .i64)).bind fun n2 =>
((run (Et base) 185 [(.int .i64 v1)] r1.2).bind fun r4 =>
((some r4.1).bind (getI .i64)).bind fun n5 =>
(if (n5 == (6 : Int)) = true then
(some ((.slice none 0 0), r4.2)).map .inr
else
(if (n5 == (5 : Int)) = true then
some (.inl ([some (.pointer v0), some (.int .i64 v1), some (.int .i64 n2), some (.int .i64 (0 : Int))], r4.2))
else
some (.inl ([some (.pointer v0), some (.int .i64 v1), some (.int .i64 n2), some (.int .i64 (1 : Int))], r4.2))))).bind fun j3 => joinK j3 fun j3 =>
((sget j3.1 0).bind getP).bind fun p6 =>
((sget (j3.1.tail) 0).bind (getI .i64)).bind fun n7 =>
((sget (j3.1.tail.tail) 0).bind (getI .i64)).bind fun n8 =>
((sget (j3.1.tail.tail.tail) 0).bind (getI .i64)).bind fun n9 =>
(loopL (B153_0 base) [some (.pointer p6), some (.int .i64 n7), some (.int .i64 n8), some (.slice none 0 0), some (.int .i64 n9)] j3.2).bind fun q10 =>
(if q10.1 = 3 then
((sget q10.2.1 0).bind getS).bind fun l11 =>
some ((.slice l11.1 l11.2 l11.2), q10.2.2)
else
none)) = some r) : run (Et base) 153 [(.pointer v0), (vI v1)] h = some r := run_i (an := a153) Try.func153 (by kernel_rfl) (.trans (by kernel_rfl) hx)
noncomputable def B162_0 (base : Nat) : Body := fun l h => lay s162_0 l fun s => exCode (Et base) (run (Et base)) loopL a162_0 (subC [1, 1, 1, 0, 1, 0, 0] (bodyC Try.f162)) s h (keepK s162_0 e162_0)
theorem B162_0_eq (base : Nat) (v1 : Int) (v2 : Int) (v27 : Option Addr) (v27n : Nat) (v28 : Int) (v29 : Int) (h : AH) : B162_0 base [some (vI v1), some (vI v2), some (vL v27 v27n), some (vI v28), some (vI v29)] h =
((if (decide (v29 < v28)) = true then
(if 0 ≤ v29 ∧ v29 < ((v27n : Nat) : Int) then
((v27 : Option Addr)).bind fun a1 =>
c_IITL h a1.block (a1.off + Int.toNat v29 * 4) fun n2 n3 s4 l5 =>
nw1 h 39 [(vI 0), (vI 0), (vT ⟨#[]⟩), (vL none 0)] fun h6 =>
(wr base h6 (List.length h) 0 [(vI n2), (vI n3), (vT s4), (vL l5.1 l5.2)]).bind fun h7 =>
c_IITL h7 (List.length h) 0 fun n8 n9 s10 l11 =>
(run (Et base) 162 [(.agg #[(vI n8), (vI n9), (vT s10), (vL l11.1 l11.2)]), (vI (IntKind.wrap .i64 (v1 + (1 : Int)))), (vI v2)] h7).bind fun r12 =>
(getTup 2 r12.1).bind fun l13 =>
l_IB l13 fun n14 b15 =>
(if (!b15) = true then
some (1, [some (vI n14), some (.bool false)], r12.2)
else
some (0, [some (vI v1), some (vI n14), some (vL v27 v27n), some (vI v28), some (vI (IntKind.wrap .i64 (v29 + (1 : Int))))], r12.2))
else none)
else
some (2, [some (vI v2)], h)) : Option (Nat × Slots × AH)) := by kernel_rfl
theorem r162 {base : Nat} {v0_0 : Int} {v0_1 : Int} {v0_2 : ByteArray} {v0_3 : Option Addr} {v0_3n : Nat} {v1 : Int} {v2 : Int} {h : AH} {r : Value × AH} (hx : (nw1 h 39 [(vI v0_0), (vI v0_1), (vT v0_2), (vL v0_3 v0_3n)] fun h1 =>
((if (decide (v1 > (6 : Int))) = true then
some (.inl ([some (vI v1), some (vI (IntKind.wrap .i64 (v2 + (1 : Int)))), some (vP (List.length h)), some (.bool true)], h1))
else
(if (decide ((IntKind.wrap .i64 (v2 + (1 : Int))) > (100 : Int))) = true then
some (.inl ([some (vI v1), some (vI (IntKind.wrap .i64 (v2 + (1 : Int)))), some (vP (List.length h)), some (.bool true)], h1))
else
c_IITL h1 (List.length h) 0 fun n3 n4 s5 l6 =>
(run (Et base) 196 [(.agg #[(vI n3), (vI n4), (vT s5), (vL l6.1 l6.2)])] h1).bind fun r7 =>
((some r7.1).bind getB).bind fun b8 =>
some (.inl ([some (vI v1), some (vI (IntKind.wrap .i64 (v2 + (1 : Int)))), some (vP (List.length h)), some (.bool (!b8))], r7.2))))).bind fun j2 => joinK j2 fun j2 =>
j_IIAB j2.1 fun n9 n10 d11 b12 =>
(if b12 = true then
some ((.tuple #[(vI n10), (.bool false)]), j2.2)
else
((cell j2.2 d11.block (d11.off + 3)).bind getS).bind fun l13 =>
(loopL (B162_0 base) [some (vI n9), some (vI n10), some (vL l13.1 l13.2), some (vI ((l13.2 : Nat) : Int)), some (vI (0 : Int))] j2.2).bind fun q14 =>
(if q14.1 = 1 then
j_IB q14.2.1 fun n15 b16 =>
some ((.tuple #[(vI n15), (.bool b16)]), q14.2.2)
else
(if q14.1 = 2 then
((sget q14.2.1 0).bind (getI .i64)).bind fun n17 =>
some ((.tuple #[(vI n17), (.bool true)]), q14.2.2)
else
none)))) = some r) : run (Et base) 162 [(.agg #[(vI v0_0), (vI v0_1), (vT v0_2), (vL v0_3 v0_3n)]), (vI v1), (vI v2)] h = some r := run_i (an := a162) Try.func162 (by kernel_rfl) (.trans (by kernel_rfl) hx)
noncomputable abbrev qf173 (base : Nat) (v0_0 : Int) (v0_1 : Int) (v0_2 : ByteArray) (v0_3 : Option Addr) (v0_3n : Nat) (h : AH) : Option (Value × AH) :=
nw1 h 39 [(vI v0_0), (vI v0_1), (vT v0_2), (vL v0_3 v0_3n)] fun h1 =>
((cell h1 (List.length h) 3).bind getS).bind fun l2 =>
((cell h1 (List.length h) 0).bind (getI .i64)).bind fun n3 =>
(if (n3 == (1 : Int)) = true then
((cell h1 (List.length h) 1).bind (getI .i64)).bind fun n4 =>
(run (Et base) 83 [(vI n4), (vI (-1000000 : Int)), (vI (1000000 : Int))] h1).bind fun r5 =>
((some r5.1).bind getB).bind fun b6 =>
(if b6 = true then
((cell r5.2 (List.length h) 2).bind getStr).bind fun s7 =>
(if (s7.toList == (⟨#[]⟩ : ByteArray).toList) = true then
some ((.bool (((l2.2 : Nat) : Int) == (0 : Int))), r5.2)
else
some ((.bool false), r5.2))
else
some ((.bool false), r5.2))
else
(if (n3 == (2 : Int)) = true then
((cell h1 (List.length h) 2).bind getStr).bind fun s8 =>
(run (Et base) 139 [(vT s8)] h1).bind fun r9 =>
((some r9.1).bind getB).bind fun b10 =>
(if b10 = true then
((cell r9.2 (List.length h) 1).bind (getI .i64)).bind fun n11 =>
(if (n11 == (0 : Int)) = true then
some ((.bool (((l2.2 : Nat) : Int) == (0 : Int))), r9.2)
else
some ((.bool false), r9.2))
else
some ((.bool false), r9.2))
else
(if (n3 == (3 : Int)) = true then
((cell h1 (List.length h) 1).bind (getI .i64)).bind fun n12 =>
(run (Et base) 83 [(vI n12), (vI (0 : Int)), (vI (99999 : Int))] h1).bind fun r13 =>
((some r13.1).bind getB).bind fun b14 =>
(if b14 = true then
((cell r13.2 (List.length h) 2).bind getStr).bind fun s15 =>
(if (s15.toList == (⟨#[]⟩ : ByteArray).toList) = true then
some ((.bool (((l2.2 : Nat) : Int) == (0 : Int))), r13.2)
else
some ((.bool false), r13.2))
else
some ((.bool false), r13.2))
else
(if (n3 == (4 : Int)) = true then
((cell h1 (List.length h) 1).bind (getI .i64)).bind fun n16 =>
(if (n16 == (0 : Int)) = true then
((cell h1 (List.length h) 2).bind getStr).bind fun s17 =>
(if (s17.toList == (⟨#[]⟩ : ByteArray).toList) = true then
some ((.bool (decide (((l2.2 : Nat) : Int) ≤ (8 : Int)))), h1)
else
some ((.bool false), h1))
else
some ((.bool false), h1))
else
(if (n3 == (5 : Int)) = true then
((cell h1 (List.length h) 1).bind (getI .i64)).bind fun n18 =>
(if (n18 == (0 : Int)) = true then
((cell h1 (List.length h) 2).bind getStr).bind fun s19 =>
(if (s19.toList == (⟨#[]⟩ : ByteArray).toList) = true then
some ((.bool (decide (((l2.2 : Nat) : Int) ≤ (20 : Int)))), h1)
else
some ((.bool false), h1))
else
some ((.bool false), h1))
else
(if (n3 == (6 : Int)) = true then
((cell h1 (List.length h) 1).bind (getI .i64)).bind fun n20 =>
(if (n20 == (0 : Int)) = true then
((cell h1 (List.length h) 2).bind getStr).bind fun s21 =>
(if (decide ((s21.size : Int) ≤ (40 : Int))) = true then
some ((.bool (((l2.2 : Nat) : Int) == (0 : Int))), h1)
else
some ((.bool false), h1))
else
some ((.bool false), h1))
else
some ((.bool false), h1)))))))
theorem r173 {base : Nat} {v0_0 : Int} {v0_1 : Int} {v0_2 : ByteArray} {v0_3 : Option Addr} {v0_3n : Nat} {h : AH} {r : Value × AH} (hx : qf173 base v0_0 v0_1 v0_2 v0_3 v0_3n h = some r) : run (Et base) 173 [(.agg #[(vI v0_0), (vI v0_1), (vT v0_2), (vL v0_3 v0_3n)])] h = some r := run_i (an := a173) Try.func173 (by kernel_rfl) (.trans (by kernel_rfl) hx)
theorem r174 {base : Nat} {v0 : Int} {v1 : Int} {h : AH} {r : Value × AH} (hx : (((run (Et base) 87 [(.int .i64 v0), (.int .i64 (0 : Int)), (.int .i64 (6 : Int))] h).bind fun r2 =>
((some r2.1).bind getB).bind fun b3 =>
(if (!b3) = true then
some (.inl ([some (.int .i64 v0), some (.int .i64 v1), some (.bool true)], r2.2))
else
(run (Et base) 87 [(.int .i64 v1), (.int .i64 (0 : Int)), (.int .i64 (4000000 : Int))] r2.2).bind fun r4 =>
((some r4.1).bind getB).bind fun b5 =>
some (.inl ([some (.int .i64 v0), some (.int .i64 v1), some (.bool (!b5))], r4.2)))).bind fun j1 => joinK j1 fun j1 =>
((sget j1.1 0).bind (getI .i64)).bind fun n6 =>
((sget (j1.1.tail) 0).bind (getI .i64)).bind fun n7 =>
((sget (j1.1.tail.tail) 0).bind getB).bind fun b8 =>
(if b8 = true then
some ((.int .i64 (0 : Int)), j1.2)
else
some ((.int .i64 (IntKind.wrap .i64 (n6 + (IntKind.wrap .i64 ((8 : Int) * n7))))), j1.2))) = some r) : run (Et base) 174 [(vI v0), (vI v1)] h = some r := run_i (an := a174) Try.func174 (by kernel_rfl) (.trans (by kernel_rfl) hx)
noncomputable def B178_0 (base : Nat) : Body := fun l h => lay s178_0 l fun s => exCode (Et base) (run (Et base)) loopL a178_0 (subC [1, 1, 0, 0, 0] (bodyC Try.f178)) s h (keepK s178_0 e178_0)
theorem B178_0_eq (base : Nat) (v0 : Option Addr) (v1 : Int) (v2 : Int) (v6 : Addr) (v7 : Addr) (h : AH) : B178_0 base [some (.pointer v0), some (vI v1), some (vI v2), some (vA v6), some (vA v7)] h =
(((v0).bind fun a2 =>
((cell h a2.block (a2.off + 5)).bind getB).bind fun b3 =>
(if (!b3) = true then
(run (Et base) 132 [(vI (3 : Int)), (vI (0 : Int))] h).bind fun r4 =>
((some r4.1).bind (getI .i64)).bind fun n5 =>
some (.inl ([some (.pointer v0), some (vI v1), some (vI v2), some (vA v6), some (vA v7), some (.bool (v1 != n5))], r4.2))
else
some (.inl ([some (.pointer v0), some (vI v1), some (vI v2), some (vA v6), some (vA v7), some (.bool false)], h)))).bind fun j1 => joinK j1 fun j1 =>
j_PIIAAB j1.1 fun p6 n7 n8 d9 d10 b11 =>
(if b11 = true then
(p6).bind fun a12 =>
c_LLI j1.2 a12.block (a12.off + 0) fun l13 l14 n15 =>
(run (Et base) 143 [(vI n7)] j1.2).bind fun r16 =>
((some r16.1).bind (getI .i64)).bind fun n17 =>
(gate (sameA j1.2 r16.2 (some ⟨a12.block, (a12.off + 0), none⟩) 3)
((run (Et base) 144 [(.agg #[(vL l13.1 l13.2), (vL l14.1 l14.2), (vI n15)]), (vI n17), (vI (2 : Int))] r16.2).bind fun r18 =>
(getTup 2 r18.1).bind fun l19 =>
l_LB l19 fun l20 b21 =>
((if (!b21) = true then
some (.inl ([some (.pointer p6), some (vI n8), some (vA d9), some (vA d10), some (vL l20.1 l20.2), some (.bool true)], r18.2))
else
(if (decide (n7 < (0 : Int))) = true then
some (.inl ([some (.pointer p6), some (vI n8), some (vA d9), some (vA d10), some (vL l20.1 l20.2), some (.bool true)], r18.2))
else
(run (Et base) 145 [(vI n7)] r18.2).bind fun r23 =>
((some r23.1).bind (getI .i64)).bind fun n24 =>
(if (n24 != (5 : Int)) = true then
some (.inl ([some (.pointer p6), some (vI n8), some (vA d9), some (vA d10), some (vL l20.1 l20.2), some (.bool true)], r23.2))
else
((cell r23.2 d10.block (d10.off + 3)).bind getS).bind fun l25 =>
some (.inl ([some (.pointer p6), some (vI n8), some (vA d9), some (vA d10), some (vL l20.1 l20.2), some (.bool (((l25.2 : Nat) : Int) == (20 : Int)))], r23.2)))))).bind fun j22 => joinK j22 fun j22 =>
j_PIAALB j22.1 fun p26 n27 d28 d29 l30 b31 =>
(if b31 = true then
(p26).bind fun a32 =>
(wr base j22.2 a32.block (a32.off + 5) [(.bool true)]).bind fun h33 =>
c_IITL h33 d29.block d29.off fun n34 n35 s36 l37 =>
(wr base h33 d28.block d28.off [(vI n34), (vI n35), (vT s36), (vL l37.1 l37.2)]).bind fun h38 =>
some (1, [some (vA d28)], h38)
else
((cell j22.2 d29.block (d29.off + 3)).bind getS).bind fun l39 =>
(if 0 ≤ (0 : Int) ∧ (0 : Int) < ((l30.2 : Nat) : Int) then
((l30.1 : Option Addr)).bind fun a40 =>
((cell j22.2 a40.block (a40.off + Int.toNat (0 : Int) * 1)).bind (getI .i64)).bind fun n41 =>
(run (Et base) 141 [(.pointer p26), (vI n41), (vI (IntKind.wrap .i64 (n27 - (1 : Int))))] j22.2).bind fun r42 =>
gG (some r42.1) 4 fun l43 =>
l_IITL l43 fun n44 n45 s46 l47 =>
(gate (sameA j22.2 r42.2 (some ⟨d29.block, (d29.off + 3), none⟩) 1)
((gate (neA (some ⟨d29.block, (d29.off + 3), none⟩) (List.length r42.2))
(nw1 r42.2 39 [(vI n44), (vI n45), (vT s46), (vL l47.1 l47.2)] fun h48 =>
(app base h48 39 4 56 l39.1 l39.2 (rawAt h48 (some ⟨(List.length r42.2), 0, none⟩) (1 * 4)) 1).bind fun p49 =>
((some p49.1).bind getS).bind fun l50 =>
(wr base p49.2 d29.block (d29.off + 3) [(vL l50.1 l50.2)]).bind fun h51 =>
(if 0 ≤ (1 : Int) ∧ (1 : Int) < ((l30.2 : Nat) : Int) then
((l30.1 : Option Addr)).bind fun a52 =>
((cell h51 a52.block (a52.off + Int.toNat (1 : Int) * 1)).bind (getI .i64)).bind fun n53 =>
some (0, [some (.pointer p26), some (vI n53), some (vI n27), some (vA d28), some (vA d29)], h51)
else none)))))
else none))))
else
some (2, [some (vA d9), some (vA d10)], j1.2)) : Option (Nat × Slots × AH)) := by kernel_rfl
theorem r178 {base : Nat} {v0 : Option Addr} {v1 : Int} {v2 : Int} {h : AH} {r : Value × AH} (hx : (nw1 h 39 [(vI 0), (vI 0), (vT ⟨#[]⟩), (vL none 0)] fun h1 =>
nw1 h1 39 [(vI 0), (vI 0), (vT ⟨#[]⟩), (vL none 0)] fun h2 =>
(wr base h2 (List.length h1) 0 [(vI (5 : Int)), (vI (0 : Int)), (vT (⟨#[]⟩ : ByteArray)), (vL none 0)]).bind fun h3 =>
(loopL (B178_0 base) [some (.pointer v0), some (vI v1), some (vI v2), some (vP (List.length h)), some (vP (List.length h1))] h3).bind fun q4 =>
(if q4.1 = 1 then
((sget q4.2.1 0).bind getA).bind fun d5 =>
c_IITL q4.2.2 d5.block d5.off fun n6 n7 s8 l9 =>
some ((.agg #[(vI n6), (vI n7), (vT s8), (vL l9.1 l9.2)]), q4.2.2)
else
(if q4.1 = 2 then
j_AA q4.2.1 fun d10 d11 =>
c_IITL q4.2.2 d11.block d11.off fun n12 n13 s14 l15 =>
(wr base q4.2.2 d10.block d10.off [(vI n12), (vI n13), (vT s14), (vL l15.1 l15.2)]).bind fun h16 =>
c_IITL h16 d10.block d10.off fun n17 n18 s19 l20 =>
some ((.agg #[(vI n17), (vI n18), (vT s19), (vL l20.1 l20.2)]), h16)
else
none))) = some r) : run (Et base) 178 [(.pointer v0), (vI v1), (vI v2)] h = some r := run_i (an := a178) Try.func178 (by kernel_rfl) (.trans (by kernel_rfl) hx)
noncomputable def B179_0 (base : Nat) : Body := fun l h => lay s179_0 l fun s => exCode (Et base) (run (Et base)) loopL a179_0 (subC [1, 1, 1, 1, 1, 0, 1, 0, 0] (bodyC Try.f179)) s h (keepK s179_0 e179_0)
theorem B179_0_eq (base : Nat) (v0 : Option Addr) (v2 : Int) (v6 : Addr) (v8 : Option Addr) (v8n : Nat) (v10 : Addr) (v11 : Int) (h : AH) : B179_0 base [some (.pointer v0), some (vI v2), some (vA v6), some (vL v8 v8n), some (vA v10), some (vI v11)] h =
(((if (decide (v11 < ((v8n : Nat) : Int))) = true then
(v0).bind fun a2 =>
((cell h a2.block (a2.off + 5)).bind getB).bind fun b3 =>
some (.inl ([some (.pointer v0), some (vI v2), some (vA v6), some (vL v8 v8n), some (vA v10), some (vI v11), some (.bool (!b3))], h))
else
some (.inl ([some (.pointer v0), some (vI v2), some (vA v6), some (vL v8 v8n), some (vA v10), some (vI v11), some (.bool false)], h)))).bind fun j1 => joinK j1 fun j1 =>
j_PIALAIB j1.1 fun p4 n5 d6 l7 d8 n9 b10 =>
(if b10 = true then
((cell j1.2 d8.block (d8.off + 3)).bind getS).bind fun l11 =>
(if 0 ≤ n9 ∧ n9 < ((l7.2 : Nat) : Int) then
((l7.1 : Option Addr)).bind fun a12 =>
((cell j1.2 a12.block (a12.off + Int.toNat n9 * 1)).bind (getI .i64)).bind fun n13 =>
(run (Et base) 141 [(.pointer p4), (vI n13), (vI (IntKind.wrap .i64 (n5 - (1 : Int))))] j1.2).bind fun r14 =>
gG (some r14.1) 4 fun l15 =>
l_IITL l15 fun n16 n17 s18 l19 =>
(gate (sameA j1.2 r14.2 (some ⟨d8.block, (d8.off + 3), none⟩) 1)
((gate (neA (some ⟨d8.block, (d8.off + 3), none⟩) (List.length r14.2))
(nw1 r14.2 39 [(vI n16), (vI n17), (vT s18), (vL l19.1 l19.2)] fun h20 =>
(app base h20 39 4 56 l11.1 l11.2 (rawAt h20 (some ⟨(List.length r14.2), 0, none⟩) (1 * 4)) 1).bind fun p21 =>
((some p21.1).bind getS).bind fun l22 =>
(wr base p21.2 d8.block (d8.off + 3) [(vL l22.1 l22.2)]).bind fun h23 =>
some (0, [some (.pointer p4), some (vI n5), some (vA d6), some (vL l7.1 l7.2), some (vA d8), some (vI (IntKind.wrap .i64 (n9 + (1 : Int))))], h23)))))
else none)
else
some (2, [some (vA d6), some (vA d8)], j1.2)) : Option (Nat × Slots × AH)) := by kernel_rfl
noncomputable abbrev qf179 (base : Nat) (v0 : Option Addr) (v1 : Int) (v2 : Int) (h : AH) : Option (Value × AH) :=
nw1 h 39 [(vI 0), (vI 0), (vT ⟨#[]⟩), (vL none 0)] fun h1 =>
(v0).bind fun a2 =>
c_LLI h1 a2.block (a2.off + 0) fun l3 l4 n5 =>
(run (Et base) 132 [(vI (4 : Int)), (vI v1)] h1).bind fun r6 =>
((some r6.1).bind (getI .i64)).bind fun n7 =>
(gate (sameA h1 r6.2 (some ⟨a2.block, (a2.off + 0), none⟩) 3)
((run (Et base) 142 [(.agg #[(vL l3.1 l3.2), (vL l4.1 l4.2), (vI n5)]), (vI n7)] r6.2).bind fun r8 =>
((some r8.1).bind (getI .i64)).bind fun n9 =>
(v0).bind fun a10 =>
c_LLI r8.2 a10.block (a10.off + 0) fun l11 l12 n13 =>
(run (Et base) 144 [(.agg #[(vL l11.1 l11.2), (vL l12.1 l12.2), (vI n13)]), (vI v1), (vI (IntKind.wrap .i64 ((IntKind.wrap .i64 (n9 - (1 : Int))) + (1 : Int))))] r8.2).bind fun r14 =>
(getTup 2 r14.1).bind fun l15 =>
l_LB l15 fun l16 b17 =>
nw1 r14.2 39 [(vI 0), (vI 0), (vT ⟨#[]⟩), (vL none 0)] fun h18 =>
(wr base h18 (List.length r14.2) 0 [(vI (4 : Int)), (vI (0 : Int)), (vT (⟨#[]⟩ : ByteArray)), (vL none 0)]).bind fun h19 =>
((run (Et base) 83 [(vI (IntKind.wrap .i64 (n9 - (1 : Int)))), (vI (0 : Int)), (vI (8 : Int))] h19).bind fun r21 =>
((some r21.1).bind getB).bind fun b22 =>
(if (!b22) = true then
some (.inl ([some (.pointer v0), some (vI v2), some (vP (List.length h)), some (vL l16.1 l16.2), some (vP (List.length r14.2)), some (.bool true)], r21.2))
else
some (.inl ([some (.pointer v0), some (vI v2), some (vP (List.length h)), some (vL l16.1 l16.2), some (vP (List.length r14.2)), some (.bool (!b17))], r21.2)))).bind fun j20 => joinK j20 fun j20 =>
j_PIALAB j20.1 fun p23 n24 d25 l26 d27 b28 =>
(if b28 = true then
(p23).bind fun a29 =>
(wr base j20.2 a29.block (a29.off + 5) [(.bool true)]).bind fun h30 =>
c_IITL h30 d27.block d27.off fun n31 n32 s33 l34 =>
(wr base h30 d25.block d25.off [(vI n31), (vI n32), (vT s33), (vL l34.1 l34.2)]).bind fun h35 =>
c_IITL h35 d25.block d25.off fun n36 n37 s38 l39 =>
some ((.agg #[(vI n36), (vI n37), (vT s38), (vL l39.1 l39.2)]), h35)
else
(loopL (B179_0 base) [some (.pointer p23), some (vI n24), some (vA d25), some (vL l26.1 l26.2), some (vA d27), some (vI (1 : Int))] j20.2).bind fun q40 =>
(if q40.1 = 2 then
j_AA q40.2.1 fun d41 d42 =>
c_IITL q40.2.2 d42.block d42.off fun n43 n44 s45 l46 =>
(wr base q40.2.2 d41.block d41.off [(vI n43), (vI n44), (vT s45), (vL l46.1 l46.2)]).bind fun h47 =>
c_IITL h47 d41.block d41.off fun n48 n49 s50 l51 =>
some ((.agg #[(vI n48), (vI n49), (vT s50), (vL l51.1 l51.2)]), h47)
else
none))))
theorem r179 {base : Nat} {v0 : Option Addr} {v1 : Int} {v2 : Int} {h : AH} {r : Value × AH} (hx : qf179 base v0 v1 v2 h = some r) : run (Et base) 179 [(.pointer v0), (vI v1), (vI v2)] h = some r := run_i (an := a179) Try.func179 (by kernel_rfl) (.trans (by kernel_rfl) hx)
end Go.Proofs.Ytjmkbglnjklbcaa.Am
