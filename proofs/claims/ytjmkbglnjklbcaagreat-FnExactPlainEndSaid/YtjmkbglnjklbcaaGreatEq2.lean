/- What each of these functions comes to on the abstract machine, one equation a function and one a loop.
Conditions: none. -/
import Derived.Test.YtjmkbglnjklbcaaGreatTb
set_option linter.unusedVariables false
set_option maxRecDepth 100000
namespace Go.Proofs.YtjmkbglnjklbcaaGreat.Am
open Go Go.RowKit
noncomputable def B47_0 (base : Nat) : Body := fun l h => lay s47_0 l fun s => exCode (Et base) (run (Et base)) loopL a47_0 (subC [1, 1, 0, 1, 0, 0] (bodyC Tryz.f47)) s h (keepK s47_0 e47_0)
theorem B47_0_eq (base : Nat) (v0 : Option Addr) (v0n : Nat) (v1 : Option Addr) (v1n : Nat) (v5 : Int) (h : AH) : B47_0 base [some (vL v0 v0n), some (vL v1 v1n), some (vI v5)] h =
((if (decide (v5 < ((v0n : Nat) : Int))) = true then
(if 0 ≤ v5 ∧ v5 < ((v0n : Nat) : Int) then
((v0 : Option Addr)).bind fun a1 =>
c_IIIIIT h a1.block (a1.off + Int.toNat v5 * 6) fun n2 n3 n4 n5 n6 s7 =>
(if 0 ≤ v5 ∧ v5 < ((v1n : Nat) : Int) then
((v1 : Option Addr)).bind fun a8 =>
c_IIIIIT h a8.block (a8.off + Int.toNat v5 * 6) fun n9 n10 n11 n12 n13 s14 =>
(run (Et base) 118 [(.agg #[(vI n2), (vI n3), (vI n4), (vI n5), (vI n6), (vT s7)]), (.agg #[(vI n9), (vI n10), (vI n11), (vI n12), (vI n13), (vT s14)])] h).bind fun r15 =>
((some r15.1).bind getB).bind fun b16 =>
(if (!b16) = true then
some (1, [some (.bool false)], r15.2)
else
some (0, [some (vL v0 v0n), some (vL v1 v1n), some (vI (IntKind.wrap .i64 (v5 + (1 : Int))))], r15.2))
else none)
else none)
else
some (2, [], h)) : Option (Nat × Slots × AH)) := by kernel_rfl
theorem r47 {base : Nat} {v0 : Option Addr} {v0n : Nat} {v1 : Option Addr} {v1n : Nat} {h : AH} {r : Value × AH} (hx : ((if (((v0n : Nat) : Int) != ((v1n : Nat) : Int)) = true then
some ((.bool false), h)
else
(loopL (B47_0 base) [some (.slice v0 v0n v0n), some (.slice v1 v1n v1n), some (.int .i64 (0 : Int))] h).bind fun q1 =>
(if q1.1 = 1 then
((sget q1.2.1 0).bind getB).bind fun b2 =>
some ((.bool b2), q1.2.2)
else
(if q1.1 = 2 then
some ((.bool true), q1.2.2)
else
none)))) = some r) : run (Et base) 47 [(vL v0 v0n), (vL v1 v1n)] h = some r := run_i (an := a47) Tryz.func47 (by kernel_rfl) (.trans (by kernel_rfl) hx)
noncomputable def B48_0 (base : Nat) : Body := fun l h => lay s48_0 l fun s => exCode (Et base) (run (Et base)) loopL a48_0 (subC [1, 1, 0, 1, 0, 0] (bodyC Tryz.f48)) s h (keepK s48_0 e48_0)
theorem B48_0_eq (base : Nat) (v0 : Option Addr) (v0n : Nat) (v1 : Option Addr) (v1n : Nat) (v5 : Int) (h : AH) : B48_0 base [some (vL v0 v0n), some (vL v1 v1n), some (vI v5)] h =
((if (decide (v5 < ((v0n : Nat) : Int))) = true then
(if 0 ≤ v5 ∧ v5 < ((v0n : Nat) : Int) then
((v0 : Option Addr)).bind fun a1 =>
c_IILLL h a1.block (a1.off + Int.toNat v5 * 5) fun n2 n3 l4 l5 l6 =>
(if 0 ≤ v5 ∧ v5 < ((v1n : Nat) : Int) then
((v1 : Option Addr)).bind fun a7 =>
c_IILLL h a7.block (a7.off + Int.toNat v5 * 5) fun n8 n9 l10 l11 l12 =>
(run (Et base) 119 [(.agg #[(vI n2), (vI n3), (vL l4.1 l4.2), (vL l5.1 l5.2), (vL l6.1 l6.2)]), (.agg #[(vI n8), (vI n9), (vL l10.1 l10.2), (vL l11.1 l11.2), (vL l12.1 l12.2)])] h).bind fun r13 =>
((some r13.1).bind getB).bind fun b14 =>
(if (!b14) = true then
some (1, [some (.bool false)], r13.2)
else
some (0, [some (vL v0 v0n), some (vL v1 v1n), some (vI (IntKind.wrap .i64 (v5 + (1 : Int))))], r13.2))
else none)
else none)
else
some (2, [], h)) : Option (Nat × Slots × AH)) := by kernel_rfl
theorem r48 {base : Nat} {v0 : Option Addr} {v0n : Nat} {v1 : Option Addr} {v1n : Nat} {h : AH} {r : Value × AH} (hx : ((if (((v0n : Nat) : Int) != ((v1n : Nat) : Int)) = true then
some ((.bool false), h)
else
(loopL (B48_0 base) [some (.slice v0 v0n v0n), some (.slice v1 v1n v1n), some (.int .i64 (0 : Int))] h).bind fun q1 =>
(if q1.1 = 1 then
((sget q1.2.1 0).bind getB).bind fun b2 =>
some ((.bool b2), q1.2.2)
else
(if q1.1 = 2 then
some ((.bool true), q1.2.2)
else
none)))) = some r) : run (Et base) 48 [(vL v0 v0n), (vL v1 v1n)] h = some r := run_i (an := a48) Tryz.func48 (by kernel_rfl) (.trans (by kernel_rfl) hx)
noncomputable def B49_0 (base : Nat) : Body := fun l h => lay s49_0 l fun s => exCode (Et base) (run (Et base)) loopL a49_0 (subC [1, 1, 0, 1, 0, 0] (bodyC Tryz.f49)) s h (keepK s49_0 e49_0)
theorem B49_0_eq (base : Nat) (v0 : Option Addr) (v0n : Nat) (v1 : Option Addr) (v1n : Nat) (v5 : Int) (h : AH) : B49_0 base [some (vL v0 v0n), some (vL v1 v1n), some (vI v5)] h =
((if (decide (v5 < ((v0n : Nat) : Int))) = true then
(if 0 ≤ v5 ∧ v5 < ((v0n : Nat) : Int) then
((v0 : Option Addr)).bind fun a1 =>
c_IIIITL h a1.block (a1.off + Int.toNat v5 * 6) fun n2 n3 n4 n5 s6 l7 =>
(if 0 ≤ v5 ∧ v5 < ((v1n : Nat) : Int) then
((v1 : Option Addr)).bind fun a8 =>
c_IIIITL h a8.block (a8.off + Int.toNat v5 * 6) fun n9 n10 n11 n12 s13 l14 =>
(run (Et base) 120 [(.agg #[(vI n2), (vI n3), (vI n4), (vI n5), (vT s6), (vL l7.1 l7.2)]), (.agg #[(vI n9), (vI n10), (vI n11), (vI n12), (vT s13), (vL l14.1 l14.2)])] h).bind fun r15 =>
((some r15.1).bind getB).bind fun b16 =>
(if (!b16) = true then
some (1, [some (.bool false)], r15.2)
else
some (0, [some (vL v0 v0n), some (vL v1 v1n), some (vI (IntKind.wrap .i64 (v5 + (1 : Int))))], r15.2))
else none)
else none)
else
some (2, [], h)) : Option (Nat × Slots × AH)) := by kernel_rfl
theorem r49 {base : Nat} {v0 : Option Addr} {v0n : Nat} {v1 : Option Addr} {v1n : Nat} {h : AH} {r : Value × AH} (hx : ((if (((v0n : Nat) : Int) != ((v1n : Nat) : Int)) = true then
some ((.bool false), h)
else
(loopL (B49_0 base) [some (.slice v0 v0n v0n), some (.slice v1 v1n v1n), some (.int .i64 (0 : Int))] h).bind fun q1 =>
(if q1.1 = 1 then
((sget q1.2.1 0).bind getB).bind fun b2 =>
some ((.bool b2), q1.2.2)
else
(if q1.1 = 2 then
some ((.bool true), q1.2.2)
else
none)))) = some r) : run (Et base) 49 [(vL v0 v0n), (vL v1 v1n)] h = some r := run_i (an := a49) Tryz.func49 (by kernel_rfl) (.trans (by kernel_rfl) hx)
noncomputable def B50_0 (base : Nat) : Body := fun l h => lay s50_0 l fun s => exCode (Et base) (run (Et base)) loopL a50_0 (subC [1, 1, 0, 1, 0, 0] (bodyC Tryz.f50)) s h (keepK s50_0 e50_0)
theorem B50_0_eq (base : Nat) (v0 : Option Addr) (v0n : Nat) (v1 : Option Addr) (v1n : Nat) (v5 : Int) (h : AH) : B50_0 base [some (vL v0 v0n), some (vL v1 v1n), some (vI v5)] h =
((if (decide (v5 < ((v0n : Nat) : Int))) = true then
(if 0 ≤ v5 ∧ v5 < ((v0n : Nat) : Int) then
((v0 : Option Addr)).bind fun a1 =>
((cell h a1.block (a1.off + Int.toNat v5 * 4)).bind (getI .i64)).bind fun n2 =>
((cell h a1.block ((a1.off + Int.toNat v5 * 4) + 1)).bind (getI .i64)).bind fun n3 =>
((cell h a1.block (((a1.off + Int.toNat v5 * 4) + 1) + 1)).bind getStr).bind fun s4 =>
((cell h a1.block ((((a1.off + Int.toNat v5 * 4) + 1) + 1) + 1)).bind getS).bind fun l5 =>
(if 0 ≤ v5 ∧ v5 < ((v1n : Nat) : Int) then
((v1 : Option Addr)).bind fun a6 =>
((cell h a6.block (a6.off + Int.toNat v5 * 4)).bind (getI .i64)).bind fun n7 =>
((cell h a6.block ((a6.off + Int.toNat v5 * 4) + 1)).bind (getI .i64)).bind fun n8 =>
((cell h a6.block (((a6.off + Int.toNat v5 * 4) + 1) + 1)).bind getStr).bind fun s9 =>
((cell h a6.block ((((a6.off + Int.toNat v5 * 4) + 1) + 1) + 1)).bind getS).bind fun l10 =>
(run (Et base) 14 [(.agg #[(.int .i64 n2), (.int .i64 n3), (.string s4), (.slice l5.1 l5.2 l5.2)]), (.agg #[(.int .i64 n7), (.int .i64 n8), (.string s9), (.slice l10.1 l10.2 l10.2)])] h).bind fun r11 =>
((some r11.1).bind getB).bind fun b12 =>
(if (!b12) = true then
some (1, [some (.bool false)], r11.2)
else
some (0, [some (.slice v0 v0n v0n), some (.slice v1 v1n v1n), some (.int .i64 (IntKind.wrap .i64 (v5 + (1 : Int))))], r11.2))
else none)
else none)
else
some (2, [], h)) : Option (Nat × Slots × AH)) := by kernel_rfl
theorem r50 {base : Nat} {v0 : Option Addr} {v0n : Nat} {v1 : Option Addr} {v1n : Nat} {h : AH} {r : Value × AH} (hx : ((if (((v0n : Nat) : Int) != ((v1n : Nat) : Int)) = true then
some ((.bool false), h)
else
(loopL (B50_0 base) [some (.slice v0 v0n v0n), some (.slice v1 v1n v1n), some (.int .i64 (0 : Int))] h).bind fun q1 =>
(if q1.1 = 1 then
((sget q1.2.1 0).bind getB).bind fun b2 =>
some ((.bool b2), q1.2.2)
else
(if q1.1 = 2 then
some ((.bool true), q1.2.2)
else
none)))) = some r) : run (Et base) 50 [(vL v0 v0n), (vL v1 v1n)] h = some r := run_i (an := a50) Tryz.func50 (by kernel_rfl) (.trans (by kernel_rfl) hx)
noncomputable def B51_0 (base : Nat) : Body := fun l h => lay s51_0 l fun s => exCode (Et base) (run (Et base)) loopL a51_0 (subC [1, 0, 1, 0, 0] (bodyC Tryz.f51)) s h (keepK s51_0 e51_0)
theorem B51_0_eq (base : Nat) (v0 : Option Addr) (v0n : Nat) (v1 : Int) (v5 : Int) (h : AH) : B51_0 base [some (vL v0 v0n), some (vI v1), some (vI v5)] h =
((if (decide (v5 < ((v0n : Nat) : Int))) = true then
(if 0 ≤ v5 ∧ v5 < ((v0n : Nat) : Int) then
((v0 : Option Addr)).bind fun a1 =>
(wr base h a1.block ((a1.off + Int.toNat v5 * 6) + 0) [(vI v1)]).bind fun h2 =>
(if 0 ≤ v5 ∧ v5 < ((v0n : Nat) : Int) then
((v0 : Option Addr)).bind fun a3 =>
(wr base h2 a3.block ((a3.off + Int.toNat v5 * 6) + 1) [(vI (IntKind.wrap .i64 (v1 + (1 : Int))))]).bind fun h4 =>
(if 0 ≤ v5 ∧ v5 < ((v0n : Nat) : Int) then
((v0 : Option Addr)).bind fun a5 =>
(wr base h4 a5.block ((a5.off + Int.toNat v5 * 6) + 2) [(vI (IntKind.wrap .i64 ((IntKind.wrap .i64 (v1 + (1 : Int))) + (1 : Int))))]).bind fun h6 =>
(if 0 ≤ v5 ∧ v5 < ((v0n : Nat) : Int) then
((v0 : Option Addr)).bind fun a7 =>
(wr base h6 a7.block ((a7.off + Int.toNat v5 * 6) + 3) [(vI (IntKind.wrap .i64 ((IntKind.wrap .i64 ((IntKind.wrap .i64 (v1 + (1 : Int))) + (1 : Int))) + (1 : Int))))]).bind fun h8 =>
(if 0 ≤ v5 ∧ v5 < ((v0n : Nat) : Int) then
((v0 : Option Addr)).bind fun a9 =>
(wr base h8 a9.block ((a9.off + Int.toNat v5 * 6) + 4) [(vI (IntKind.wrap .i64 ((IntKind.wrap .i64 ((IntKind.wrap .i64 ((IntKind.wrap .i64 (v1 + (1 : Int))) + (1 : Int))) + (1 : Int))) + (1 : Int))))]).bind fun h10 =>
(run (Et base) 121 [(vI (IntKind.wrap .i64 ((IntKind.wrap .i64 ((IntKind.wrap .i64 ((IntKind.wrap .i64 ((IntKind.wrap .i64 (v1 + (1 : Int))) + (1 : Int))) + (1 : Int))) + (1 : Int))) + (1 : Int))))] h10).bind fun r11 =>
((some r11.1).bind getStr).bind fun s12 =>
(if 0 ≤ v5 ∧ v5 < ((v0n : Nat) : Int) then
((v0 : Option Addr)).bind fun a13 =>
(wr base r11.2 a13.block ((a13.off + Int.toNat v5 * 6) + 5) [(vT s12)]).bind fun h14 =>
some (0, [some (vL v0 v0n), some (vI (IntKind.wrap .i64 ((IntKind.wrap .i64 ((IntKind.wrap .i64 ((IntKind.wrap .i64 ((IntKind.wrap .i64 ((IntKind.wrap .i64 (v1 + (1 : Int))) + (1 : Int))) + (1 : Int))) + (1 : Int))) + (1 : Int))) + (1 : Int)))), some (vI (IntKind.wrap .i64 (v5 + (1 : Int))))], h14)
else none)
else none)
else none)
else none)
else none)
else none)
else
some (2, [some (vI v1)], h)) : Option (Nat × Slots × AH)) := by kernel_rfl
theorem r51 {base : Nat} {v0 : Option Addr} {v0n : Nat} {v1 : Int} {h : AH} {r : Value × AH} (hx : ((loopL (B51_0 base) [some (.slice v0 v0n v0n), some (.int .i64 v1), some (.int .i64 (0 : Int))] h).bind fun q1 =>
(if q1.1 = 2 then
((sget q1.2.1 0).bind (getI .i64)).bind fun n2 =>
some ((.int .i64 n2), q1.2.2)
else
none)) = some r) : run (Et base) 51 [(vL v0 v0n), (vI v1)] h = some r := run_i (an := a51) Tryz.func51 (by kernel_rfl) (.trans (by kernel_rfl) hx)
noncomputable def B52_0 (base : Nat) : Body := fun l h => lay s52_0 l fun s => exCode (Et base) (run (Et base)) loopL a52_0 (subC [1, 0, 1, 0, 0] (bodyC Tryz.f52)) s h (keepK s52_0 e52_0)
theorem B52_0_eq (base : Nat) (v0 : Option Addr) (v0n : Nat) (v1 : Int) (v5 : Int) (h : AH) : B52_0 base [some (vL v0 v0n), some (vI v1), some (vI v5)] h =
((if (decide (v5 < ((v0n : Nat) : Int))) = true then
(if 0 ≤ v5 ∧ v5 < ((v0n : Nat) : Int) then
((v0 : Option Addr)).bind fun a1 =>
(wr base h a1.block ((a1.off + Int.toNat v5 * 5) + 0) [(vI v1)]).bind fun h2 =>
(if 0 ≤ v5 ∧ v5 < ((v0n : Nat) : Int) then
((v0 : Option Addr)).bind fun a3 =>
(wr base h2 a3.block ((a3.off + Int.toNat v5 * 5) + 1) [(vI (IntKind.wrap .i64 (v1 + (1 : Int))))]).bind fun h4 =>
(if 0 ≤ v5 ∧ v5 < ((v0n : Nat) : Int) then
((v0 : Option Addr)).bind fun a5 =>
((cell h4 a5.block ((a5.off + Int.toNat v5 * 5) + 2)).bind getS).bind fun l6 =>
(run (Et base) 54 [(vL l6.1 l6.2), (vI (IntKind.wrap .i64 ((IntKind.wrap .i64 (v1 + (1 : Int))) + (1 : Int))))] h4).bind fun r7 =>
((some r7.1).bind (getI .i64)).bind fun n8 =>
(if 0 ≤ v5 ∧ v5 < ((v0n : Nat) : Int) then
((v0 : Option Addr)).bind fun a9 =>
((cell r7.2 a9.block ((a9.off + Int.toNat v5 * 5) + 3)).bind getS).bind fun l10 =>
(run (Et base) 54 [(vL l10.1 l10.2), (vI n8)] r7.2).bind fun r11 =>
((some r11.1).bind (getI .i64)).bind fun n12 =>
(if 0 ≤ v5 ∧ v5 < ((v0n : Nat) : Int) then
((v0 : Option Addr)).bind fun a13 =>
((cell r11.2 a13.block ((a13.off + Int.toNat v5 * 5) + 4)).bind getS).bind fun l14 =>
(run (Et base) 122 [(vL l14.1 l14.2), (vI n12)] r11.2).bind fun r15 =>
((some r15.1).bind (getI .i64)).bind fun n16 =>
some (0, [some (vL v0 v0n), some (vI n16), some (vI (IntKind.wrap .i64 (v5 + (1 : Int))))], r15.2)
else none)
else none)
else none)
else none)
else none)
else
some (2, [some (vI v1)], h)) : Option (Nat × Slots × AH)) := by kernel_rfl
theorem r52 {base : Nat} {v0 : Option Addr} {v0n : Nat} {v1 : Int} {h : AH} {r : Value × AH} (hx : ((loopL (B52_0 base) [some (.slice v0 v0n v0n), some (.int .i64 v1), some (.int .i64 (0 : Int))] h).bind fun q1 =>
(if q1.1 = 2 then
((sget q1.2.1 0).bind (getI .i64)).bind fun n2 =>
some ((.int .i64 n2), q1.2.2)
else
none)) = some r) : run (Et base) 52 [(vL v0 v0n), (vI v1)] h = some r := run_i (an := a52) Tryz.func52 (by kernel_rfl) (.trans (by kernel_rfl) hx)
noncomputable def B53_0 (base : Nat) : Body := fun l h => lay s53_0 l fun s => exCode (Et base) (run (Et base)) loopL a53_0 (subC [1, 0, 1, 0, 0] (bodyC Tryz.f53)) s h (keepK s53_0 e53_0)
theorem B53_0_eq (base : Nat) (v0 : Option Addr) (v0n : Nat) (v1 : Int) (v5 : Int) (h : AH) : B53_0 base [some (vL v0 v0n), some (vI v1), some (vI v5)] h =
((if (decide (v5 < ((v0n : Nat) : Int))) = true then
(if 0 ≤ v5 ∧ v5 < ((v0n : Nat) : Int) then
((v0 : Option Addr)).bind fun a1 =>
(wr base h a1.block ((a1.off + Int.toNat v5 * 6) + 0) [(vI v1)]).bind fun h2 =>
(if 0 ≤ v5 ∧ v5 < ((v0n : Nat) : Int) then
((v0 : Option Addr)).bind fun a3 =>
(wr base h2 a3.block ((a3.off + Int.toNat v5 * 6) + 1) [(vI (IntKind.wrap .i64 (v1 + (1 : Int))))]).bind fun h4 =>
(if 0 ≤ v5 ∧ v5 < ((v0n : Nat) : Int) then
((v0 : Option Addr)).bind fun a5 =>
(wr base h4 a5.block (((a5.off + Int.toNat v5 * 6) + 2) + 0) [(vI (IntKind.wrap .i64 ((IntKind.wrap .i64 (v1 + (1 : Int))) + (1 : Int))))]).bind fun h6 =>
(if 0 ≤ v5 ∧ v5 < ((v0n : Nat) : Int) then
((v0 : Option Addr)).bind fun a7 =>
(wr base h6 a7.block (((a7.off + Int.toNat v5 * 6) + 2) + 1) [(vI (IntKind.wrap .i64 ((IntKind.wrap .i64 ((IntKind.wrap .i64 (v1 + (1 : Int))) + (1 : Int))) + (1 : Int))))]).bind fun h8 =>
(run (Et base) 121 [(vI (IntKind.wrap .i64 ((IntKind.wrap .i64 ((IntKind.wrap .i64 ((IntKind.wrap .i64 (v1 + (1 : Int))) + (1 : Int))) + (1 : Int))) + (1 : Int))))] h8).bind fun r9 =>
((some r9.1).bind getStr).bind fun s10 =>
(if 0 ≤ v5 ∧ v5 < ((v0n : Nat) : Int) then
((v0 : Option Addr)).bind fun a11 =>
(wr base r9.2 a11.block (((a11.off + Int.toNat v5 * 6) + 2) + 2) [(vT s10)]).bind fun h12 =>
(if 0 ≤ v5 ∧ v5 < ((v0n : Nat) : Int) then
((v0 : Option Addr)).bind fun a13 =>
((cell h12 a13.block (((a13.off + Int.toNat v5 * 6) + 2) + 3)).bind getS).bind fun l14 =>
(run (Et base) 54 [(vL l14.1 l14.2), (vI (IntKind.wrap .i64 ((IntKind.wrap .i64 ((IntKind.wrap .i64 ((IntKind.wrap .i64 ((IntKind.wrap .i64 (v1 + (1 : Int))) + (1 : Int))) + (1 : Int))) + (1 : Int))) + (1 : Int))))] h12).bind fun r15 =>
((some r15.1).bind (getI .i64)).bind fun n16 =>
some (0, [some (vL v0 v0n), some (vI n16), some (vI (IntKind.wrap .i64 (v5 + (1 : Int))))], r15.2)
else none)
else none)
else none)
else none)
else none)
else none)
else
some (2, [some (vI v1)], h)) : Option (Nat × Slots × AH)) := by kernel_rfl
theorem r53 {base : Nat} {v0 : Option Addr} {v0n : Nat} {v1 : Int} {h : AH} {r : Value × AH} (hx : ((loopL (B53_0 base) [some (.slice v0 v0n v0n), some (.int .i64 v1), some (.int .i64 (0 : Int))] h).bind fun q1 =>
(if q1.1 = 2 then
((sget q1.2.1 0).bind (getI .i64)).bind fun n2 =>
some ((.int .i64 n2), q1.2.2)
else
none)) = some r) : run (Et base) 53 [(vL v0 v0n), (vI v1)] h = some r := run_i (an := a53) Tryz.func53 (by kernel_rfl) (.trans (by kernel_rfl) hx)
noncomputable def B54_0 (base : Nat) : Body := fun l h => lay s54_0 l fun s => exCode (Et base) (run (Et base)) loopL a54_0 (subC [1, 0, 1, 0, 0] (bodyC Tryz.f54)) s h (keepK s54_0 e54_0)
theorem B54_0_eq (base : Nat) (v0 : Option Addr) (v0n : Nat) (v1 : Int) (v5 : Int) (h : AH) : B54_0 base [some (vL v0 v0n), some (vI v1), some (vI v5)] h =
((if (decide (v5 < ((v0n : Nat) : Int))) = true then
(if 0 ≤ v5 ∧ v5 < ((v0n : Nat) : Int) then
((v0 : Option Addr)).bind fun a1 =>
(wr base h a1.block ((a1.off + Int.toNat v5 * 4) + 0) [(.int .i64 v1)]).bind fun h2 =>
(if 0 ≤ v5 ∧ v5 < ((v0n : Nat) : Int) then
((v0 : Option Addr)).bind fun a3 =>
(wr base h2 a3.block ((a3.off + Int.toNat v5 * 4) + 1) [(.int .i64 (IntKind.wrap .i64 (v1 + (1 : Int))))]).bind fun h4 =>
(run (Et base) 121 [(.int .i64 (IntKind.wrap .i64 ((IntKind.wrap .i64 (v1 + (1 : Int))) + (1 : Int))))] h4).bind fun r5 =>
((some r5.1).bind getStr).bind fun s6 =>
(if 0 ≤ v5 ∧ v5 < ((v0n : Nat) : Int) then
((v0 : Option Addr)).bind fun a7 =>
(wr base r5.2 a7.block ((a7.off + Int.toNat v5 * 4) + 2) [(.string s6)]).bind fun h8 =>
(if 0 ≤ v5 ∧ v5 < ((v0n : Nat) : Int) then
((v0 : Option Addr)).bind fun a9 =>
((cell h8 a9.block ((a9.off + Int.toNat v5 * 4) + 3)).bind getS).bind fun l10 =>
(run (Et base) 54 [(.slice l10.1 l10.2 l10.2), (.int .i64 (IntKind.wrap .i64 ((IntKind.wrap .i64 ((IntKind.wrap .i64 (v1 + (1 : Int))) + (1 : Int))) + (1 : Int))))] h8).bind fun r11 =>
((some r11.1).bind (getI .i64)).bind fun n12 =>
some (0, [some (.slice v0 v0n v0n), some (.int .i64 n12), some (.int .i64 (IntKind.wrap .i64 (v5 + (1 : Int))))], r11.2)
else none)
else none)
else none)
else none)
else
some (2, [some (.int .i64 v1)], h)) : Option (Nat × Slots × AH)) := by kernel_rfl
theorem r54 {base : Nat} {v0 : Option Addr} {v0n : Nat} {v1 : Int} {h : AH} {r : Value × AH} (hx : ((loopL (B54_0 base) [some (.slice v0 v0n v0n), some (.int .i64 v1), some (.int .i64 (0 : Int))] h).bind fun q1 =>
(if q1.1 = 2 then
((sget q1.2.1 0).bind (getI .i64)).bind fun n2 =>
some ((.int .i64 n2), q1.2.2)
else
none)) = some r) : run (Et base) 54 [(vL v0 v0n), (vI v1)] h = some r := run_i (an := a54) Tryz.func54 (by kernel_rfl) (.trans (by kernel_rfl) hx)
noncomputable def B55_0 (base : Nat) : Body := fun l h => lay s55_0 l fun s => exCode (Et base) (run (Et base)) loopL a55_0 (subC [1, 0, 1, 0, 0] (bodyC Tryz.f55)) s h (keepK s55_0 e55_0)
theorem B55_0_eq (base : Nat) (v0 : Option Addr) (v0n : Nat) (v1 : Int) (v5 : Int) (h : AH) : B55_0 base [some (vL v0 v0n), some (vI v1), some (vI v5)] h =
((if (decide (v5 < ((v0n : Nat) : Int))) = true then
(if 0 ≤ v5 ∧ v5 < ((v0n : Nat) : Int) then
((v0 : Option Addr)).bind fun a1 =>
((cell h a1.block ((a1.off + Int.toNat v5 * 6) + 0)).bind (getI .i64)).bind fun n2 =>
(if (n2 != v1) = true then
some (1, [some (vI (-1 : Int))], h)
else
(if 0 ≤ v5 ∧ v5 < ((v0n : Nat) : Int) then
((v0 : Option Addr)).bind fun a3 =>
((cell h a3.block ((a3.off + Int.toNat v5 * 6) + 1)).bind (getI .i64)).bind fun n4 =>
(if (n4 != (IntKind.wrap .i64 (v1 + (1 : Int)))) = true then
some (1, [some (vI (-1 : Int))], h)
else
(if 0 ≤ v5 ∧ v5 < ((v0n : Nat) : Int) then
((v0 : Option Addr)).bind fun a5 =>
((cell h a5.block ((a5.off + Int.toNat v5 * 6) + 2)).bind (getI .i64)).bind fun n6 =>
(if (n6 != (IntKind.wrap .i64 ((IntKind.wrap .i64 (v1 + (1 : Int))) + (1 : Int)))) = true then
some (1, [some (vI (-1 : Int))], h)
else
(if 0 ≤ v5 ∧ v5 < ((v0n : Nat) : Int) then
((v0 : Option Addr)).bind fun a7 =>
((cell h a7.block ((a7.off + Int.toNat v5 * 6) + 3)).bind (getI .i64)).bind fun n8 =>
(if (n8 != (IntKind.wrap .i64 ((IntKind.wrap .i64 ((IntKind.wrap .i64 (v1 + (1 : Int))) + (1 : Int))) + (1 : Int)))) = true then
some (1, [some (vI (-1 : Int))], h)
else
(if 0 ≤ v5 ∧ v5 < ((v0n : Nat) : Int) then
((v0 : Option Addr)).bind fun a9 =>
((cell h a9.block ((a9.off + Int.toNat v5 * 6) + 4)).bind (getI .i64)).bind fun n10 =>
(if (n10 != (IntKind.wrap .i64 ((IntKind.wrap .i64 ((IntKind.wrap .i64 ((IntKind.wrap .i64 (v1 + (1 : Int))) + (1 : Int))) + (1 : Int))) + (1 : Int)))) = true then
some (1, [some (vI (-1 : Int))], h)
else
(if 0 ≤ v5 ∧ v5 < ((v0n : Nat) : Int) then
((v0 : Option Addr)).bind fun a11 =>
((cell h a11.block ((a11.off + Int.toNat v5 * 6) + 5)).bind getStr).bind fun s12 =>
(run (Et base) 121 [(vI (IntKind.wrap .i64 ((IntKind.wrap .i64 ((IntKind.wrap .i64 ((IntKind.wrap .i64 ((IntKind.wrap .i64 (v1 + (1 : Int))) + (1 : Int))) + (1 : Int))) + (1 : Int))) + (1 : Int))))] h).bind fun r13 =>
((some r13.1).bind getStr).bind fun s14 =>
(gate (sameA h r13.2 (some ⟨a11.block, ((a11.off + Int.toNat v5 * 6) + 5), none⟩) 1)
((if (!(s12.toList == s14.toList)) = true then
some (1, [some (vI (-1 : Int))], r13.2)
else
some (0, [some (vL v0 v0n), some (vI (IntKind.wrap .i64 ((IntKind.wrap .i64 ((IntKind.wrap .i64 ((IntKind.wrap .i64 ((IntKind.wrap .i64 ((IntKind.wrap .i64 (v1 + (1 : Int))) + (1 : Int))) + (1 : Int))) + (1 : Int))) + (1 : Int))) + (1 : Int)))), some (vI (IntKind.wrap .i64 (v5 + (1 : Int))))], r13.2))))
else none))
else none))
else none))
else none))
else none))
else none)
else
some (2, [some (vI v1)], h)) : Option (Nat × Slots × AH)) := by kernel_rfl
theorem r55 {base : Nat} {v0 : Option Addr} {v0n : Nat} {v1 : Int} {h : AH} {r : Value × AH} (hx : ((loopL (B55_0 base) [some (.slice v0 v0n v0n), some (.int .i64 v1), some (.int .i64 (0 : Int))] h).bind fun q1 =>
(if q1.1 = 1 then
((sget q1.2.1 0).bind (getI .i64)).bind fun n2 =>
some ((.int .i64 n2), q1.2.2)
else
(if q1.1 = 2 then
((sget q1.2.1 0).bind (getI .i64)).bind fun n3 =>
some ((.int .i64 n3), q1.2.2)
else
none))) = some r) : run (Et base) 55 [(vL v0 v0n), (vI v1)] h = some r := run_i (an := a55) Tryz.func55 (by kernel_rfl) (.trans (by kernel_rfl) hx)
noncomputable def B56_0 (base : Nat) : Body := fun l h => lay s56_0 l fun s => exCode (Et base) (run (Et base)) loopL a56_0 (subC [1, 0, 1, 0, 0] (bodyC Tryz.f56)) s h (keepK s56_0 e56_0)
theorem B56_0_eq (base : Nat) (v0 : Option Addr) (v0n : Nat) (v1 : Int) (v5 : Int) (h : AH) : B56_0 base [some (vL v0 v0n), some (vI v1), some (vI v5)] h =
((if (decide (v5 < ((v0n : Nat) : Int))) = true then
(if 0 ≤ v5 ∧ v5 < ((v0n : Nat) : Int) then
((v0 : Option Addr)).bind fun a1 =>
((cell h a1.block ((a1.off + Int.toNat v5 * 5) + 0)).bind (getI .i64)).bind fun n2 =>
(if (n2 != v1) = true then
some (1, [some (vI (-1 : Int))], h)
else
(if 0 ≤ v5 ∧ v5 < ((v0n : Nat) : Int) then
((v0 : Option Addr)).bind fun a3 =>
((cell h a3.block ((a3.off + Int.toNat v5 * 5) + 1)).bind (getI .i64)).bind fun n4 =>
(if (n4 != (IntKind.wrap .i64 (v1 + (1 : Int)))) = true then
some (1, [some (vI (-1 : Int))], h)
else
(if 0 ≤ v5 ∧ v5 < ((v0n : Nat) : Int) then
((v0 : Option Addr)).bind fun a5 =>
((cell h a5.block ((a5.off + Int.toNat v5 * 5) + 2)).bind getS).bind fun l6 =>
(run (Et base) 123 [(vL l6.1 l6.2), (vI (IntKind.wrap .i64 ((IntKind.wrap .i64 (v1 + (1 : Int))) + (1 : Int))))] h).bind fun r7 =>
((some r7.1).bind (getI .i64)).bind fun n8 =>
(if (decide (n8 < (0 : Int))) = true then
some (1, [some (vI (-1 : Int))], r7.2)
else
(if 0 ≤ v5 ∧ v5 < ((v0n : Nat) : Int) then
((v0 : Option Addr)).bind fun a9 =>
((cell r7.2 a9.block ((a9.off + Int.toNat v5 * 5) + 3)).bind getS).bind fun l10 =>
(run (Et base) 123 [(vL l10.1 l10.2), (vI n8)] r7.2).bind fun r11 =>
((some r11.1).bind (getI .i64)).bind fun n12 =>
(if (decide (n12 < (0 : Int))) = true then
some (1, [some (vI (-1 : Int))], r11.2)
else
(if 0 ≤ v5 ∧ v5 < ((v0n : Nat) : Int) then
((v0 : Option Addr)).bind fun a13 =>
((cell r11.2 a13.block ((a13.off + Int.toNat v5 * 5) + 4)).bind getS).bind fun l14 =>
(run (Et base) 124 [(vL l14.1 l14.2), (vI n12)] r11.2).bind fun r15 =>
((some r15.1).bind (getI .i64)).bind fun n16 =>
(if (decide (n16 < (0 : Int))) = true then
some (1, [some (vI (-1 : Int))], r15.2)
else
some (0, [some (vL v0 v0n), some (vI n16), some (vI (IntKind.wrap .i64 (v5 + (1 : Int))))], r15.2))
else none))
else none))
else none))
else none))
else none)
else
some (2, [some (vI v1)], h)) : Option (Nat × Slots × AH)) := by kernel_rfl
theorem r56 {base : Nat} {v0 : Option Addr} {v0n : Nat} {v1 : Int} {h : AH} {r : Value × AH} (hx : ((loopL (B56_0 base) [some (.slice v0 v0n v0n), some (.int .i64 v1), some (.int .i64 (0 : Int))] h).bind fun q1 =>
(if q1.1 = 1 then
((sget q1.2.1 0).bind (getI .i64)).bind fun n2 =>
some ((.int .i64 n2), q1.2.2)
else
(if q1.1 = 2 then
((sget q1.2.1 0).bind (getI .i64)).bind fun n3 =>
some ((.int .i64 n3), q1.2.2)
else
none))) = some r) : run (Et base) 56 [(vL v0 v0n), (vI v1)] h = some r := run_i (an := a56) Tryz.func56 (by kernel_rfl) (.trans (by kernel_rfl) hx)
noncomputable def B57_0 (base : Nat) : Body := fun l h => lay s57_0 l fun s => exCode (Et base) (run (Et base)) loopL a57_0 (subC [1, 0, 1, 0, 0] (bodyC Tryz.f57)) s h (keepK s57_0 e57_0)
theorem B57_0_eq (base : Nat) (v0 : Option Addr) (v0n : Nat) (v1 : Int) (v5 : Int) (h : AH) : B57_0 base [some (vL v0 v0n), some (vI v1), some (vI v5)] h =
((if (decide (v5 < ((v0n : Nat) : Int))) = true then
(if 0 ≤ v5 ∧ v5 < ((v0n : Nat) : Int) then
((v0 : Option Addr)).bind fun a1 =>
((cell h a1.block ((a1.off + Int.toNat v5 * 6) + 0)).bind (getI .i64)).bind fun n2 =>
(if (n2 != v1) = true then
some (1, [some (vI (-1 : Int))], h)
else
(if 0 ≤ v5 ∧ v5 < ((v0n : Nat) : Int) then
((v0 : Option Addr)).bind fun a3 =>
((cell h a3.block ((a3.off + Int.toNat v5 * 6) + 1)).bind (getI .i64)).bind fun n4 =>
(if (n4 != (IntKind.wrap .i64 (v1 + (1 : Int)))) = true then
some (1, [some (vI (-1 : Int))], h)
else
(if 0 ≤ v5 ∧ v5 < ((v0n : Nat) : Int) then
((v0 : Option Addr)).bind fun a5 =>
((cell h a5.block (((a5.off + Int.toNat v5 * 6) + 2) + 0)).bind (getI .i64)).bind fun n6 =>
(if (n6 != (IntKind.wrap .i64 ((IntKind.wrap .i64 (v1 + (1 : Int))) + (1 : Int)))) = true then
some (1, [some (vI (-1 : Int))], h)
else
(if 0 ≤ v5 ∧ v5 < ((v0n : Nat) : Int) then
((v0 : Option Addr)).bind fun a7 =>
((cell h a7.block (((a7.off + Int.toNat v5 * 6) + 2) + 1)).bind (getI .i64)).bind fun n8 =>
(if (n8 != (IntKind.wrap .i64 ((IntKind.wrap .i64 ((IntKind.wrap .i64 (v1 + (1 : Int))) + (1 : Int))) + (1 : Int)))) = true then
some (1, [some (vI (-1 : Int))], h)
else
(if 0 ≤ v5 ∧ v5 < ((v0n : Nat) : Int) then
((v0 : Option Addr)).bind fun a9 =>
((cell h a9.block (((a9.off + Int.toNat v5 * 6) + 2) + 2)).bind getStr).bind fun s10 =>
(run (Et base) 121 [(vI (IntKind.wrap .i64 ((IntKind.wrap .i64 ((IntKind.wrap .i64 ((IntKind.wrap .i64 (v1 + (1 : Int))) + (1 : Int))) + (1 : Int))) + (1 : Int))))] h).bind fun r11 =>
((some r11.1).bind getStr).bind fun s12 =>
(gate (sameA h r11.2 (some ⟨a9.block, (((a9.off + Int.toNat v5 * 6) + 2) + 2), none⟩) 1)
((if (!(s10.toList == s12.toList)) = true then
some (1, [some (vI (-1 : Int))], r11.2)
else
(if 0 ≤ v5 ∧ v5 < ((v0n : Nat) : Int) then
((v0 : Option Addr)).bind fun a13 =>
((cell r11.2 a13.block (((a13.off + Int.toNat v5 * 6) + 2) + 3)).bind getS).bind fun l14 =>
(run (Et base) 123 [(vL l14.1 l14.2), (vI (IntKind.wrap .i64 ((IntKind.wrap .i64 ((IntKind.wrap .i64 ((IntKind.wrap .i64 ((IntKind.wrap .i64 (v1 + (1 : Int))) + (1 : Int))) + (1 : Int))) + (1 : Int))) + (1 : Int))))] r11.2).bind fun r15 =>
((some r15.1).bind (getI .i64)).bind fun n16 =>
(if (decide (n16 < (0 : Int))) = true then
some (1, [some (vI (-1 : Int))], r15.2)
else
some (0, [some (vL v0 v0n), some (vI n16), some (vI (IntKind.wrap .i64 (v5 + (1 : Int))))], r15.2))
else none))))
else none))
else none))
else none))
else none))
else none)
else
some (2, [some (vI v1)], h)) : Option (Nat × Slots × AH)) := by kernel_rfl
theorem r57 {base : Nat} {v0 : Option Addr} {v0n : Nat} {v1 : Int} {h : AH} {r : Value × AH} (hx : ((loopL (B57_0 base) [some (.slice v0 v0n v0n), some (.int .i64 v1), some (.int .i64 (0 : Int))] h).bind fun q1 =>
(if q1.1 = 1 then
((sget q1.2.1 0).bind (getI .i64)).bind fun n2 =>
some ((.int .i64 n2), q1.2.2)
else
(if q1.1 = 2 then
((sget q1.2.1 0).bind (getI .i64)).bind fun n3 =>
some ((.int .i64 n3), q1.2.2)
else
none))) = some r) : run (Et base) 57 [(vL v0 v0n), (vI v1)] h = some r := run_i (an := a57) Tryz.func57 (by kernel_rfl) (.trans (by kernel_rfl) hx)
noncomputable def B61_0 (base : Nat) : Body := fun l h => lay s61_0 l fun s => exCode (Et base) (run (Et base)) loopL a61_0 (subC [1, 1, 1, 0, 1, 0, 0] (bodyC Tryz.f61)) s h (keepK s61_0 e61_0)
theorem B61_0_eq (base : Nat) (v0 : Option Addr) (v0n : Nat) (v3 : Int) (v4 : Int) (h : AH) : B61_0 base [some (vL v0 v0n), some (vI v3), some (vI v4)] h =
((if (decide (v4 < v3)) = true then
(if 0 ≤ v4 ∧ v4 < ((v0n : Nat) : Int) then
((v0 : Option Addr)).bind fun a1 =>
((cell h a1.block (a1.off + Int.toNat v4 * 6)).bind (getI .i64)).bind fun n2 =>
((cell h a1.block ((a1.off + Int.toNat v4 * 6) + 1)).bind (getI .i64)).bind fun n3 =>
((cell h a1.block (((a1.off + Int.toNat v4 * 6) + 1) + 1)).bind (getI .i64)).bind fun n4 =>
((cell h a1.block ((((a1.off + Int.toNat v4 * 6) + 1) + 1) + 1)).bind (getI .i64)).bind fun n5 =>
((cell h a1.block (((((a1.off + Int.toNat v4 * 6) + 1) + 1) + 1) + 1)).bind (getI .i64)).bind fun n6 =>
((cell h a1.block ((((((a1.off + Int.toNat v4 * 6) + 1) + 1) + 1) + 1) + 1)).bind getStr).bind fun s7 =>
(run (Et base) 127 [(.agg #[(.int .i64 n2), (.int .i64 n3), (.int .i64 n4), (.int .i64 n5), (.int .i64 n6), (.string s7)]), (.int .i64 v3)] h).bind fun r8 =>
((some r8.1).bind getB).bind fun b9 =>
(if (!b9) = true then
some (1, [some (.bool false)], r8.2)
else
some (0, [some (.slice v0 v0n v0n), some (.int .i64 v3), some (.int .i64 (IntKind.wrap .i64 (v4 + (1 : Int))))], r8.2))
else none)
else
some (2, [], h)) : Option (Nat × Slots × AH)) := by kernel_rfl
theorem r61 {base : Nat} {v0 : Option Addr} {v0n : Nat} {h : AH} {r : Value × AH} (hx : (((run (Et base) 62 [(vI ((v0n : Nat) : Int)), (vI (1 : Int)), (vI (200 : Int))] h).bind fun r2 =>
((some r2.1).bind getB).bind fun b3 =>
(if (!b3) = true then
some (.inl ([some (vL v0 v0n), some (vI ((v0n : Nat) : Int)), some (.bool true)], r2.2))
else
(if 0 ≤ (IntKind.wrap .i64 (((v0n : Nat) : Int) - (1 : Int))) ∧ (IntKind.wrap .i64 (((v0n : Nat) : Int) - (1 : Int))) < ((v0n : Nat) : Int) then
((v0 : Option Addr)).bind fun a4 =>
((cell r2.2 a4.block ((a4.off + Int.toNat (IntKind.wrap .i64 (((v0n : Nat) : Int) - (1 : Int))) * 6) + 0)).bind (getI .i64)).bind fun n5 =>
(if (n5 != (19 : Int)) = true then
(if 0 ≤ (IntKind.wrap .i64 (((v0n : Nat) : Int) - (1 : Int))) ∧ (IntKind.wrap .i64 (((v0n : Nat) : Int) - (1 : Int))) < ((v0n : Nat) : Int) then
((v0 : Option Addr)).bind fun a6 =>
((cell r2.2 a6.block ((a6.off + Int.toNat (IntKind.wrap .i64 (((v0n : Nat) : Int) - (1 : Int))) * 6) + 0)).bind (getI .i64)).bind fun n7 =>
some (.inl ([some (vL v0 v0n), some (vI ((v0n : Nat) : Int)), some (.bool (n7 != (12 : Int)))], r2.2))
else none)
else
some (.inl ([some (vL v0 v0n), some (vI ((v0n : Nat) : Int)), some (.bool false)], r2.2)))
else none))).bind fun j1 => joinK j1 fun j1 =>
j_LIB j1.1 fun l8 n9 b10 =>
(if b10 = true then
some ((.bool false), j1.2)
else
(loopL (B61_0 base) [some (vL l8.1 l8.2), some (vI n9), some (vI (0 : Int))] j1.2).bind fun q11 =>
(if q11.1 = 1 then
((sget q11.2.1 0).bind getB).bind fun b12 =>
some ((.bool b12), q11.2.2)
else
(if q11.1 = 2 then
some ((.bool true), q11.2.2)
else
none)))) = some r) : run (Et base) 61 [(vL v0 v0n)] h = some r := run_i (an := a61) Tryz.func61 (by kernel_rfl) (.trans (by kernel_rfl) hx)
theorem r62 {base : Nat} {v0 : Int} {v1 : Int} {v2 : Int} {h : AH} {r : Value × AH} (hx : ((if (decide (v0 ≥ v1)) = true then
some ((.bool (decide (v0 ≤ v2))), h)
else
some ((.bool false), h))) = some r) : run (Et base) 62 [(vI v0), (vI v1), (vI v2)] h = some r := run_i (an := a62) Tryz.func62 (by kernel_rfl) (.trans (by kernel_rfl) hx)
noncomputable def B63_0 (base : Nat) : Body := fun l h => lay s63_0 l fun s => exCode (Et base) (run (Et base)) loopL a63_0 (subC [1, 0, 1, 0, 0] (bodyC Tryz.f63)) s h (keepK s63_0 e63_0)
theorem B63_0_eq (base : Nat) (v0 : Option Addr) (v0n : Nat) (v3 : Int) (h : AH) : B63_0 base [some (vL v0 v0n), some (vI v3)] h =
((if (decide (v3 < ((v0n : Nat) : Int))) = true then
((if 0 ≤ v3 ∧ v3 < ((v0n : Nat) : Int) then
((v0 : Option Addr)).bind fun a2 =>
((cell h a2.block ((a2.off + Int.toNat v3 * 6) + 0)).bind (getI .i64)).bind fun n3 =>
(run (Et base) 62 [(vI n3), (vI (1 : Int)), (vI (3 : Int))] h).bind fun r4 =>
((some r4.1).bind getB).bind fun b5 =>
(if (!b5) = true then
some (.inl ([some (vL v0 v0n), some (vI v3), some (.bool true)], r4.2))
else
(if 0 ≤ v3 ∧ v3 < ((v0n : Nat) : Int) then
((v0 : Option Addr)).bind fun a6 =>
((cell r4.2 a6.block ((a6.off + Int.toNat v3 * 6) + 1)).bind (getI .i64)).bind fun n7 =>
(run (Et base) 62 [(vI n7), (vI (1 : Int)), (vI (99999 : Int))] r4.2).bind fun r8 =>
((some r8.1).bind getB).bind fun b9 =>
(if (!b9) = true then
some (.inl ([some (vL v0 v0n), some (vI v3), some (.bool true)], r8.2))
else
(if 0 ≤ v3 ∧ v3 < ((v0n : Nat) : Int) then
((v0 : Option Addr)).bind fun a10 =>
c_IITL r8.2 a10.block ((a10.off + Int.toNat v3 * 6) + 2) fun n11 n12 s13 l14 =>
(run (Et base) 35 [(.agg #[(vI n11), (vI n12), (vT s13), (vL l14.1 l14.2)])] r8.2).bind fun r15 =>
((some r15.1).bind getB).bind fun b16 =>
some (.inl ([some (vL v0 v0n), some (vI v3), some (.bool (!b16))], r15.2))
else none))
else none))
else none)).bind fun j1 => joinK j1 fun j1 =>
j_LIB j1.1 fun l17 n18 b19 =>
(if b19 = true then
some (1, [some (.bool false)], j1.2)
else
some (0, [some (vL l17.1 l17.2), some (vI (IntKind.wrap .i64 (n18 + (1 : Int))))], j1.2))
else
some (2, [some (vL v0 v0n)], h)) : Option (Nat × Slots × AH)) := by kernel_rfl
theorem r63 {base : Nat} {v0 : Option Addr} {v0n : Nat} {h : AH} {r : Value × AH} (hx : ((loopL (B63_0 base) [some (.slice v0 v0n v0n), some (.int .i64 (0 : Int))] h).bind fun q1 =>
(if q1.1 = 1 then
((sget q1.2.1 0).bind getB).bind fun b2 =>
some ((.bool b2), q1.2.2)
else
(if q1.1 = 2 then
((sget q1.2.1 0).bind getS).bind fun l3 =>
some ((.bool (decide (((l3.2 : Nat) : Int) ≤ (500 : Int)))), q1.2.2)
else
none))) = some r) : run (Et base) 63 [(vL v0 v0n)] h = some r := run_i (an := a63) Tryz.func63 (by kernel_rfl) (.trans (by kernel_rfl) hx)
noncomputable def B71_0 (base : Nat) : Body := fun l h => lay s71_0 l fun s => exCode (Et base) (run (Et base)) loopL a71_0 (subC [1, 1, 0, 1, 0, 0] (bodyC Tryz.f71)) s h (keepK s71_0 e71_0)
theorem B71_0_eq (base : Nat) (v0 : Option Addr) (v0n : Nat) (v3 : Int) (v8 : Option Addr) (v8n : Nat) (v9 : Int) (v10 : Int) (h : AH) : B71_0 base [some (vL v0 v0n), some (vI v3), some (vL v8 v8n), some (vI v9), some (vI v10)] h =
((if (decide (v10 < v9)) = true then
(if 0 ≤ v10 ∧ v10 < ((v8n : Nat) : Int) then
((v8 : Option Addr)).bind fun a1 =>
c_IIIIIT h a1.block (a1.off + Int.toNat v10 * 6) fun n2 n3 n4 n5 n6 s7 =>
nw1 h 145 [(vI 0), (vI 0), (vI 0), (vI 0), (vI 0), (vT ⟨#[]⟩)] fun h8 =>
(wr base h8 (List.length h) 0 [(vI n2), (vI n3), (vI n4), (vI n5), (vI n6), (vT s7)]).bind fun h9 =>
c_IIIIIT h9 (List.length h) 0 fun n10 n11 n12 n13 n14 s15 =>
(run (Et base) 137 [(.agg #[(vI n10), (vI n11), (vI n12), (vI n13), (vI n14), (vT s15)]), (vI v3)] h9).bind fun r16 =>
((some r16.1).bind getB).bind fun b17 =>
(if (!b17) = true then
some (1, [some (.bool false)], r16.2)
else
some (0, [some (vL v0 v0n), some (vI v3), some (vL v8 v8n), some (vI v9), some (vI (IntKind.wrap .i64 (v10 + (1 : Int))))], r16.2))
else none)
else
some (2, [some (vL v0 v0n), some (vI v3)], h)) : Option (Nat × Slots × AH)) := by kernel_rfl
theorem r71 {base : Nat} {v0 : Option Addr} {v0n : Nat} {h : AH} {r : Value × AH} (hx : ((loopL (B71_0 base) [some (.slice v0 v0n v0n), some (.int .i64 ((v0n : Nat) : Int)), some (.slice v0 v0n v0n), some (.int .i64 ((v0n : Nat) : Int)), some (.int .i64 (0 : Int))] h).bind fun q1 =>
(if q1.1 = 1 then
((sget q1.2.1 0).bind getB).bind fun b2 =>
some ((.bool b2), q1.2.2)
else
(if q1.1 = 2 then
((sget q1.2.1 0).bind getS).bind fun l3 =>
((sget (q1.2.1.tail) 0).bind (getI .i64)).bind fun n4 =>
(run (Et base) 72 [(.int .i64 n4), (.int .i64 (1 : Int)), (.int .i64 (200 : Int))] q1.2.2).bind fun r5 =>
((some r5.1).bind getB).bind fun b6 =>
(if b6 = true then
(if 0 ≤ (IntKind.wrap .i64 (n4 - (1 : Int))) ∧ (IntKind.wrap .i64 (n4 - (1 : Int))) < ((l3.2 : Nat) : Int) then
((l3.1 : Option Addr)).bind fun a7 =>
((cell r5.2 a7.block ((a7.off + Int.toNat (IntKind.wrap .i64 (n4 - (1 : Int))) * 6) + 0)).bind (getI .i64)).bind fun n8 =>
(if (n8 == (19 : Int)) = true then
some ((.bool true), r5.2)
else
(if 0 ≤ (IntKind.wrap .i64 (n4 - (1 : Int))) ∧ (IntKind.wrap .i64 (n4 - (1 : Int))) < ((l3.2 : Nat) : Int) then
((l3.1 : Option Addr)).bind fun a9 =>
((cell r5.2 a9.block ((a9.off + Int.toNat (IntKind.wrap .i64 (n4 - (1 : Int))) * 6) + 0)).bind (getI .i64)).bind fun n10 =>
some ((.bool (n10 == (12 : Int))), r5.2)
else none))
else none)
else
some ((.bool false), r5.2))
else
none))) = some r) : run (Et base) 71 [(vL v0 v0n)] h = some r := run_i (an := a71) Tryz.func71 (by kernel_rfl) (.trans (by kernel_rfl) hx)
theorem r72 {base : Nat} {v0 : Int} {v1 : Int} {v2 : Int} {h : AH} {r : Value × AH} (hx : ((if (decide (v0 ≥ v1)) = true then
some ((.bool (decide (v0 ≤ v2))), h)
else
some ((.bool false), h))) = some r) : run (Et base) 72 [(vI v0), (vI v1), (vI v2)] h = some r := run_i (an := a72) Tryz.func72 (by kernel_rfl) (.trans (by kernel_rfl) hx)
noncomputable def B73_0 (base : Nat) : Body := fun l h => lay s73_0 l fun s => exCode (Et base) (run (Et base)) loopL a73_0 (subC [1, 0, 1, 0, 0] (bodyC Tryz.f73)) s h (keepK s73_0 e73_0)
theorem B73_0_eq (base : Nat) (v0 : Option Addr) (v0n : Nat) (v5 : Option Addr) (v5n : Nat) (v6 : Int) (v7 : Int) (h : AH) : B73_0 base [some (vL v0 v0n), some (vL v5 v5n), some (vI v6), some (vI v7)] h =
((if (decide (v7 < v6)) = true then
(if 0 ≤ v7 ∧ v7 < ((v5n : Nat) : Int) then
((v5 : Option Addr)).bind fun a1 =>
c_IIIITL h a1.block (a1.off + Int.toNat v7 * 6) fun n2 n3 n4 n5 s6 l7 =>
nw1 h 137 [(vI 0), (vI 0), (vI 0), (vI 0), (vT ⟨#[]⟩), (vL none 0)] fun h8 =>
(wr base h8 (List.length h) 0 [(vI n2), (vI n3), (vI n4), (vI n5), (vT s6), (vL l7.1 l7.2)]).bind fun h9 =>
(((cell h9 (List.length h) 0).bind (getI .i64)).bind fun n11 =>
(run (Et base) 72 [(vI n11), (vI (1 : Int)), (vI (3 : Int))] h9).bind fun r12 =>
((some r12.1).bind getB).bind fun b13 =>
(if (!b13) = true then
some (.inl ([some (vL v0 v0n), some (vL v5 v5n), some (vI v6), some (vI v7), some (.bool true)], r12.2))
else
((cell r12.2 (List.length h) 1).bind (getI .i64)).bind fun n14 =>
(run (Et base) 72 [(vI n14), (vI (1 : Int)), (vI (99999 : Int))] r12.2).bind fun r15 =>
((some r15.1).bind getB).bind fun b16 =>
(if (!b16) = true then
some (.inl ([some (vL v0 v0n), some (vL v5 v5n), some (vI v6), some (vI v7), some (.bool true)], r15.2))
else
c_IITL r15.2 (List.length h) 2 fun n17 n18 s19 l20 =>
(run (Et base) 44 [(.agg #[(vI n17), (vI n18), (vT s19), (vL l20.1 l20.2)])] r15.2).bind fun r21 =>
((some r21.1).bind getB).bind fun b22 =>
some (.inl ([some (vL v0 v0n), some (vL v5 v5n), some (vI v6), some (vI v7), some (.bool (!b22))], r21.2))))).bind fun j10 => joinK j10 fun j10 =>
j_LLIIB j10.1 fun l23 l24 n25 n26 b27 =>
(if b27 = true then
some (1, [some (.bool false)], j10.2)
else
some (0, [some (vL l23.1 l23.2), some (vL l24.1 l24.2), some (vI n25), some (vI (IntKind.wrap .i64 (n26 + (1 : Int))))], j10.2))
else none)
else
some (2, [some (vL v0 v0n)], h)) : Option (Nat × Slots × AH)) := by kernel_rfl
theorem r73 {base : Nat} {v0 : Option Addr} {v0n : Nat} {h : AH} {r : Value × AH} (hx : ((loopL (B73_0 base) [some (.slice v0 v0n v0n), some (.slice v0 v0n v0n), some (.int .i64 ((v0n : Nat) : Int)), some (.int .i64 (0 : Int))] h).bind fun q1 =>
(if q1.1 = 1 then
((sget q1.2.1 0).bind getB).bind fun b2 =>
some ((.bool b2), q1.2.2)
else
(if q1.1 = 2 then
((sget q1.2.1 0).bind getS).bind fun l3 =>
some ((.bool (decide (((l3.2 : Nat) : Int) ≤ (500 : Int)))), q1.2.2)
else
none))) = some r) : run (Et base) 73 [(vL v0 v0n)] h = some r := run_i (an := a73) Tryz.func73 (by kernel_rfl) (.trans (by kernel_rfl) hx)
noncomputable def B81_0 (base : Nat) : Body := fun l h => lay s81_0 l fun s => exCode (Et base) (run (Et base)) loopL a81_0 (subC [1, 1, 0, 1, 0, 0] (bodyC Tryz.f81)) s h (keepK s81_0 e81_0)
theorem B81_0_eq (base : Nat) (v3 : Option Addr) (v3n : Nat) (v6 : Option Addr) (v6n : Nat) (v7 : Int) (v8 : Int) (h : AH) : B81_0 base [some (vL v3 v3n), some (vL v6 v6n), some (vI v7), some (vI v8)] h =
((if (decide (v8 < v7)) = true then
(if 0 ≤ v8 ∧ v8 < ((v6n : Nat) : Int) then
((v6 : Option Addr)).bind fun a1 =>
c_IIIITL h a1.block (a1.off + Int.toNat v8 * 6) fun n2 n3 n4 n5 s6 l7 =>
nw1 h 137 [(vI 0), (vI 0), (vI 0), (vI 0), (vT ⟨#[]⟩), (vL none 0)] fun h8 =>
(wr base h8 (List.length h) 0 [(vI n2), (vI n3), (vI n4), (vI n5), (vT s6), (vL l7.1 l7.2)]).bind fun h9 =>
c_IITL h9 (List.length h) 2 fun n10 n11 s12 l13 =>
(run (Et base) 147 [(.agg #[(vI n10), (vI n11), (vT s12), (vL l13.1 l13.2)])] h9).bind fun r14 =>
gG (some r14.1) 4 fun l15 =>
l_IITL l15 fun n16 n17 s18 l19 =>
(wr base r14.2 (List.length h) 2 [(vI n16), (vI n17), (vT s18), (vL l19.1 l19.2)]).bind fun h20 =>
c_IIIITL h20 (List.length h) 0 fun n21 n22 n23 n24 s25 l26 =>
nw1 h20 137 [(vI n21), (vI n22), (vI n23), (vI n24), (vT s25), (vL l26.1 l26.2)] fun h27 =>
(app base h27 137 6 72 v3 v3n (rawAt h27 (some ⟨(List.length h20), 0, none⟩) (1 * 6)) 1).bind fun p28 =>
((some p28.1).bind getS).bind fun l29 =>
some (0, [some (vL l29.1 l29.2), some (vL v6 v6n), some (vI v7), some (vI (IntKind.wrap .i64 (v8 + (1 : Int))))], p28.2)
else none)
else
some (2, [some (vL v3 v3n)], h)) : Option (Nat × Slots × AH)) := by kernel_rfl
theorem r81 {base : Nat} {v0 : Option Addr} {v0n : Nat} {h : AH} {r : Value × AH} (hx : ((loopL (B81_0 base) [some (.slice none 0 0), some (.slice v0 v0n v0n), some (.int .i64 ((v0n : Nat) : Int)), some (.int .i64 (0 : Int))] h).bind fun q1 =>
(if q1.1 = 2 then
((sget q1.2.1 0).bind getS).bind fun l2 =>
some ((.slice l2.1 l2.2 l2.2), q1.2.2)
else
none)) = some r) : run (Et base) 81 [(vL v0 v0n)] h = some r := run_i (an := a81) Tryz.func81 (by kernel_rfl) (.trans (by kernel_rfl) hx)
theorem r96 {base : Nat} {v0_0 : Int} {v0_1 : Int} {v0_2 : Int} {v0_3 : Int} {v0_4 : Int} {v0_5 : ByteArray} {v1 : Int} {h : AH} {r : Value × AH} (hx : ((some (h ++ [some ⟨[(.int .i64 v0_0), (.int .i64 v0_1), (.int .i64 v0_2), (.int .i64 v0_3), (.int .i64 v0_4), (.string v0_5)], 128⟩])).bind fun h1 =>
((cell h1 (List.length h) 5).bind getStr).bind fun s2 =>
(if (decide ((IntKind.wrap .i64 (v1 - (s2.size : Int))) < (0 : Int))) = true then
some ((.int .i64 (-1 : Int)), h1)
else
some ((.int .i64 (IntKind.wrap .i64 (v1 - (s2.size : Int)))), h1))) = some r) : run (Et base) 96 [(.agg #[(vI v0_0), (vI v0_1), (vI v0_2), (vI v0_3), (vI v0_4), (vT v0_5)]), (vI v1)] h = some r := run_i (an := a96) Tryz.func96 (by kernel_rfl) (.trans (by kernel_rfl) hx)
theorem r97 {base : Nat} {v0_0 : Int} {v0_1 : Int} {v0_2 : Option Addr} {v0_2n : Nat} {v0_3 : Option Addr} {v0_3n : Nat} {v0_4 : Option Addr} {v0_4n : Nat} {v1 : Int} {h : AH} {r : Value × AH} (hx : ((some (h ++ [some ⟨[(.int .i64 v0_0), (.int .i64 v0_1), (.slice v0_2 v0_2n v0_2n), (.slice v0_3 v0_3n v0_3n), (.slice v0_4 v0_4n v0_4n)], 131⟩])).bind fun h1 =>
((cell h1 (List.length h) 2).bind getS).bind fun l2 =>
(run (Et base) 32 [(.slice l2.1 l2.2 l2.2), (.int .i64 v1)] h1).bind fun r3 =>
((some r3.1).bind (getI .i64)).bind fun n4 =>
(if (decide (n4 < (0 : Int))) = true then
some ((.int .i64 (-1 : Int)), r3.2)
else
((cell r3.2 (List.length h) 3).bind getS).bind fun l5 =>
(run (Et base) 32 [(.slice l5.1 l5.2 l5.2), (.int .i64 n4)] r3.2).bind fun r6 =>
((some r6.1).bind (getI .i64)).bind fun n7 =>
(if (decide (n7 < (0 : Int))) = true then
some ((.int .i64 (-1 : Int)), r6.2)
else
((cell r6.2 (List.length h) 4).bind getS).bind fun l8 =>
(run (Et base) 125 [(.slice l8.1 l8.2 l8.2), (.int .i64 n7)] r6.2).bind fun r9 =>
((some r9.1).bind (getI .i64)).bind fun n10 =>
(if (decide (n10 < (0 : Int))) = true then
some ((.int .i64 (-1 : Int)), r9.2)
else
some ((.int .i64 n10), r9.2))))) = some r) : run (Et base) 97 [(.agg #[(vI v0_0), (vI v0_1), (vL v0_2 v0_2n), (vL v0_3 v0_3n), (vL v0_4 v0_4n)]), (vI v1)] h = some r := run_i (an := a97) Tryz.func97 (by kernel_rfl) (.trans (by kernel_rfl) hx)
theorem r98 {base : Nat} {v0_0 : Int} {v0_1 : Int} {v0_2 : Int} {v0_3 : Int} {v0_4 : ByteArray} {v0_5 : Option Addr} {v0_5n : Nat} {v1 : Int} {h : AH} {r : Value × AH} (hx : ((some (h ++ [some ⟨[(.int .i64 v0_0), (.int .i64 v0_1), (.int .i64 v0_2), (.int .i64 v0_3), (.string v0_4), (.slice v0_5 v0_5n v0_5n)], 134⟩])).bind fun h1 =>
((cell h1 (List.length h) 2).bind (getI .i64)).bind fun n2 =>
((cell h1 (List.length h) 3).bind (getI .i64)).bind fun n3 =>
((cell h1 (List.length h) 4).bind getStr).bind fun s4 =>
((cell h1 (List.length h) 5).bind getS).bind fun l5 =>
(run (Et base) 8 [(.agg #[(.int .i64 n2), (.int .i64 n3), (.string s4), (.slice l5.1 l5.2 l5.2)]), (.int .i64 v1)] h1).bind fun r6 =>
((some r6.1).bind (getI .i64)).bind fun n7 =>
(if (decide (n7 < (0 : Int))) = true then
some ((.int .i64 (-1 : Int)), r6.2)
else
some ((.int .i64 n7), r6.2))) = some r) : run (Et base) 98 [(.agg #[(vI v0_0), (vI v0_1), (vI v0_2), (vI v0_3), (vT v0_4), (vL v0_5 v0_5n)]), (vI v1)] h = some r := run_i (an := a98) Tryz.func98 (by kernel_rfl) (.trans (by kernel_rfl) hx)
theorem r99 {base : Nat} {v0_0 : Int} {v0_1 : Int} {v0_2 : Option Addr} {v0_2n : Nat} {v0_3 : Option Addr} {v0_3n : Nat} {v0_4 : Option Addr} {v0_4n : Nat} {h : AH} {r : Value × AH} (hx : (nw1 h 118 [(vI v0_0), (vI v0_1), (vL v0_2 v0_2n), (vL v0_3 v0_3n), (vL v0_4 v0_4n)] fun h1 =>
nw1 h1 118 [(vI 0), (vI 0), (vL none 0), (vL none 0), (vL none 0)] fun h2 =>
c_IIL h2 (List.length h) 0 fun n3 n4 l5 =>
(run (Et base) 156 [(vL l5.1 l5.2)] h2).bind fun r6 =>
((some r6.1).bind getS).bind fun l7 =>
(gate (sameA h2 r6.2 (some ⟨(List.length h), 1, none⟩) 1)
((gate (sameA h2 r6.2 (some ⟨(List.length h), 0, none⟩) 1)
((gate (sameA h2 r6.2 (some ⟨(List.length h), 3, none⟩) 1)
(((cell r6.2 (List.length h) 3).bind getS).bind fun l8 =>
(run (Et base) 156 [(vL l8.1 l8.2)] r6.2).bind fun r9 =>
((some r9.1).bind getS).bind fun l10 =>
(gate (sameA r6.2 r9.2 (some ⟨(List.length h), 1, none⟩) 1)
((gate (sameA r6.2 r9.2 (some ⟨(List.length h), 0, none⟩) 1)
((gate (neA (some ⟨(List.length h), 3, none⟩) (List.length r9.2))
((gate (neA (some ⟨(List.length h), 2, none⟩) (List.length r9.2))
((gate (neA (some ⟨(List.length h), 1, none⟩) (List.length r9.2))
((gate (neA (some ⟨(List.length h), 0, none⟩) (List.length r9.2))
(nw1 r9.2 3 [] fun h11 =>
(gate (neA (some ⟨(List.length h), 4, none⟩) (List.length r9.2))
((gate (sameA r6.2 h11 (some ⟨(List.length h), 4, none⟩) 1)
((gate (sameA h2 h11 (some ⟨(List.length h), 4, none⟩) 1)
(((cell h11 (List.length h) 4).bind getS).bind fun l12 =>
(app base h11 3 1 8 (some ⟨(List.length r9.2), 0, none⟩) 0 (rawAt h11 l12.1 (l12.2 * 1)) l12.2).bind fun p13 =>
((some p13.1).bind getS).bind fun l14 =>
(gate (sameA h11 p13.2 (some ⟨(List.length h), 1, none⟩) 1)
((gate (sameA h11 p13.2 (some ⟨(List.length h), 0, none⟩) 1)
((wr base p13.2 (List.length h1) 0 [(vI n3), (vI n4), (vL l7.1 l7.2), (vL l10.1 l10.2), (vL l14.1 l14.2)]).bind fun h15 =>
c_IILLL h15 (List.length h1) 0 fun n16 n17 l18 l19 l20 =>
some ((.agg #[(vI n16), (vI n17), (vL l18.1 l18.2), (vL l19.1 l19.2), (vL l20.1 l20.2)]), h15)))))))))))))))))))))))))))))) = some r) : run (Et base) 99 [(.agg #[(vI v0_0), (vI v0_1), (vL v0_2 v0_2n), (vL v0_3 v0_3n), (vL v0_4 v0_4n)])] h = some r := run_i (an := a99) Tryz.func99 (by kernel_rfl) (.trans (by kernel_rfl) hx)
noncomputable def B100_0 (base : Nat) : Body := fun l h => lay s100_0 l fun s => exCode (Et base) (run (Et base)) loopL a100_0 (subC [1, 1, 1, 0, 1, 0, 0] (bodyC Tryz.f100)) s h (keepK s100_0 e100_0)
theorem B100_0_eq (base : Nat) (v1 : Addr) (v2 : Addr) (v3 : Addr) (v4 : Int) (h : AH) : B100_0 base [some (vA v1), some (vA v2), some (vA v3), some (vI v4)] h =
(((cell h v1.block (v1.off + 3)).bind getS).bind fun l1 =>
(if (decide (v4 < ((l1.2 : Nat) : Int))) = true then
((cell h v3.block (v3.off + 3)).bind getS).bind fun l2 =>
((cell h v1.block (v1.off + 3)).bind getS).bind fun l3 =>
(if 0 ≤ v4 ∧ v4 < ((l3.2 : Nat) : Int) then
((l3.1 : Option Addr)).bind fun a4 =>
c_IITL h a4.block (a4.off + Int.toNat v4 * 4) fun n5 n6 s7 l8 =>
(run (Et base) 100 [(.agg #[(vI n5), (vI n6), (vT s7), (vL l8.1 l8.2)])] h).bind fun r9 =>
gG (some r9.1) 4 fun l10 =>
l_IITL l10 fun n11 n12 s13 l14 =>
(gate (sameA h r9.2 (some ⟨v3.block, (v3.off + 3), none⟩) 1)
((gate (neA (some ⟨v3.block, (v3.off + 3), none⟩) (List.length r9.2))
(nw1 r9.2 42 [(vI n11), (vI n12), (vT s13), (vL l14.1 l14.2)] fun h15 =>
(app base h15 42 4 56 l2.1 l2.2 (rawAt h15 (some ⟨(List.length r9.2), 0, none⟩) (1 * 4)) 1).bind fun p16 =>
((some p16.1).bind getS).bind fun l17 =>
(wr base p16.2 v3.block (v3.off + 3) [(vL l17.1 l17.2)]).bind fun h18 =>
some (0, [some (vA v1), some (vA v2), some (vA v3), some (vI (IntKind.wrap .i64 (v4 + (1 : Int))))], h18)))))
else none)
else
some (2, [some (vA v2), some (vA v3)], h)) : Option (Nat × Slots × AH)) := by kernel_rfl
theorem r100 {base : Nat} {v0_0 : Int} {v0_1 : Int} {v0_2 : ByteArray} {v0_3 : Option Addr} {v0_3n : Nat} {h : AH} {r : Value × AH} (hx : (nw1 h 42 [(vI v0_0), (vI v0_1), (vT v0_2), (vL v0_3 v0_3n)] fun h1 =>
nw1 h1 42 [(vI 0), (vI 0), (vT ⟨#[]⟩), (vL none 0)] fun h2 =>
c_IITL h2 (List.length h) 0 fun n3 n4 s5 l6 =>
nw1 h2 42 [(vI 0), (vI 0), (vT ⟨#[]⟩), (vL none 0)] fun h7 =>
(wr base h7 (List.length h2) 0 [(vI n3), (vI n4), (vT s5), (vL l6.1 l6.2)]).bind fun h8 =>
nw1 h8 42 [] fun h9 =>
(wr base h9 (List.length h2) 3 [(vL (some ⟨(List.length h8), 0, none⟩) 0)]).bind fun h10 =>
(loopL (B100_0 base) [some (vP (List.length h)), some (vP (List.length h1)), some (vP (List.length h2)), some (vI (0 : Int))] h10).bind fun q11 =>
(if q11.1 = 2 then
j_AA q11.2.1 fun d12 d13 =>
c_IITL q11.2.2 d13.block d13.off fun n14 n15 s16 l17 =>
(wr base q11.2.2 d12.block d12.off [(vI n14), (vI n15), (vT s16), (vL l17.1 l17.2)]).bind fun h18 =>
c_IITL h18 d12.block d12.off fun n19 n20 s21 l22 =>
some ((.agg #[(vI n19), (vI n20), (vT s21), (vL l22.1 l22.2)]), h18)
else
none)) = some r) : run (Et base) 100 [(.agg #[(vI v0_0), (vI v0_1), (vT v0_2), (vL v0_3 v0_3n)])] h = some r := run_i (an := a100) Tryz.func100 (by kernel_rfl) (.trans (by kernel_rfl) hx)
theorem r101 {base : Nat} {v0 : Option Addr} {v0n : Nat} {v1_0 : Int} {v1_1 : Int} {v1_2 : Option Addr} {v1_2n : Nat} {v1_3 : Option Addr} {v1_3n : Nat} {v1_4 : Option Addr} {v1_4n : Nat} {h : AH} {r : Value × AH} (hx : (nw1 h 118 [(vI v1_0), (vI v1_1), (vL v1_2 v1_2n), (vL v1_3 v1_3n), (vL v1_4 v1_4n)] fun h1 =>
((run (Et base) 61 [(vL v0 v0n)] h1).bind fun r3 =>
((some r3.1).bind getB).bind fun b4 =>
(if (!b4) = true then
some (.inl ([some (vP (List.length h)), some (.bool true)], r3.2))
else
((cell r3.2 (List.length h) 0).bind (getI .i64)).bind fun n5 =>
(run (Et base) 62 [(vI n5), (vI (1 : Int)), (vI (99999 : Int))] r3.2).bind fun r6 =>
((some r6.1).bind getB).bind fun b7 =>
(if (!b7) = true then
some (.inl ([some (vP (List.length h)), some (.bool true)], r6.2))
else
((cell r6.2 (List.length h) 1).bind (getI .i64)).bind fun n8 =>
(run (Et base) 62 [(vI n8), (vI (0 : Int)), (vI (IntKind.wrap .i64 (((v0n : Nat) : Int) - (1 : Int))))] r6.2).bind fun r9 =>
((some r9.1).bind getB).bind fun b10 =>
(if (!b10) = true then
some (.inl ([some (vP (List.length h)), some (.bool true)], r9.2))
else
((cell r9.2 (List.length h) 2).bind getS).bind fun l11 =>
(if (((l11.2 : Nat) : Int) != (8 : Int)) = true then
some (.inl ([some (vP (List.length h)), some (.bool true)], r9.2))
else
((cell r9.2 (List.length h) 3).bind getS).bind fun l12 =>
some (.inl ([some (vP (List.length h)), some (.bool (decide (((l12.2 : Nat) : Int) > (30 : Int))))], r9.2))))))).bind fun j2 => joinK j2 fun j2 =>
j_AB j2.1 fun d13 b14 =>
(if b14 = true then
some ((.bool false), j2.2)
else
((cell j2.2 d13.block (d13.off + 2)).bind getS).bind fun l15 =>
(run (Et base) 157 [(vL l15.1 l15.2)] j2.2).bind fun r16 =>
((some r16.1).bind getB).bind fun b17 =>
(if b17 = true then
((cell r16.2 d13.block (d13.off + 3)).bind getS).bind fun l18 =>
(run (Et base) 157 [(vL l18.1 l18.2)] r16.2).bind fun r19 =>
((some r19.1).bind getB).bind fun b20 =>
(if b20 = true then
((cell r19.2 d13.block (d13.off + 4)).bind getS).bind fun l21 =>
((cell r19.2 d13.block (d13.off + 0)).bind (getI .i64)).bind fun n22 =>
(run (Et base) 158 [(vL l21.1 l21.2), (vI n22)] r19.2).bind fun r23 =>
((some r23.1).bind getB).bind fun b24 =>
some ((.bool b24), r23.2)
else
some ((.bool false), r19.2))
else
some ((.bool false), r16.2)))) = some r) : run (Et base) 101 [(vL v0 v0n), (.agg #[(vI v1_0), (vI v1_1), (vL v1_2 v1_2n), (vL v1_3 v1_3n), (vL v1_4 v1_4n)])] h = some r := run_i (an := a101) Tryz.func101 (by kernel_rfl) (.trans (by kernel_rfl) hx)
noncomputable def B102_0 (base : Nat) : Body := fun l h => lay s102_0 l fun s => exCode (Et base) (run (Et base)) loopL a102_0 (subC [1, 1, 0, 1, 0, 0] (bodyC Tryz.f102)) s h (keepK s102_0 e102_0)
theorem B102_0_eq (base : Nat) (v2 : Addr) (v5 : Addr) (v6 : Int) (h : AH) : B102_0 base [some (vA v2), some (vA v5), some (vI v6)] h =
(((cell h v5.block (v5.off + 4)).bind getS).bind fun l1 =>
(if (decide (v6 < ((l1.2 : Nat) : Int))) = true then
c_LLIL h v2.block v2.off fun l2 l3 n4 l5 =>
((cell h v5.block (v5.off + 4)).bind getS).bind fun l6 =>
(if 0 ≤ v6 ∧ v6 < ((l6.2 : Nat) : Int) then
((l6.1 : Option Addr)).bind fun a7 =>
((cell h a7.block (a7.off + Int.toNat v6 * 1)).bind (getI .i64)).bind fun n8 =>
(run (Et base) 36 [(.agg #[(vL l2.1 l2.2), (vL l3.1 l3.2), (vI n4), (vL l5.1 l5.2)]), (vI n8)] h).bind fun r9 =>
((some r9.1).bind (getI .i64)).bind fun n10 =>
((if (decide (n10 ≥ (0 : Int))) = true then
((cell r9.2 v2.block (v2.off + 1)).bind getS).bind fun l12 =>
(if 0 ≤ n10 ∧ n10 < ((l12.2 : Nat) : Int) then
((l12.1 : Option Addr)).bind fun a13 =>
((cell r9.2 a13.block ((a13.off + Int.toNat n10 * 5) + 4)).bind getS).bind fun l14 =>
((cell r9.2 v5.block (v5.off + 0)).bind (getI .i64)).bind fun n15 =>
(run (Et base) 134 [(vL l14.1 l14.2), (vI n15)] r9.2).bind fun r16 =>
((some r16.1).bind getB).bind fun b17 =>
some (.inl ([some (vA v2), some (vA v5), some (vI v6), some (.bool (!b17))], r16.2))
else none)
else
some (.inl ([some (vA v2), some (vA v5), some (vI v6), some (.bool false)], r9.2)))).bind fun j11 => joinK j11 fun j11 =>
j_AAIB j11.1 fun d18 d19 n20 b21 =>
(if b21 = true then
some (1, [some (.bool false)], j11.2)
else
some (0, [some (vA d18), some (vA d19), some (vI (IntKind.wrap .i64 (n20 + (1 : Int))))], j11.2))
else none)
else
some (2, [], h)) : Option (Nat × Slots × AH)) := by kernel_rfl
theorem r102 {base : Nat} {v0_0 : Option Addr} {v0_0n : Nat} {v0_1 : Option Addr} {v0_1n : Nat} {v0_2 : Int} {v0_3 : Option Addr} {v0_3n : Nat} {v1 : Int} {h : AH} {r : Value × AH} (hx : ((some (h ++ [some ⟨[(.slice v0_0 v0_0n v0_0n), (.slice v0_1 v0_1n v0_1n), (.int .i64 v0_2), (.slice v0_3 v0_3n v0_3n)], 36⟩])).bind fun h1 =>
((cell h1 (List.length h) 1).bind getS).bind fun l2 =>
(if 0 ≤ v1 ∧ v1 < ((l2.2 : Nat) : Int) then
((l2.1 : Option Addr)).bind fun a3 =>
((cell h1 a3.block (a3.off + Int.toNat v1 * 5)).bind (getI .i64)).bind fun n4 =>
((cell h1 a3.block ((a3.off + Int.toNat v1 * 5) + 1)).bind (getI .i64)).bind fun n5 =>
((cell h1 a3.block (((a3.off + Int.toNat v1 * 5) + 1) + 1)).bind getS).bind fun l6 =>
((cell h1 a3.block ((((a3.off + Int.toNat v1 * 5) + 1) + 1) + 1)).bind getS).bind fun l7 =>
((cell h1 a3.block (((((a3.off + Int.toNat v1 * 5) + 1) + 1) + 1) + 1)).bind getS).bind fun l8 =>
(some (h1 ++ [some ⟨[(.int .i64 0), (.int .i64 0), (.slice none 0 0), (.slice none 0 0), (.slice none 0 0)], 118⟩])).bind fun h9 =>
(wr base h9 (List.length h1) 0 [(.int .i64 n4), (.int .i64 n5), (.slice l6.1 l6.2 l6.2), (.slice l7.1 l7.2 l7.2), (.slice l8.1 l8.2 l8.2)]).bind fun h10 =>
(loopL (B102_0 base) [some (.pointer (some ⟨(List.length h), 0, none⟩)), some (.pointer (some ⟨(List.length h1), 0, none⟩)), some (.int .i64 (0 : Int))] h10).bind fun q11 =>
(if q11.1 = 1 then
((sget q11.2.1 0).bind getB).bind fun b12 =>
some ((.bool b12), q11.2.2)
else
(if q11.1 = 2 then
some ((.bool true), q11.2.2)
else
none))
else none)) = some r) : run (Et base) 102 [(.agg #[(vL v0_0 v0_0n), (vL v0_1 v0_1n), (vI v0_2), (vL v0_3 v0_3n)]), (vI v1)] h = some r := run_i (an := a102) Tryz.func102 (by kernel_rfl) (.trans (by kernel_rfl) hx)
noncomputable def B103_0 (base : Nat) : Body := fun l h => lay s103_0 l fun s => exCode (Et base) (run (Et base)) loopL a103_0 (subC [1, 1, 1, 0, 1, 0, 0] (bodyC Tryz.f103)) s h (keepK s103_0 e103_0)
theorem B103_0_eq (base : Nat) (v1 : Int) (v2 : Int) (v3 : Addr) (v7 : Int) (h : AH) : B103_0 base [some (vI v1), some (vI v2), some (vA v3), some (vI v7)] h =
((((cell h v3.block (v3.off + 3)).bind getS).bind fun l2 =>
(if (decide (v7 < ((l2.2 : Nat) : Int))) = true then
some (.inl ([some (vI v1), some (vI v2), some (vA v3), some (vI v7), some (.bool (decide (v2 ≥ (0 : Int))))], h))
else
some (.inl ([some (vI v1), some (vI v2), some (vA v3), some (vI v7), some (.bool false)], h)))).bind fun j1 => joinK j1 fun j1 =>
j_IIAIB j1.1 fun n3 n4 d5 n6 b7 =>
(if b7 = true then
((cell j1.2 d5.block (d5.off + 3)).bind getS).bind fun l8 =>
(if 0 ≤ n6 ∧ n6 < ((l8.2 : Nat) : Int) then
((l8.1 : Option Addr)).bind fun a9 =>
c_IITL j1.2 a9.block (a9.off + Int.toNat n6 * 4) fun n10 n11 s12 l13 =>
(run (Et base) 103 [(.agg #[(vI n10), (vI n11), (vT s12), (vL l13.1 l13.2)]), (vI (IntKind.wrap .i64 (n3 - (1 : Int)))), (vI n4)] j1.2).bind fun r14 =>
((some r14.1).bind (getI .i64)).bind fun n15 =>
some (0, [some (vI n3), some (vI n15), some (vA d5), some (vI (IntKind.wrap .i64 (n6 + (1 : Int))))], r14.2)
else none)
else
some (2, [some (vI n4)], j1.2)) : Option (Nat × Slots × AH)) := by kernel_rfl
theorem r103 {base : Nat} {v0_0 : Int} {v0_1 : Int} {v0_2 : ByteArray} {v0_3 : Option Addr} {v0_3n : Nat} {v1 : Int} {v2 : Int} {h : AH} {r : Value × AH} (hx : (nw1 h 42 [(vI v0_0), (vI v0_1), (vT v0_2), (vL v0_3 v0_3n)] fun h1 =>
((if (decide (v1 < (1 : Int))) = true then
some (.inl ([some (vI v1), some (vI v2), some (vP (List.length h)), some (.bool true)], h1))
else
(if (decide (v2 < (1 : Int))) = true then
some (.inl ([some (vI v1), some (vI v2), some (vP (List.length h)), some (.bool true)], h1))
else
c_IITL h1 (List.length h) 0 fun n3 n4 s5 l6 =>
(run (Et base) 159 [(.agg #[(vI n3), (vI n4), (vT s5), (vL l6.1 l6.2)])] h1).bind fun r7 =>
((some r7.1).bind getB).bind fun b8 =>
some (.inl ([some (vI v1), some (vI v2), some (vP (List.length h)), some (.bool (!b8))], r7.2))))).bind fun j2 => joinK j2 fun j2 =>
j_IIAB j2.1 fun n9 n10 d11 b12 =>
(if b12 = true then
some ((vI (-1 : Int)), j2.2)
else
(loopL (B103_0 base) [some (vI n9), some (vI (IntKind.wrap .i64 (n10 - (1 : Int)))), some (vA d11), some (vI (0 : Int))] j2.2).bind fun q13 =>
(if q13.1 = 2 then
((sget q13.2.1 0).bind (getI .i64)).bind fun n14 =>
some ((vI n14), q13.2.2)
else
none))) = some r) : run (Et base) 103 [(.agg #[(vI v0_0), (vI v0_1), (vT v0_2), (vL v0_3 v0_3n)]), (vI v1), (vI v2)] h = some r := run_i (an := a103) Tryz.func103 (by kernel_rfl) (.trans (by kernel_rfl) hx)
noncomputable def B104_0 (base : Nat) : Body := fun l h => lay s104_0 l fun s => exCode (Et base) (run (Et base)) loopL a104_0 (subC [1, 1, 0, 1, 0, 0] (bodyC Tryz.f104)) s h (keepK s104_0 e104_0)
theorem B104_0_eq (base : Nat) (v0 : Option Addr) (v0n : Nat) (v1 : Int) (v5 : Option Addr) (v5n : Nat) (v6 : Int) (h : AH) : B104_0 base [some (vL v0 v0n), some (vI v1), some (vL v5 v5n), some (vI v6)] h =
((if (decide (v6 < ((v0n : Nat) : Int))) = true then
((if 0 ≤ v6 ∧ v6 < ((v0n : Nat) : Int) then
((v0 : Option Addr)).bind fun a2 =>
((cell h a2.block (a2.off + Int.toNat v6 * 1)).bind (getI .i64)).bind fun n3 =>
(if (n3 != v1) = true then
(if 0 ≤ v6 ∧ v6 < ((v0n : Nat) : Int) then
((v0 : Option Addr)).bind fun a4 =>
((cell h a4.block (a4.off + Int.toNat v6 * 1)).bind (getI .i64)).bind fun n5 =>
(some (h ++ [some ⟨[(.int .i64 n5)], 3⟩])).bind fun h6 =>
(app base h6 3 1 8 v5 v5n (rawAt h6 (some ⟨(List.length h), 0, none⟩) (1 * 1)) 1).bind fun p7 =>
((some p7.1).bind getS).bind fun l8 =>
some (.inl ([some (.slice v0 v0n v0n), some (.int .i64 v1), some (.slice l8.1 l8.2 l8.2), some (.int .i64 v6)], p7.2))
else none)
else
some (.inl ([some (.slice v0 v0n v0n), some (.int .i64 v1), some (.slice v5 v5n v5n), some (.int .i64 v6)], h)))
else none)).bind fun j1 => joinK j1 fun j1 =>
((sget j1.1 0).bind getS).bind fun l9 =>
((sget (j1.1.tail) 0).bind (getI .i64)).bind fun n10 =>
((sget (j1.1.tail.tail) 0).bind getS).bind fun l11 =>
((sget (j1.1.tail.tail.tail) 0).bind (getI .i64)).bind fun n12 =>
some (0, [some (.slice l9.1 l9.2 l9.2), some (.int .i64 n10), some (.slice l11.1 l11.2 l11.2), some (.int .i64 (IntKind.wrap .i64 (n12 + (1 : Int))))], j1.2)
else
some (2, [some (.slice v5 v5n v5n)], h)) : Option (Nat × Slots × AH)) := by kernel_rfl
theorem r104 {base : Nat} {v0 : Option Addr} {v0n : Nat} {v1 : Int} {h : AH} {r : Value × AH} (hx : ((some (h ++ [some ⟨[], 3⟩])).bind fun h1 =>
(loopL (B104_0 base) [some (.slice v0 v0n v0n), some (.int .i64 v1), some (.slice (some ⟨(List.length h), 0, none⟩) 0 0), some (.int .i64 (0 : Int))] h1).bind fun q2 =>
(if q2.1 = 2 then
((sget q2.2.1 0).bind getS).bind fun l3 =>
some ((.slice l3.1 l3.2 l3.2), q2.2.2)
else
none)) = some r) : run (Et base) 104 [(vL v0 v0n), (vI v1)] h = some r := run_i (an := a104) Tryz.func104 (by kernel_rfl) (.trans (by kernel_rfl) hx)
theorem r105 {base : Nat} {v0 : Option Addr} {v0n : Nat} {v1 : Int} {v2 : Int} {v3_0 : Int} {v3_1 : Int} {v3_2 : ByteArray} {v3_3 : Option Addr} {v3_3n : Nat} {h : AH} {r : Value × AH} (hx : ((some (h ++ [some ⟨[(.int .i64 v3_0), (.int .i64 v3_1), (.string v3_2), (.slice v3_3 v3_3n v3_3n)], 42⟩])).bind fun h1 =>
(if (decide (((v0n : Nat) : Int) ≥ (500 : Int))) = true then
some ((.slice v0 v0n v0n), h1)
else
((cell h1 (List.length h) 0).bind (getI .i64)).bind fun n2 =>
((cell h1 (List.length h) 1).bind (getI .i64)).bind fun n3 =>
((cell h1 (List.length h) 2).bind getStr).bind fun s4 =>
((cell h1 (List.length h) 3).bind getS).bind fun l5 =>
(run (Et base) 100 [(.agg #[(.int .i64 n2), (.int .i64 n3), (.string s4), (.slice l5.1 l5.2 l5.2)])] h1).bind fun r6 =>
((some r6.1).bind (getAgg 4)).bind fun l7 =>
((l7[0]?).bind (getI .i64)).bind fun n8 =>
((l7[1]?).bind (getI .i64)).bind fun n9 =>
((l7[2]?).bind getStr).bind fun s10 =>
((l7[3]?).bind getS).bind fun l11 =>
(some (r6.2 ++ [some ⟨[(.int .i64 v1), (.int .i64 v2), (.int .i64 n8), (.int .i64 n9), (.string s10), (.slice l11.1 l11.2 l11.2)], 137⟩])).bind fun h12 =>
(app base h12 137 6 72 v0 v0n (rawAt h12 (some ⟨(List.length r6.2), 0, none⟩) (1 * 6)) 1).bind fun p13 =>
((some p13.1).bind getS).bind fun l14 =>
some ((.slice l14.1 l14.2 l14.2), p13.2))) = some r) : run (Et base) 105 [(vL v0 v0n), (vI v1), (vI v2), (.agg #[(vI v3_0), (vI v3_1), (vT v3_2), (vL v3_3 v3_3n)])] h = some r := run_i (an := a105) Tryz.func105 (by kernel_rfl) (.trans (by kernel_rfl) hx)
noncomputable def B106_0 (base : Nat) : Body := fun l h => lay s106_0 l fun s => exCode (Et base) (run (Et base)) loopL a106_0 (subC [1, 1, 0, 1, 0, 0] (bodyC Tryz.f106)) s h (keepK s106_0 e106_0)
theorem B106_0_eq (base : Nat) (v2 : Addr) (v3 : Addr) (v5 : Int) (h : AH) : B106_0 base [some (vA v2), some (vA v3), some (vI v5)] h =
(((cell h v2.block (v2.off + 3)).bind getS).bind fun l1 =>
(if (decide (v5 < ((l1.2 : Nat) : Int))) = true then
((cell h v2.block (v2.off + 3)).bind getS).bind fun l2 =>
(if 0 ≤ v5 ∧ v5 < ((l2.2 : Nat) : Int) then
((l2.1 : Option Addr)).bind fun a3 =>
c_IITL h a3.block (a3.off + Int.toNat v5 * 4) fun n4 n5 s6 l7 =>
((cell h v3.block (v3.off + 3)).bind getS).bind fun l8 =>
(if 0 ≤ v5 ∧ v5 < ((l8.2 : Nat) : Int) then
((l8.1 : Option Addr)).bind fun a9 =>
c_IITL h a9.block (a9.off + Int.toNat v5 * 4) fun n10 n11 s12 l13 =>
(run (Et base) 106 [(.agg #[(vI n4), (vI n5), (vT s6), (vL l7.1 l7.2)]), (.agg #[(vI n10), (vI n11), (vT s12), (vL l13.1 l13.2)])] h).bind fun r14 =>
((some r14.1).bind getB).bind fun b15 =>
(if (!b15) = true then
some (1, [some (.bool false)], r14.2)
else
some (0, [some (vA v2), some (vA v3), some (vI (IntKind.wrap .i64 (v5 + (1 : Int))))], r14.2))
else none)
else none)
else
some (2, [], h)) : Option (Nat × Slots × AH)) := by kernel_rfl
theorem r106 {base : Nat} {v0_0 : Int} {v0_1 : Int} {v0_2 : ByteArray} {v0_3 : Option Addr} {v0_3n : Nat} {v1_0 : Int} {v1_1 : Int} {v1_2 : ByteArray} {v1_3 : Option Addr} {v1_3n : Nat} {h : AH} {r : Value × AH} (hx : (nw1 h 42 [(vI v0_0), (vI v0_1), (vT v0_2), (vL v0_3 v0_3n)] fun h1 =>
nw1 h1 42 [(vI v1_0), (vI v1_1), (vT v1_2), (vL v1_3 v1_3n)] fun h2 =>
(((cell h2 (List.length h) 0).bind (getI .i64)).bind fun n4 =>
((cell h2 (List.length h1) 0).bind (getI .i64)).bind fun n5 =>
(if (n4 != n5) = true then
some (.inl ([some (vP (List.length h)), some (vP (List.length h1)), some (.bool true)], h2))
else
((cell h2 (List.length h) 1).bind (getI .i64)).bind fun n6 =>
((cell h2 (List.length h1) 1).bind (getI .i64)).bind fun n7 =>
(if (n6 != n7) = true then
some (.inl ([some (vP (List.length h)), some (vP (List.length h1)), some (.bool true)], h2))
else
((cell h2 (List.length h) 2).bind getStr).bind fun s8 =>
((cell h2 (List.length h1) 2).bind getStr).bind fun s9 =>
(if (!(s8.toList == s9.toList)) = true then
some (.inl ([some (vP (List.length h)), some (vP (List.length h1)), some (.bool true)], h2))
else
((cell h2 (List.length h) 3).bind getS).bind fun l10 =>
((cell h2 (List.length h1) 3).bind getS).bind fun l11 =>
some (.inl ([some (vP (List.length h)), some (vP (List.length h1)), some (.bool (((l10.2 : Nat) : Int) != ((l11.2 : Nat) : Int)))], h2)))))).bind fun j3 => joinK j3 fun j3 =>
j_AAB j3.1 fun d12 d13 b14 =>
(if b14 = true then
some ((.bool false), j3.2)
else
(loopL (B106_0 base) [some (vA d12), some (vA d13), some (vI (0 : Int))] j3.2).bind fun q15 =>
(if q15.1 = 1 then
((sget q15.2.1 0).bind getB).bind fun b16 =>
some ((.bool b16), q15.2.2)
else
(if q15.1 = 2 then
some ((.bool true), q15.2.2)
else
none)))) = some r) : run (Et base) 106 [(.agg #[(vI v0_0), (vI v0_1), (vT v0_2), (vL v0_3 v0_3n)]), (.agg #[(vI v1_0), (vI v1_1), (vT v1_2), (vL v1_3 v1_3n)])] h = some r := run_i (an := a106) Tryz.func106 (by kernel_rfl) (.trans (by kernel_rfl) hx)
theorem r107 {base : Nat} {v0 : ByteArray} {h : AH} {r : Value × AH} (hx : ((some (h ++ [some ⟨[(.int .i64 0), (.int .i64 0), (.string ⟨#[]⟩), (.slice none 0 0)], 42⟩])).bind fun h1 =>
(wr base h1 (List.length h) 0 [(.int .i64 (2 : Int)), (.int .i64 (0 : Int)), (.string v0), (.slice none 0 0)]).bind fun h2 =>
((cell h2 (List.length h) 0).bind (getI .i64)).bind fun n3 =>
((cell h2 (List.length h) 1).bind (getI .i64)).bind fun n4 =>
((cell h2 (List.length h) 2).bind getStr).bind fun s5 =>
((cell h2 (List.length h) 3).bind getS).bind fun l6 =>
some ((.agg #[(.int .i64 n3), (.int .i64 n4), (.string s5), (.slice l6.1 l6.2 l6.2)]), h2)) = some r) : run (Et base) 107 [(vT v0)] h = some r := run_i (an := a107) Tryz.func107 (by kernel_rfl) (.trans (by kernel_rfl) hx)
theorem r108 {base : Nat} {v0_0 : Int} {v0_1 : Int} {v0_2 : Int} {v0_3 : Int} {v0_4 : Int} {v0_5 : ByteArray} {h : AH} {r : Value × AH} (hx : (nw1 h 128 [(vI v0_0), (vI v0_1), (vI v0_2), (vI v0_3), (vI v0_4), (vT v0_5)] fun h1 =>
nw1 h1 145 [(vI 0), (vI 0), (vI 0), (vI 0), (vI 0), (vT ⟨#[]⟩)] fun h2 =>
nw1 h2 145 [(vI 0), (vI 0), (vI 0), (vI 0), (vI 0), (vT ⟨#[]⟩)] fun h3 =>
((cell h3 (List.length h) 0).bind (getI .i64)).bind fun n4 =>
(wr base h3 (List.length h2) 0 [(vI n4)]).bind fun h5 =>
((cell h5 (List.length h) 1).bind (getI .i64)).bind fun n6 =>
(wr base h5 (List.length h2) 1 [(vI n6)]).bind fun h7 =>
((cell h7 (List.length h) 2).bind (getI .i64)).bind fun n8 =>
(wr base h7 (List.length h2) 2 [(vI n8)]).bind fun h9 =>
((cell h9 (List.length h) 3).bind (getI .i64)).bind fun n10 =>
(wr base h9 (List.length h2) 3 [(vI n10)]).bind fun h11 =>
((cell h11 (List.length h) 4).bind (getI .i64)).bind fun n12 =>
(wr base h11 (List.length h2) 4 [(vI n12)]).bind fun h13 =>
((cell h13 (List.length h) 5).bind getStr).bind fun s14 =>
(wr base h13 (List.length h2) 5 [(vT s14)]).bind fun h15 =>
c_IIIIIT h15 (List.length h2) 0 fun n16 n17 n18 n19 n20 s21 =>
(wr base h15 (List.length h1) 0 [(vI n16), (vI n17), (vI n18), (vI n19), (vI n20), (vT s21)]).bind fun h22 =>
c_IIIIIT h22 (List.length h1) 0 fun n23 n24 n25 n26 n27 s28 =>
some ((.agg #[(vI n23), (vI n24), (vI n25), (vI n26), (vI n27), (vT s28)]), h22)) = some r) : run (Et base) 108 [(.agg #[(vI v0_0), (vI v0_1), (vI v0_2), (vI v0_3), (vI v0_4), (vT v0_5)])] h = some r := run_i (an := a108) Tryz.func108 (by kernel_rfl) (.trans (by kernel_rfl) hx)
theorem r109 {base : Nat} {v0_0 : Int} {v0_1 : Int} {v0_2 : Option Addr} {v0_2n : Nat} {v0_3 : Option Addr} {v0_3n : Nat} {v0_4 : Option Addr} {v0_4n : Nat} {h : AH} {r : Value × AH} (hx : (nw1 h 131 [(vI v0_0), (vI v0_1), (vL v0_2 v0_2n), (vL v0_3 v0_3n), (vL v0_4 v0_4n)] fun h1 =>
nw1 h1 118 [(vI 0), (vI 0), (vL none 0), (vL none 0), (vL none 0)] fun h2 =>
nw1 h2 118 [(vI 0), (vI 0), (vL none 0), (vL none 0), (vL none 0)] fun h3 =>
((cell h3 (List.length h) 0).bind (getI .i64)).bind fun n4 =>
(wr base h3 (List.length h2) 0 [(vI n4)]).bind fun h5 =>
((cell h5 (List.length h) 1).bind (getI .i64)).bind fun n6 =>
(wr base h5 (List.length h2) 1 [(vI n6)]).bind fun h7 =>
((cell h7 (List.length h) 2).bind getS).bind fun l8 =>
(run (Et base) 41 [(vL l8.1 l8.2)] h7).bind fun r9 =>
((some r9.1).bind getS).bind fun l10 =>
(wr base r9.2 (List.length h2) 2 [(vL l10.1 l10.2)]).bind fun h11 =>
((cell h11 (List.length h) 3).bind getS).bind fun l12 =>
(run (Et base) 41 [(vL l12.1 l12.2)] h11).bind fun r13 =>
((some r13.1).bind getS).bind fun l14 =>
(wr base r13.2 (List.length h2) 3 [(vL l14.1 l14.2)]).bind fun h15 =>
((cell h15 (List.length h) 4).bind getS).bind fun l16 =>
(run (Et base) 135 [(vL l16.1 l16.2)] h15).bind fun r17 =>
((some r17.1).bind getS).bind fun l18 =>
(wr base r17.2 (List.length h2) 4 [(vL l18.1 l18.2)]).bind fun h19 =>
c_IILLL h19 (List.length h2) 0 fun n20 n21 l22 l23 l24 =>
(wr base h19 (List.length h1) 0 [(vI n20), (vI n21), (vL l22.1 l22.2), (vL l23.1 l23.2), (vL l24.1 l24.2)]).bind fun h25 =>
c_IILLL h25 (List.length h1) 0 fun n26 n27 l28 l29 l30 =>
some ((.agg #[(vI n26), (vI n27), (vL l28.1 l28.2), (vL l29.1 l29.2), (vL l30.1 l30.2)]), h25)) = some r) : run (Et base) 109 [(.agg #[(vI v0_0), (vI v0_1), (vL v0_2 v0_2n), (vL v0_3 v0_3n), (vL v0_4 v0_4n)])] h = some r := run_i (an := a109) Tryz.func109 (by kernel_rfl) (.trans (by kernel_rfl) hx)
theorem r110 {base : Nat} {v0_0 : Int} {v0_1 : Int} {v0_2 : Int} {v0_3 : Int} {v0_4 : ByteArray} {v0_5 : Option Addr} {v0_5n : Nat} {h : AH} {r : Value × AH} (hx : (nw1 h 134 [(vI v0_0), (vI v0_1), (vI v0_2), (vI v0_3), (vT v0_4), (vL v0_5 v0_5n)] fun h1 =>
nw1 h1 137 [(vI 0), (vI 0), (vI 0), (vI 0), (vT ⟨#[]⟩), (vL none 0)] fun h2 =>
nw1 h2 137 [(vI 0), (vI 0), (vI 0), (vI 0), (vT ⟨#[]⟩), (vL none 0)] fun h3 =>
((cell h3 (List.length h) 0).bind (getI .i64)).bind fun n4 =>
(wr base h3 (List.length h2) 0 [(vI n4)]).bind fun h5 =>
((cell h5 (List.length h) 1).bind (getI .i64)).bind fun n6 =>
(wr base h5 (List.length h2) 1 [(vI n6)]).bind fun h7 =>
c_IITL h7 (List.length h) 2 fun n8 n9 s10 l11 =>
(run (Et base) 11 [(.agg #[(vI n8), (vI n9), (vT s10), (vL l11.1 l11.2)])] h7).bind fun r12 =>
gG (some r12.1) 4 fun l13 =>
l_IITL l13 fun n14 n15 s16 l17 =>
(wr base r12.2 (List.length h2) 2 [(vI n14), (vI n15), (vT s16), (vL l17.1 l17.2)]).bind fun h18 =>
c_IIIITL h18 (List.length h2) 0 fun n19 n20 n21 n22 s23 l24 =>
(wr base h18 (List.length h1) 0 [(vI n19), (vI n20), (vI n21), (vI n22), (vT s23), (vL l24.1 l24.2)]).bind fun h25 =>
c_IIIITL h25 (List.length h1) 0 fun n26 n27 n28 n29 s30 l31 =>
some ((.agg #[(vI n26), (vI n27), (vI n28), (vI n29), (vT s30), (vL l31.1 l31.2)]), h25)) = some r) : run (Et base) 110 [(.agg #[(vI v0_0), (vI v0_1), (vI v0_2), (vI v0_3), (vT v0_4), (vL v0_5 v0_5n)])] h = some r := run_i (an := a110) Tryz.func110 (by kernel_rfl) (.trans (by kernel_rfl) hx)
theorem r111 {base : Nat} {v0_0 : Int} {v0_1 : Int} {v0_2 : Option Addr} {v0_2n : Nat} {v0_3 : Option Addr} {v0_3n : Nat} {v0_4 : Option Addr} {v0_4n : Nat} {h : AH} {r : Value × AH} (hx : (nw1 h 118 [(vI v0_0), (vI v0_1), (vL v0_2 v0_2n), (vL v0_3 v0_3n), (vL v0_4 v0_4n)] fun h1 =>
nw1 h1 118 [(vI 0), (vI 0), (vL none 0), (vL none 0), (vL none 0)] fun h2 =>
((cell h2 (List.length h) 2).bind getS).bind fun l3 =>
(run (Et base) 160 [(vL l3.1 l3.2)] h2).bind fun r4 =>
((some r4.1).bind getS).bind fun l5 =>
(gate (sameA h2 r4.2 (some ⟨(List.length h), 3, none⟩) 1)
(((cell r4.2 (List.length h) 3).bind getS).bind fun l6 =>
(run (Et base) 160 [(vL l6.1 l6.2)] r4.2).bind fun r7 =>
((some r7.1).bind getS).bind fun l8 =>
(gate (sameA r4.2 r7.2 (some ⟨(List.length h), 4, none⟩) 1)
((gate (sameA h2 r7.2 (some ⟨(List.length h), 4, none⟩) 1)
(((cell r7.2 (List.length h) 4).bind getS).bind fun l9 =>
(run (Et base) 148 [(vL l9.1 l9.2)] r7.2).bind fun r10 =>
((some r10.1).bind getS).bind fun l11 =>
(wr base r10.2 (List.length h) 2 [(vL l5.1 l5.2)]).bind fun h12 =>
(wr base h12 (List.length h) 3 [(vL l8.1 l8.2)]).bind fun h13 =>
(wr base h13 (List.length h) 4 [(vL l11.1 l11.2)]).bind fun h14 =>
c_IILLL h14 (List.length h) 0 fun n15 n16 l17 l18 l19 =>
(wr base h14 (List.length h1) 0 [(vI n15), (vI n16), (vL l17.1 l17.2), (vL l18.1 l18.2), (vL l19.1 l19.2)]).bind fun h20 =>
c_IILLL h20 (List.length h1) 0 fun n21 n22 l23 l24 l25 =>
some ((.agg #[(vI n21), (vI n22), (vL l23.1 l23.2), (vL l24.1 l24.2), (vL l25.1 l25.2)]), h20)))))))) = some r) : run (Et base) 111 [(.agg #[(vI v0_0), (vI v0_1), (vL v0_2 v0_2n), (vL v0_3 v0_3n), (vL v0_4 v0_4n)])] h = some r := run_i (an := a111) Tryz.func111 (by kernel_rfl) (.trans (by kernel_rfl) hx)
theorem r112 {base : Nat} {v0 : Option Addr} {v0n : Nat} {v1_0 : Int} {v1_1 : Int} {v1_2 : Option Addr} {v1_2n : Nat} {v1_3 : Option Addr} {v1_3n : Nat} {v1_4 : Option Addr} {v1_4n : Nat} {h : AH} {r : Value × AH} (hx : (nw1 h 118 [(vI v1_0), (vI v1_1), (vL v1_2 v1_2n), (vL v1_3 v1_3n), (vL v1_4 v1_4n)] fun h1 =>
(run (Et base) 71 [(vL v0 v0n)] h1).bind fun r2 =>
((some r2.1).bind getB).bind fun b3 =>
(if b3 = true then
((cell r2.2 (List.length h) 0).bind (getI .i64)).bind fun n4 =>
(run (Et base) 72 [(vI n4), (vI (1 : Int)), (vI (99999 : Int))] r2.2).bind fun r5 =>
((some r5.1).bind getB).bind fun b6 =>
(if b6 = true then
((cell r5.2 (List.length h) 1).bind (getI .i64)).bind fun n7 =>
(run (Et base) 72 [(vI n7), (vI (0 : Int)), (vI (IntKind.wrap .i64 (((v0n : Nat) : Int) - (1 : Int))))] r5.2).bind fun r8 =>
((some r8.1).bind getB).bind fun b9 =>
(if b9 = true then
((cell r8.2 (List.length h) 2).bind getS).bind fun l10 =>
(if (((l10.2 : Nat) : Int) == (8 : Int)) = true then
((cell r8.2 (List.length h) 2).bind getS).bind fun l11 =>
(run (Et base) 161 [(vL l11.1 l11.2)] r8.2).bind fun r12 =>
((some r12.1).bind getB).bind fun b13 =>
(if b13 = true then
((cell r12.2 (List.length h) 3).bind getS).bind fun l14 =>
(if (decide (((l14.2 : Nat) : Int) ≤ (30 : Int))) = true then
((cell r12.2 (List.length h) 3).bind getS).bind fun l15 =>
(run (Et base) 161 [(vL l15.1 l15.2)] r12.2).bind fun r16 =>
((some r16.1).bind getB).bind fun b17 =>
(if b17 = true then
((cell r16.2 (List.length h) 4).bind getS).bind fun l18 =>
((cell r16.2 (List.length h) 0).bind (getI .i64)).bind fun n19 =>
(run (Et base) 162 [(vL l18.1 l18.2), (vI n19)] r16.2).bind fun r20 =>
((some r20.1).bind getB).bind fun b21 =>
some ((.bool b21), r20.2)
else
some ((.bool false), r16.2))
else
some ((.bool false), r12.2))
else
some ((.bool false), r12.2))
else
some ((.bool false), r8.2))
else
some ((.bool false), r8.2))
else
some ((.bool false), r5.2))
else
some ((.bool false), r2.2))) = some r) : run (Et base) 112 [(vL v0 v0n), (.agg #[(vI v1_0), (vI v1_1), (vL v1_2 v1_2n), (vL v1_3 v1_3n), (vL v1_4 v1_4n)])] h = some r := run_i (an := a112) Tryz.func112 (by kernel_rfl) (.trans (by kernel_rfl) hx)
noncomputable def B113_0 (base : Nat) : Body := fun l h => lay s113_0 l fun s => exCode (Et base) (run (Et base)) loopL a113_0 (subC [1, 0, 1, 0, 0] (bodyC Tryz.f113)) s h (keepK s113_0 e113_0)
theorem B113_0_eq (base : Nat) (v1 : Int) (v7 : Option Addr) (v7n : Nat) (v8 : Int) (v9 : Int) (h : AH) : B113_0 base [some (vI v1), some (vL v7 v7n), some (vI v8), some (vI v9)] h =
((if (decide (v9 < v8)) = true then
(if 0 ≤ v9 ∧ v9 < ((v7n : Nat) : Int) then
((v7 : Option Addr)).bind fun a1 =>
((cell h a1.block (a1.off + Int.toNat v9 * 1)).bind (getI .i64)).bind fun n2 =>
(if (n2 == v1) = true then
some (1, [some (.bool true)], h)
else
some (0, [some (.int .i64 v1), some (.slice v7 v7n v7n), some (.int .i64 v8), some (.int .i64 (IntKind.wrap .i64 (v9 + (1 : Int))))], h))
else none)
else
some (2, [], h)) : Option (Nat × Slots × AH)) := by kernel_rfl
theorem r113 {base : Nat} {v0 : Option Addr} {v0n : Nat} {v1 : Int} {h : AH} {r : Value × AH} (hx : ((loopL (B113_0 base) [some (.int .i64 v1), some (.slice v0 v0n v0n), some (.int .i64 ((v0n : Nat) : Int)), some (.int .i64 (0 : Int))] h).bind fun q1 =>
(if q1.1 = 1 then
((sget q1.2.1 0).bind getB).bind fun b2 =>
some ((.bool b2), q1.2.2)
else
(if q1.1 = 2 then
some ((.bool false), q1.2.2)
else
none))) = some r) : run (Et base) 113 [(vL v0 v0n), (vI v1)] h = some r := run_i (an := a113) Tryz.func113 (by kernel_rfl) (.trans (by kernel_rfl) hx)
noncomputable def B114_0 (base : Nat) : Body := fun l h => lay s114_0 l fun s => exCode (Et base) (run (Et base)) loopL a114_0 (subC [1, 1, 1, 0, 1, 0, 0] (bodyC Tryz.f114)) s h (keepK s114_0 e114_0)
theorem B114_0_eq (base : Nat) (v1 : Int) (v2 : Int) (v27 : Option Addr) (v27n : Nat) (v28 : Int) (v29 : Int) (h : AH) : B114_0 base [some (vI v1), some (vI v2), some (vL v27 v27n), some (vI v28), some (vI v29)] h =
((if (decide (v29 < v28)) = true then
(if 0 ≤ v29 ∧ v29 < ((v27n : Nat) : Int) then
((v27 : Option Addr)).bind fun a1 =>
c_IITL h a1.block (a1.off + Int.toNat v29 * 4) fun n2 n3 s4 l5 =>
nw1 h 42 [(vI 0), (vI 0), (vT ⟨#[]⟩), (vL none 0)] fun h6 =>
(wr base h6 (List.length h) 0 [(vI n2), (vI n3), (vT s4), (vL l5.1 l5.2)]).bind fun h7 =>
c_IITL h7 (List.length h) 0 fun n8 n9 s10 l11 =>
(run (Et base) 114 [(.agg #[(vI n8), (vI n9), (vT s10), (vL l11.1 l11.2)]), (vI (IntKind.wrap .i64 (v1 + (1 : Int)))), (vI v2)] h7).bind fun r12 =>
(getTup 2 r12.1).bind fun l13 =>
l_IB l13 fun n14 b15 =>
(if (!b15) = true then
some (1, [some (vI n14), some (.bool false)], r12.2)
else
some (0, [some (vI v1), some (vI n14), some (vL v27 v27n), some (vI v28), some (vI (IntKind.wrap .i64 (v29 + (1 : Int))))], r12.2))
else none)
else
some (2, [some (vI v2)], h)) : Option (Nat × Slots × AH)) := by kernel_rfl
theorem r114 {base : Nat} {v0_0 : Int} {v0_1 : Int} {v0_2 : ByteArray} {v0_3 : Option Addr} {v0_3n : Nat} {v1 : Int} {v2 : Int} {h : AH} {r : Value × AH} (hx : (nw1 h 42 [(vI v0_0), (vI v0_1), (vT v0_2), (vL v0_3 v0_3n)] fun h1 =>
((if (decide (v1 > (6 : Int))) = true then
some (.inl ([some (vI v1), some (vI (IntKind.wrap .i64 (v2 + (1 : Int)))), some (vP (List.length h)), some (.bool true)], h1))
else
(if (decide ((IntKind.wrap .i64 (v2 + (1 : Int))) > (100 : Int))) = true then
some (.inl ([some (vI v1), some (vI (IntKind.wrap .i64 (v2 + (1 : Int)))), some (vP (List.length h)), some (.bool true)], h1))
else
c_IITL h1 (List.length h) 0 fun n3 n4 s5 l6 =>
(run (Et base) 163 [(.agg #[(vI n3), (vI n4), (vT s5), (vL l6.1 l6.2)])] h1).bind fun r7 =>
((some r7.1).bind getB).bind fun b8 =>
some (.inl ([some (vI v1), some (vI (IntKind.wrap .i64 (v2 + (1 : Int)))), some (vP (List.length h)), some (.bool (!b8))], r7.2))))).bind fun j2 => joinK j2 fun j2 =>
j_IIAB j2.1 fun n9 n10 d11 b12 =>
(if b12 = true then
some ((.tuple #[(vI n10), (.bool false)]), j2.2)
else
((cell j2.2 d11.block (d11.off + 3)).bind getS).bind fun l13 =>
(loopL (B114_0 base) [some (vI n9), some (vI n10), some (vL l13.1 l13.2), some (vI ((l13.2 : Nat) : Int)), some (vI (0 : Int))] j2.2).bind fun q14 =>
(if q14.1 = 1 then
j_IB q14.2.1 fun n15 b16 =>
some ((.tuple #[(vI n15), (.bool b16)]), q14.2.2)
else
(if q14.1 = 2 then
((sget q14.2.1 0).bind (getI .i64)).bind fun n17 =>
some ((.tuple #[(vI n17), (.bool true)]), q14.2.2)
else
none)))) = some r) : run (Et base) 114 [(.agg #[(vI v0_0), (vI v0_1), (vT v0_2), (vL v0_3 v0_3n)]), (vI v1), (vI v2)] h = some r := run_i (an := a114) Tryz.func114 (by kernel_rfl) (.trans (by kernel_rfl) hx)
noncomputable def B115_0 (base : Nat) : Body := fun l h => lay s115_0 l fun s => exCode (Et base) (run (Et base)) loopL a115_0 (subC [1, 1, 0, 1, 0, 0] (bodyC Tryz.f115)) s h (keepK s115_0 e115_0)
theorem B115_0_eq (base : Nat) (v1 : Int) (v5 : Option Addr) (v5n : Nat) (v8 : Option Addr) (v8n : Nat) (v9 : Int) (v10 : Int) (h : AH) : B115_0 base [some (vI v1), some (vL v5 v5n), some (vL v8 v8n), some (vI v9), some (vI v10)] h =
((if (decide (v10 < v9)) = true then
(if 0 ≤ v10 ∧ v10 < ((v8n : Nat) : Int) then
((v8 : Option Addr)).bind fun a1 =>
((cell h a1.block (a1.off + Int.toNat v10 * 1)).bind (getI .i64)).bind fun n2 =>
(if (n2 != v1) = true then
(some (h ++ [some ⟨[(.int .i64 n2)], 3⟩])).bind fun h3 =>
(app base h3 3 1 8 v5 v5n (rawAt h3 (some ⟨(List.length h), 0, none⟩) (1 * 1)) 1).bind fun p4 =>
((some p4.1).bind getS).bind fun l5 =>
some (0, [some (.int .i64 v1), some (.slice l5.1 l5.2 l5.2), some (.slice v8 v8n v8n), some (.int .i64 v9), some (.int .i64 (IntKind.wrap .i64 (v10 + (1 : Int))))], p4.2)
else
some (0, [some (.int .i64 v1), some (.slice v5 v5n v5n), some (.slice v8 v8n v8n), some (.int .i64 v9), some (.int .i64 (IntKind.wrap .i64 (v10 + (1 : Int))))], h))
else none)
else
some (2, [some (.slice v5 v5n v5n)], h)) : Option (Nat × Slots × AH)) := by kernel_rfl
theorem r115 {base : Nat} {v0 : Option Addr} {v0n : Nat} {v1 : Int} {h : AH} {r : Value × AH} (hx : ((loopL (B115_0 base) [some (.int .i64 v1), some (.slice none 0 0), some (.slice v0 v0n v0n), some (.int .i64 ((v0n : Nat) : Int)), some (.int .i64 (0 : Int))] h).bind fun q1 =>
(if q1.1 = 2 then
((sget q1.2.1 0).bind getS).bind fun l2 =>
some ((.slice l2.1 l2.2 l2.2), q1.2.2)
else
none)) = some r) : run (Et base) 115 [(vL v0 v0n), (vI v1)] h = some r := run_i (an := a115) Tryz.func115 (by kernel_rfl) (.trans (by kernel_rfl) hx)
theorem r116 {base : Nat} {v0 : Option Addr} {v0n : Nat} {v1 : Int} {v2 : Int} {v3_0 : Int} {v3_1 : Int} {v3_2 : ByteArray} {v3_3 : Option Addr} {v3_3n : Nat} {h : AH} {r : Value × AH} (hx : ((some (h ++ [some ⟨[(.int .i64 v3_0), (.int .i64 v3_1), (.string v3_2), (.slice v3_3 v3_3n v3_3n)], 42⟩])).bind fun h1 =>
(if (decide (((v0n : Nat) : Int) ≥ (500 : Int))) = true then
some ((.slice v0 v0n v0n), h1)
else
((cell h1 (List.length h) 0).bind (getI .i64)).bind fun n2 =>
((cell h1 (List.length h) 1).bind (getI .i64)).bind fun n3 =>
((cell h1 (List.length h) 2).bind getStr).bind fun s4 =>
((cell h1 (List.length h) 3).bind getS).bind fun l5 =>
(run (Et base) 147 [(.agg #[(.int .i64 n2), (.int .i64 n3), (.string s4), (.slice l5.1 l5.2 l5.2)])] h1).bind fun r6 =>
((some r6.1).bind (getAgg 4)).bind fun l7 =>
((l7[0]?).bind (getI .i64)).bind fun n8 =>
((l7[1]?).bind (getI .i64)).bind fun n9 =>
((l7[2]?).bind getStr).bind fun s10 =>
((l7[3]?).bind getS).bind fun l11 =>
(some (r6.2 ++ [some ⟨[(.int .i64 v1), (.int .i64 v2), (.int .i64 n8), (.int .i64 n9), (.string s10), (.slice l11.1 l11.2 l11.2)], 137⟩])).bind fun h12 =>
(app base h12 137 6 72 v0 v0n (rawAt h12 (some ⟨(List.length r6.2), 0, none⟩) (1 * 6)) 1).bind fun p13 =>
((some p13.1).bind getS).bind fun l14 =>
some ((.slice l14.1 l14.2 l14.2), p13.2))) = some r) : run (Et base) 116 [(vL v0 v0n), (vI v1), (vI v2), (.agg #[(vI v3_0), (vI v3_1), (vT v3_2), (vL v3_3 v3_3n)])] h = some r := run_i (an := a116) Tryz.func116 (by kernel_rfl) (.trans (by kernel_rfl) hx)
theorem r117 {base : Nat} {v0_0 : Int} {v0_1 : Int} {v0_2 : ByteArray} {v0_3 : Option Addr} {v0_3n : Nat} {h : AH} {r : Value × AH} (hx : ((some (h ++ [some ⟨[(.int .i64 v0_0), (.int .i64 v0_1), (.string v0_2), (.slice v0_3 v0_3n v0_3n)], 42⟩])).bind fun h1 =>
((cell h1 (List.length h) 0).bind (getI .i64)).bind fun n2 =>
(if (n2 == (2 : Int)) = true then
((cell h1 (List.length h) 2).bind getStr).bind fun s3 =>
some ((.bool (s3.toList == (⟨#[111, 107]⟩ : ByteArray).toList)), h1)
else
some ((.bool false), h1))) = some r) : run (Et base) 117 [(.agg #[(vI v0_0), (vI v0_1), (vT v0_2), (vL v0_3 v0_3n)])] h = some r := run_i (an := a117) Tryz.func117 (by kernel_rfl) (.trans (by kernel_rfl) hx)
theorem r118 {base : Nat} {v0_0 : Int} {v0_1 : Int} {v0_2 : Int} {v0_3 : Int} {v0_4 : Int} {v0_5 : ByteArray} {v1_0 : Int} {v1_1 : Int} {v1_2 : Int} {v1_3 : Int} {v1_4 : Int} {v1_5 : ByteArray} {h : AH} {r : Value × AH} (hx : ((some (h ++ [some ⟨[(.int .i64 v0_0), (.int .i64 v0_1), (.int .i64 v0_2), (.int .i64 v0_3), (.int .i64 v0_4), (.string v0_5)], 145⟩])).bind fun h1 =>
(some (h1 ++ [some ⟨[(.int .i64 v1_0), (.int .i64 v1_1), (.int .i64 v1_2), (.int .i64 v1_3), (.int .i64 v1_4), (.string v1_5)], 145⟩])).bind fun h2 =>
((cell h2 (List.length h) 0).bind (getI .i64)).bind fun n3 =>
((cell h2 (List.length h1) 0).bind (getI .i64)).bind fun n4 =>
(if (n3 != n4) = true then
some ((.bool false), h2)
else
((cell h2 (List.length h) 1).bind (getI .i64)).bind fun n5 =>
((cell h2 (List.length h1) 1).bind (getI .i64)).bind fun n6 =>
(if (n5 != n6) = true then
some ((.bool false), h2)
else
((cell h2 (List.length h) 2).bind (getI .i64)).bind fun n7 =>
((cell h2 (List.length h1) 2).bind (getI .i64)).bind fun n8 =>
(if (n7 != n8) = true then
some ((.bool false), h2)
else
((cell h2 (List.length h) 3).bind (getI .i64)).bind fun n9 =>
((cell h2 (List.length h1) 3).bind (getI .i64)).bind fun n10 =>
(if (n9 != n10) = true then
some ((.bool false), h2)
else
((cell h2 (List.length h) 4).bind (getI .i64)).bind fun n11 =>
((cell h2 (List.length h1) 4).bind (getI .i64)).bind fun n12 =>
(if (n11 != n12) = true then
some ((.bool false), h2)
else
((cell h2 (List.length h) 5).bind getStr).bind fun s13 =>
((cell h2 (List.length h1) 5).bind getStr).bind fun s14 =>
(if (!(s13.toList == s14.toList)) = true then
some ((.bool false), h2)
else
some ((.bool true), h2)))))))) = some r) : run (Et base) 118 [(.agg #[(vI v0_0), (vI v0_1), (vI v0_2), (vI v0_3), (vI v0_4), (vT v0_5)]), (.agg #[(vI v1_0), (vI v1_1), (vI v1_2), (vI v1_3), (vI v1_4), (vT v1_5)])] h = some r := run_i (an := a118) Tryz.func118 (by kernel_rfl) (.trans (by kernel_rfl) hx)
theorem r119 {base : Nat} {v0_0 : Int} {v0_1 : Int} {v0_2 : Option Addr} {v0_2n : Nat} {v0_3 : Option Addr} {v0_3n : Nat} {v0_4 : Option Addr} {v0_4n : Nat} {v1_0 : Int} {v1_1 : Int} {v1_2 : Option Addr} {v1_2n : Nat} {v1_3 : Option Addr} {v1_3n : Nat} {v1_4 : Option Addr} {v1_4n : Nat} {h : AH} {r : Value × AH} (hx : (nw1 h 118 [(vI v0_0), (vI v0_1), (vL v0_2 v0_2n), (vL v0_3 v0_3n), (vL v0_4 v0_4n)] fun h1 =>
nw1 h1 118 [(vI v1_0), (vI v1_1), (vL v1_2 v1_2n), (vL v1_3 v1_3n), (vL v1_4 v1_4n)] fun h2 =>
((cell h2 (List.length h) 0).bind (getI .i64)).bind fun n3 =>
((cell h2 (List.length h1) 0).bind (getI .i64)).bind fun n4 =>
(if (n3 != n4) = true then
some ((.bool false), h2)
else
((cell h2 (List.length h) 1).bind (getI .i64)).bind fun n5 =>
((cell h2 (List.length h1) 1).bind (getI .i64)).bind fun n6 =>
(if (n5 != n6) = true then
some ((.bool false), h2)
else
((cell h2 (List.length h) 2).bind getS).bind fun l7 =>
((cell h2 (List.length h1) 2).bind getS).bind fun l8 =>
(run (Et base) 50 [(vL l7.1 l7.2), (vL l8.1 l8.2)] h2).bind fun r9 =>
((some r9.1).bind getB).bind fun b10 =>
(if (!b10) = true then
some ((.bool false), r9.2)
else
((cell r9.2 (List.length h) 3).bind getS).bind fun l11 =>
((cell r9.2 (List.length h1) 3).bind getS).bind fun l12 =>
(run (Et base) 50 [(vL l11.1 l11.2), (vL l12.1 l12.2)] r9.2).bind fun r13 =>
((some r13.1).bind getB).bind fun b14 =>
(if (!b14) = true then
some ((.bool false), r13.2)
else
((cell r13.2 (List.length h) 4).bind getS).bind fun l15 =>
((cell r13.2 (List.length h1) 4).bind getS).bind fun l16 =>
(run (Et base) 144 [(vL l15.1 l15.2), (vL l16.1 l16.2)] r13.2).bind fun r17 =>
((some r17.1).bind getB).bind fun b18 =>
(if (!b18) = true then
some ((.bool false), r17.2)
else
some ((.bool true), r17.2))))))) = some r) : run (Et base) 119 [(.agg #[(vI v0_0), (vI v0_1), (vL v0_2 v0_2n), (vL v0_3 v0_3n), (vL v0_4 v0_4n)]), (.agg #[(vI v1_0), (vI v1_1), (vL v1_2 v1_2n), (vL v1_3 v1_3n), (vL v1_4 v1_4n)])] h = some r := run_i (an := a119) Tryz.func119 (by kernel_rfl) (.trans (by kernel_rfl) hx)
end Go.Proofs.YtjmkbglnjklbcaaGreat.Am
