/- What each of these functions comes to on the abstract machine, one equation a function and one a loop.
Conditions: none. -/
import Derived.Test.YtolcnednfbbnnaaTb
set_option linter.unusedVariables false
set_option maxRecDepth 100000
namespace Go.Proofs.Ytolcnednfbbnnaa.Am
open Go Go.RowKit
/-! laws.markSaidS (gates 0) -/
noncomputable def B55_0 (base : Nat) : Body := fun l h => lay s55_0 l fun s => exCode (Et base) (run (Et base)) loopL a55_0 (subC [1, 0, 1, 0, 0] (bodyC Try.f55)) s h (keepK s55_0 e55_0)
theorem B55_0_eq (base : Nat) (v0 : Option Addr) (v0n : Nat) (v1 : Int) (v5 : Int) (h : AH) : B55_0 base [some (.slice v0 v0n v0n), some (.int .i64 v1), some (.int .i64 v5)] h =
((if (decide (v5 < ((v0n : Nat) : Int))) = true then
(if 0 ≤ v5 ∧ v5 < ((v0n : Nat) : Int) then
((v0 : Option Addr)).bind fun a1 =>
(wr base h a1.block ((a1.off + Int.toNat v5 * 6) + 0) [(.int .i64 v1)]).bind fun h2 =>
(if 0 ≤ v5 ∧ v5 < ((v0n : Nat) : Int) then
((v0 : Option Addr)).bind fun a3 =>
(wr base h2 a3.block ((a3.off + Int.toNat v5 * 6) + 1) [(.int .i64 (IntKind.wrap .i64 (v1 + (1 : Int))))]).bind fun h4 =>
(if 0 ≤ v5 ∧ v5 < ((v0n : Nat) : Int) then
((v0 : Option Addr)).bind fun a5 =>
(wr base h4 a5.block (((a5.off + Int.toNat v5 * 6) + 2) + 0) [(.int .i64 (IntKind.wrap .i64 ((IntKind.wrap .i64 (v1 + (1 : Int))) + (1 : Int))))]).bind fun h6 =>
(if 0 ≤ v5 ∧ v5 < ((v0n : Nat) : Int) then
((v0 : Option Addr)).bind fun a7 =>
(wr base h6 a7.block (((a7.off + Int.toNat v5 * 6) + 2) + 1) [(.int .i64 (IntKind.wrap .i64 ((IntKind.wrap .i64 ((IntKind.wrap .i64 (v1 + (1 : Int))) + (1 : Int))) + (1 : Int))))]).bind fun h8 =>
(run (Et base) 52 [(.int .i64 (IntKind.wrap .i64 ((IntKind.wrap .i64 ((IntKind.wrap .i64 ((IntKind.wrap .i64 (v1 + (1 : Int))) + (1 : Int))) + (1 : Int))) + (1 : Int))))] h8).bind fun r9 =>
((some r9.1).bind getStr).bind fun s10 =>
(if 0 ≤ v5 ∧ v5 < ((v0n : Nat) : Int) then
((v0 : Option Addr)).bind fun a11 =>
(wr base r9.2 a11.block (((a11.off + Int.toNat v5 * 6) + 2) + 2) [(.string s10)]).bind fun h12 =>
(if 0 ≤ v5 ∧ v5 < ((v0n : Nat) : Int) then
((v0 : Option Addr)).bind fun a13 =>
((cell h12 a13.block (((a13.off + Int.toNat v5 * 6) + 2) + 3)).bind getS).bind fun l14 =>
(run (Et base) 53 [(.slice l14.1 l14.2 l14.2), (.int .i64 (IntKind.wrap .i64 ((IntKind.wrap .i64 ((IntKind.wrap .i64 ((IntKind.wrap .i64 ((IntKind.wrap .i64 (v1 + (1 : Int))) + (1 : Int))) + (1 : Int))) + (1 : Int))) + (1 : Int))))] h12).bind fun r15 =>
((some r15.1).bind (getI .i64)).bind fun n16 =>
some (0, [some (.slice v0 v0n v0n), some (.int .i64 n16), some (.int .i64 (IntKind.wrap .i64 (v5 + (1 : Int))))], r15.2)
else none)
else none)
else none)
else none)
else none)
else none)
else
some (2, [some (.int .i64 v1)], h)) : Option (Nat × Slots × AH)) := by kernel_rfl
theorem f55_eq (base : Nat) (v0 : Option Addr) (v0n : Nat) (v1 : Int) (h : AH) : exFun (Et base) (run (Et base)) loopL a55 Try.f55 [(.slice v0 v0n v0n), (.int .i64 v1)] h =
((loopL (B55_0 base) [some (.slice v0 v0n v0n), some (.int .i64 v1), some (.int .i64 (0 : Int))] h).bind fun q1 =>
(if q1.1 = 2 then
((sget q1.2.1 0).bind (getI .i64)).bind fun n2 =>
some ((.int .i64 n2), q1.2.2)
else
none) : Option (Value × AH)) := by kernel_rfl
theorem r55 {base : Nat} {v0 : Option Addr} {v0n : Nat} {v1 : Int} {h : AH} {r : Value × AH} (hx :
((loopL (B55_0 base) [some (.slice v0 v0n v0n), some (.int .i64 v1), some (.int .i64 (0 : Int))] h).bind fun q1 =>
(if q1.1 = 2 then
((sget q1.2.1 0).bind (getI .i64)).bind fun n2 =>
some ((.int .i64 n2), q1.2.2)
else
none)) = some r) : run (Et base) 55 [(.slice v0 v0n v0n), (.int .i64 v1)] h = some r := run_i Try.func55 (by kernel_rfl) ((f55_eq base v0 v0n v1 h).trans hx)
/-! laws.heldInsS (gates 0) -/
noncomputable def B56_0 (base : Nat) : Body := fun l h => lay s56_0 l fun s => exCode (Et base) (run (Et base)) loopL a56_0 (subC [1, 0, 1, 0, 0] (bodyC Try.f56)) s h (keepK s56_0 e56_0)
theorem B56_0_eq (base : Nat) (v0 : Option Addr) (v0n : Nat) (v1 : Int) (v5 : Int) (h : AH) : B56_0 base [some (.slice v0 v0n v0n), some (.int .i64 v1), some (.int .i64 v5)] h =
((if (decide (v5 < ((v0n : Nat) : Int))) = true then
(if 0 ≤ v5 ∧ v5 < ((v0n : Nat) : Int) then
((v0 : Option Addr)).bind fun a1 =>
((cell h a1.block ((a1.off + Int.toNat v5 * 6) + 0)).bind (getI .i64)).bind fun n2 =>
(if (n2 != v1) = true then
some (1, [some (.int .i64 (-1 : Int))], h)
else
(if 0 ≤ v5 ∧ v5 < ((v0n : Nat) : Int) then
((v0 : Option Addr)).bind fun a3 =>
((cell h a3.block ((a3.off + Int.toNat v5 * 6) + 1)).bind (getI .i64)).bind fun n4 =>
(if (n4 != (IntKind.wrap .i64 (v1 + (1 : Int)))) = true then
some (1, [some (.int .i64 (-1 : Int))], h)
else
(if 0 ≤ v5 ∧ v5 < ((v0n : Nat) : Int) then
((v0 : Option Addr)).bind fun a5 =>
((cell h a5.block ((a5.off + Int.toNat v5 * 6) + 2)).bind (getI .i64)).bind fun n6 =>
(if (n6 != (IntKind.wrap .i64 ((IntKind.wrap .i64 (v1 + (1 : Int))) + (1 : Int)))) = true then
some (1, [some (.int .i64 (-1 : Int))], h)
else
(if 0 ≤ v5 ∧ v5 < ((v0n : Nat) : Int) then
((v0 : Option Addr)).bind fun a7 =>
((cell h a7.block ((a7.off + Int.toNat v5 * 6) + 3)).bind (getI .i64)).bind fun n8 =>
(if (n8 != (IntKind.wrap .i64 ((IntKind.wrap .i64 ((IntKind.wrap .i64 (v1 + (1 : Int))) + (1 : Int))) + (1 : Int)))) = true then
some (1, [some (.int .i64 (-1 : Int))], h)
else
(if 0 ≤ v5 ∧ v5 < ((v0n : Nat) : Int) then
((v0 : Option Addr)).bind fun a9 =>
((cell h a9.block ((a9.off + Int.toNat v5 * 6) + 4)).bind (getI .i64)).bind fun n10 =>
(if (n10 != (IntKind.wrap .i64 ((IntKind.wrap .i64 ((IntKind.wrap .i64 ((IntKind.wrap .i64 (v1 + (1 : Int))) + (1 : Int))) + (1 : Int))) + (1 : Int)))) = true then
some (1, [some (.int .i64 (-1 : Int))], h)
else
(if 0 ≤ v5 ∧ v5 < ((v0n : Nat) : Int) then
((v0 : Option Addr)).bind fun a11 =>
((cell h a11.block ((a11.off + Int.toNat v5 * 6) + 5)).bind getStr).bind fun s12 =>
(run (Et base) 52 [(.int .i64 (IntKind.wrap .i64 ((IntKind.wrap .i64 ((IntKind.wrap .i64 ((IntKind.wrap .i64 ((IntKind.wrap .i64 (v1 + (1 : Int))) + (1 : Int))) + (1 : Int))) + (1 : Int))) + (1 : Int))))] h).bind fun r13 =>
((some r13.1).bind getStr).bind fun s14 =>
(gate (sameA h r13.2 (some ⟨a11.block, ((a11.off + Int.toNat v5 * 6) + 5), none⟩) 1)
((if (!(s12.toList == s14.toList)) = true then
some (1, [some (.int .i64 (-1 : Int))], r13.2)
else
some (0, [some (.slice v0 v0n v0n), some (.int .i64 (IntKind.wrap .i64 ((IntKind.wrap .i64 ((IntKind.wrap .i64 ((IntKind.wrap .i64 ((IntKind.wrap .i64 ((IntKind.wrap .i64 (v1 + (1 : Int))) + (1 : Int))) + (1 : Int))) + (1 : Int))) + (1 : Int))) + (1 : Int)))), some (.int .i64 (IntKind.wrap .i64 (v5 + (1 : Int))))], r13.2))))
else none))
else none))
else none))
else none))
else none))
else none)
else
some (2, [some (.int .i64 v1)], h)) : Option (Nat × Slots × AH)) := by kernel_rfl
theorem f56_eq (base : Nat) (v0 : Option Addr) (v0n : Nat) (v1 : Int) (h : AH) : exFun (Et base) (run (Et base)) loopL a56 Try.f56 [(.slice v0 v0n v0n), (.int .i64 v1)] h =
((loopL (B56_0 base) [some (.slice v0 v0n v0n), some (.int .i64 v1), some (.int .i64 (0 : Int))] h).bind fun q1 =>
(if q1.1 = 1 then
((sget q1.2.1 0).bind (getI .i64)).bind fun n2 =>
some ((.int .i64 n2), q1.2.2)
else
(if q1.1 = 2 then
((sget q1.2.1 0).bind (getI .i64)).bind fun n3 =>
some ((.int .i64 n3), q1.2.2)
else
none)) : Option (Value × AH)) := by kernel_rfl
theorem r56 {base : Nat} {v0 : Option Addr} {v0n : Nat} {v1 : Int} {h : AH} {r : Value × AH} (hx :
((loopL (B56_0 base) [some (.slice v0 v0n v0n), some (.int .i64 v1), some (.int .i64 (0 : Int))] h).bind fun q1 =>
(if q1.1 = 1 then
((sget q1.2.1 0).bind (getI .i64)).bind fun n2 =>
some ((.int .i64 n2), q1.2.2)
else
(if q1.1 = 2 then
((sget q1.2.1 0).bind (getI .i64)).bind fun n3 =>
some ((.int .i64 n3), q1.2.2)
else
none))) = some r) : run (Et base) 56 [(.slice v0 v0n v0n), (.int .i64 v1)] h = some r := run_i Try.func56 (by kernel_rfl) ((f56_eq base v0 v0n v1 h).trans hx)
/-! laws.heldActorS (gates 0) -/
noncomputable def B57_0 (base : Nat) : Body := fun l h => lay s57_0 l fun s => exCode (Et base) (run (Et base)) loopL a57_0 (subC [1, 0, 1, 0, 0] (bodyC Try.f57)) s h (keepK s57_0 e57_0)
theorem B57_0_eq (base : Nat) (v0 : Option Addr) (v0n : Nat) (v1 : Int) (v5 : Int) (h : AH) : B57_0 base [some (.slice v0 v0n v0n), some (.int .i64 v1), some (.int .i64 v5)] h =
((if (decide (v5 < ((v0n : Nat) : Int))) = true then
(if 0 ≤ v5 ∧ v5 < ((v0n : Nat) : Int) then
((v0 : Option Addr)).bind fun a1 =>
((cell h a1.block ((a1.off + Int.toNat v5 * 5) + 0)).bind (getI .i64)).bind fun n2 =>
(if (n2 != v1) = true then
some (1, [some (.int .i64 (-1 : Int))], h)
else
(if 0 ≤ v5 ∧ v5 < ((v0n : Nat) : Int) then
((v0 : Option Addr)).bind fun a3 =>
((cell h a3.block ((a3.off + Int.toNat v5 * 5) + 1)).bind (getI .i64)).bind fun n4 =>
(if (n4 != (IntKind.wrap .i64 (v1 + (1 : Int)))) = true then
some (1, [some (.int .i64 (-1 : Int))], h)
else
(if 0 ≤ v5 ∧ v5 < ((v0n : Nat) : Int) then
((v0 : Option Addr)).bind fun a5 =>
((cell h a5.block ((a5.off + Int.toNat v5 * 5) + 2)).bind getS).bind fun l6 =>
(run (Et base) 76 [(.slice l6.1 l6.2 l6.2), (.int .i64 (IntKind.wrap .i64 ((IntKind.wrap .i64 (v1 + (1 : Int))) + (1 : Int))))] h).bind fun r7 =>
((some r7.1).bind (getI .i64)).bind fun n8 =>
(if (decide (n8 < (0 : Int))) = true then
some (1, [some (.int .i64 (-1 : Int))], r7.2)
else
(if 0 ≤ v5 ∧ v5 < ((v0n : Nat) : Int) then
((v0 : Option Addr)).bind fun a9 =>
((cell r7.2 a9.block ((a9.off + Int.toNat v5 * 5) + 3)).bind getS).bind fun l10 =>
(run (Et base) 76 [(.slice l10.1 l10.2 l10.2), (.int .i64 n8)] r7.2).bind fun r11 =>
((some r11.1).bind (getI .i64)).bind fun n12 =>
(if (decide (n12 < (0 : Int))) = true then
some (1, [some (.int .i64 (-1 : Int))], r11.2)
else
(if 0 ≤ v5 ∧ v5 < ((v0n : Nat) : Int) then
((v0 : Option Addr)).bind fun a13 =>
((cell r11.2 a13.block ((a13.off + Int.toNat v5 * 5) + 4)).bind getS).bind fun l14 =>
(run (Et base) 77 [(.slice l14.1 l14.2 l14.2), (.int .i64 n12)] r11.2).bind fun r15 =>
((some r15.1).bind (getI .i64)).bind fun n16 =>
(if (decide (n16 < (0 : Int))) = true then
some (1, [some (.int .i64 (-1 : Int))], r15.2)
else
some (0, [some (.slice v0 v0n v0n), some (.int .i64 n16), some (.int .i64 (IntKind.wrap .i64 (v5 + (1 : Int))))], r15.2))
else none))
else none))
else none))
else none))
else none)
else
some (2, [some (.int .i64 v1)], h)) : Option (Nat × Slots × AH)) := by kernel_rfl
theorem f57_eq (base : Nat) (v0 : Option Addr) (v0n : Nat) (v1 : Int) (h : AH) : exFun (Et base) (run (Et base)) loopL a57 Try.f57 [(.slice v0 v0n v0n), (.int .i64 v1)] h =
((loopL (B57_0 base) [some (.slice v0 v0n v0n), some (.int .i64 v1), some (.int .i64 (0 : Int))] h).bind fun q1 =>
(if q1.1 = 1 then
((sget q1.2.1 0).bind (getI .i64)).bind fun n2 =>
some ((.int .i64 n2), q1.2.2)
else
(if q1.1 = 2 then
((sget q1.2.1 0).bind (getI .i64)).bind fun n3 =>
some ((.int .i64 n3), q1.2.2)
else
none)) : Option (Value × AH)) := by kernel_rfl
theorem r57 {base : Nat} {v0 : Option Addr} {v0n : Nat} {v1 : Int} {h : AH} {r : Value × AH} (hx :
((loopL (B57_0 base) [some (.slice v0 v0n v0n), some (.int .i64 v1), some (.int .i64 (0 : Int))] h).bind fun q1 =>
(if q1.1 = 1 then
((sget q1.2.1 0).bind (getI .i64)).bind fun n2 =>
some ((.int .i64 n2), q1.2.2)
else
(if q1.1 = 2 then
((sget q1.2.1 0).bind (getI .i64)).bind fun n3 =>
some ((.int .i64 n3), q1.2.2)
else
none))) = some r) : run (Et base) 57 [(.slice v0 v0n v0n), (.int .i64 v1)] h = some r := run_i Try.func57 (by kernel_rfl) ((f57_eq base v0 v0n v1 h).trans hx)
/-! laws.heldSaidS (gates 0) -/
noncomputable def B58_0 (base : Nat) : Body := fun l h => lay s58_0 l fun s => exCode (Et base) (run (Et base)) loopL a58_0 (subC [1, 0, 1, 0, 0] (bodyC Try.f58)) s h (keepK s58_0 e58_0)
theorem B58_0_eq (base : Nat) (v0 : Option Addr) (v0n : Nat) (v1 : Int) (v5 : Int) (h : AH) : B58_0 base [some (.slice v0 v0n v0n), some (.int .i64 v1), some (.int .i64 v5)] h =
((if (decide (v5 < ((v0n : Nat) : Int))) = true then
(if 0 ≤ v5 ∧ v5 < ((v0n : Nat) : Int) then
((v0 : Option Addr)).bind fun a1 =>
((cell h a1.block ((a1.off + Int.toNat v5 * 6) + 0)).bind (getI .i64)).bind fun n2 =>
(if (n2 != v1) = true then
some (1, [some (.int .i64 (-1 : Int))], h)
else
(if 0 ≤ v5 ∧ v5 < ((v0n : Nat) : Int) then
((v0 : Option Addr)).bind fun a3 =>
((cell h a3.block ((a3.off + Int.toNat v5 * 6) + 1)).bind (getI .i64)).bind fun n4 =>
(if (n4 != (IntKind.wrap .i64 (v1 + (1 : Int)))) = true then
some (1, [some (.int .i64 (-1 : Int))], h)
else
(if 0 ≤ v5 ∧ v5 < ((v0n : Nat) : Int) then
((v0 : Option Addr)).bind fun a5 =>
((cell h a5.block (((a5.off + Int.toNat v5 * 6) + 2) + 0)).bind (getI .i64)).bind fun n6 =>
(if (n6 != (IntKind.wrap .i64 ((IntKind.wrap .i64 (v1 + (1 : Int))) + (1 : Int)))) = true then
some (1, [some (.int .i64 (-1 : Int))], h)
else
(if 0 ≤ v5 ∧ v5 < ((v0n : Nat) : Int) then
((v0 : Option Addr)).bind fun a7 =>
((cell h a7.block (((a7.off + Int.toNat v5 * 6) + 2) + 1)).bind (getI .i64)).bind fun n8 =>
(if (n8 != (IntKind.wrap .i64 ((IntKind.wrap .i64 ((IntKind.wrap .i64 (v1 + (1 : Int))) + (1 : Int))) + (1 : Int)))) = true then
some (1, [some (.int .i64 (-1 : Int))], h)
else
(if 0 ≤ v5 ∧ v5 < ((v0n : Nat) : Int) then
((v0 : Option Addr)).bind fun a9 =>
((cell h a9.block (((a9.off + Int.toNat v5 * 6) + 2) + 2)).bind getStr).bind fun s10 =>
(run (Et base) 52 [(.int .i64 (IntKind.wrap .i64 ((IntKind.wrap .i64 ((IntKind.wrap .i64 ((IntKind.wrap .i64 (v1 + (1 : Int))) + (1 : Int))) + (1 : Int))) + (1 : Int))))] h).bind fun r11 =>
((some r11.1).bind getStr).bind fun s12 =>
(gate (sameA h r11.2 (some ⟨a9.block, (((a9.off + Int.toNat v5 * 6) + 2) + 2), none⟩) 1)
((if (!(s10.toList == s12.toList)) = true then
some (1, [some (.int .i64 (-1 : Int))], r11.2)
else
(if 0 ≤ v5 ∧ v5 < ((v0n : Nat) : Int) then
((v0 : Option Addr)).bind fun a13 =>
((cell r11.2 a13.block (((a13.off + Int.toNat v5 * 6) + 2) + 3)).bind getS).bind fun l14 =>
(run (Et base) 76 [(.slice l14.1 l14.2 l14.2), (.int .i64 (IntKind.wrap .i64 ((IntKind.wrap .i64 ((IntKind.wrap .i64 ((IntKind.wrap .i64 ((IntKind.wrap .i64 (v1 + (1 : Int))) + (1 : Int))) + (1 : Int))) + (1 : Int))) + (1 : Int))))] r11.2).bind fun r15 =>
((some r15.1).bind (getI .i64)).bind fun n16 =>
(if (decide (n16 < (0 : Int))) = true then
some (1, [some (.int .i64 (-1 : Int))], r15.2)
else
some (0, [some (.slice v0 v0n v0n), some (.int .i64 n16), some (.int .i64 (IntKind.wrap .i64 (v5 + (1 : Int))))], r15.2))
else none))))
else none))
else none))
else none))
else none))
else none)
else
some (2, [some (.int .i64 v1)], h)) : Option (Nat × Slots × AH)) := by kernel_rfl
theorem f58_eq (base : Nat) (v0 : Option Addr) (v0n : Nat) (v1 : Int) (h : AH) : exFun (Et base) (run (Et base)) loopL a58 Try.f58 [(.slice v0 v0n v0n), (.int .i64 v1)] h =
((loopL (B58_0 base) [some (.slice v0 v0n v0n), some (.int .i64 v1), some (.int .i64 (0 : Int))] h).bind fun q1 =>
(if q1.1 = 1 then
((sget q1.2.1 0).bind (getI .i64)).bind fun n2 =>
some ((.int .i64 n2), q1.2.2)
else
(if q1.1 = 2 then
((sget q1.2.1 0).bind (getI .i64)).bind fun n3 =>
some ((.int .i64 n3), q1.2.2)
else
none)) : Option (Value × AH)) := by kernel_rfl
theorem r58 {base : Nat} {v0 : Option Addr} {v0n : Nat} {v1 : Int} {h : AH} {r : Value × AH} (hx :
((loopL (B58_0 base) [some (.slice v0 v0n v0n), some (.int .i64 v1), some (.int .i64 (0 : Int))] h).bind fun q1 =>
(if q1.1 = 1 then
((sget q1.2.1 0).bind (getI .i64)).bind fun n2 =>
some ((.int .i64 n2), q1.2.2)
else
(if q1.1 = 2 then
((sget q1.2.1 0).bind (getI .i64)).bind fun n3 =>
some ((.int .i64 n3), q1.2.2)
else
none))) = some r) : run (Et base) 58 [(.slice v0 v0n v0n), (.int .i64 v1)] h = some r := run_i Try.func58 (by kernel_rfl) ((f58_eq base v0 v0n v1 h).trans hx)
/-! spec.ActorOk (gates 0) -/
theorem f60_eq (base : Nat) (v0 : Option Addr) (v0n : Nat) (v1_0 : Int) (v1_1 : Int) (v1_2 : Option Addr) (v1_2n : Nat) (v1_3 : Option Addr) (v1_3n : Nat) (v1_4 : Option Addr) (v1_4n : Nat) (h : AH) : exFun (Et base) (run (Et base)) loopL a60 Try.f60 [(.slice v0 v0n v0n), (.agg #[(.int .i64 v1_0), (.int .i64 v1_1), (.slice v1_2 v1_2n v1_2n), (.slice v1_3 v1_3n v1_3n), (.slice v1_4 v1_4n v1_4n)])] h =
((some (h ++ [some ⟨[(.int .i64 v1_0), (.int .i64 v1_1), (.slice v1_2 v1_2n v1_2n), (.slice v1_3 v1_3n v1_3n), (.slice v1_4 v1_4n v1_4n)], 52⟩])).bind fun h1 =>
((run (Et base) 89 [(.slice v0 v0n v0n)] h1).bind fun r3 =>
((some r3.1).bind getB).bind fun b4 =>
(if (!b4) = true then
some (.inl ([some (.pointer (some ⟨(List.length h), 0, none⟩)), some (.bool true)], r3.2))
else
((cell r3.2 (List.length h) 0).bind (getI .i64)).bind fun n5 =>
(run (Et base) 61 [(.int .i64 n5), (.int .i64 (1 : Int)), (.int .i64 (99999 : Int))] r3.2).bind fun r6 =>
((some r6.1).bind getB).bind fun b7 =>
(if (!b7) = true then
some (.inl ([some (.pointer (some ⟨(List.length h), 0, none⟩)), some (.bool true)], r6.2))
else
((cell r6.2 (List.length h) 1).bind (getI .i64)).bind fun n8 =>
(run (Et base) 61 [(.int .i64 n8), (.int .i64 (0 : Int)), (.int .i64 (IntKind.wrap .i64 (((v0n : Nat) : Int) - (1 : Int))))] r6.2).bind fun r9 =>
((some r9.1).bind getB).bind fun b10 =>
(if (!b10) = true then
some (.inl ([some (.pointer (some ⟨(List.length h), 0, none⟩)), some (.bool true)], r9.2))
else
((cell r9.2 (List.length h) 2).bind getS).bind fun l11 =>
(if (((l11.2 : Nat) : Int) != (8 : Int)) = true then
some (.inl ([some (.pointer (some ⟨(List.length h), 0, none⟩)), some (.bool true)], r9.2))
else
((cell r9.2 (List.length h) 3).bind getS).bind fun l12 =>
some (.inl ([some (.pointer (some ⟨(List.length h), 0, none⟩)), some (.bool (decide (((l12.2 : Nat) : Int) > (30 : Int))))], r9.2))))))).bind fun j2 => joinK j2 fun j2 =>
((sget j2.1 0).bind getA).bind fun d13 =>
((sget (j2.1.tail) 0).bind getB).bind fun b14 =>
(if b14 = true then
some ((.bool false), j2.2)
else
((cell j2.2 d13.block (d13.off + 2)).bind getS).bind fun l15 =>
(run (Et base) 104 [(.slice l15.1 l15.2 l15.2)] j2.2).bind fun r16 =>
((some r16.1).bind getB).bind fun b17 =>
(if b17 = true then
((cell r16.2 d13.block (d13.off + 3)).bind getS).bind fun l18 =>
(run (Et base) 104 [(.slice l18.1 l18.2 l18.2)] r16.2).bind fun r19 =>
((some r19.1).bind getB).bind fun b20 =>
(if b20 = true then
((cell r19.2 d13.block (d13.off + 4)).bind getS).bind fun l21 =>
((cell r19.2 d13.block (d13.off + 0)).bind (getI .i64)).bind fun n22 =>
(run (Et base) 105 [(.slice l21.1 l21.2 l21.2), (.int .i64 n22)] r19.2).bind fun r23 =>
((some r23.1).bind getB).bind fun b24 =>
some ((.bool b24), r23.2)
else
some ((.bool false), r19.2))
else
some ((.bool false), r16.2))) : Option (Value × AH)) := by kernel_rfl
theorem r60 {base : Nat} {v0 : Option Addr} {v0n : Nat} {v1_0 : Int} {v1_1 : Int} {v1_2 : Option Addr} {v1_2n : Nat} {v1_3 : Option Addr} {v1_3n : Nat} {v1_4 : Option Addr} {v1_4n : Nat} {h : AH} {r : Value × AH} (hx :
((some (h ++ [some ⟨[(.int .i64 v1_0), (.int .i64 v1_1), (.slice v1_2 v1_2n v1_2n), (.slice v1_3 v1_3n v1_3n), (.slice v1_4 v1_4n v1_4n)], 52⟩])).bind fun h1 =>
((run (Et base) 89 [(.slice v0 v0n v0n)] h1).bind fun r3 =>
((some r3.1).bind getB).bind fun b4 =>
(if (!b4) = true then
some (.inl ([some (.pointer (some ⟨(List.length h), 0, none⟩)), some (.bool true)], r3.2))
else
((cell r3.2 (List.length h) 0).bind (getI .i64)).bind fun n5 =>
(run (Et base) 61 [(.int .i64 n5), (.int .i64 (1 : Int)), (.int .i64 (99999 : Int))] r3.2).bind fun r6 =>
((some r6.1).bind getB).bind fun b7 =>
(if (!b7) = true then
some (.inl ([some (.pointer (some ⟨(List.length h), 0, none⟩)), some (.bool true)], r6.2))
else
((cell r6.2 (List.length h) 1).bind (getI .i64)).bind fun n8 =>
(run (Et base) 61 [(.int .i64 n8), (.int .i64 (0 : Int)), (.int .i64 (IntKind.wrap .i64 (((v0n : Nat) : Int) - (1 : Int))))] r6.2).bind fun r9 =>
((some r9.1).bind getB).bind fun b10 =>
(if (!b10) = true then
some (.inl ([some (.pointer (some ⟨(List.length h), 0, none⟩)), some (.bool true)], r9.2))
else
((cell r9.2 (List.length h) 2).bind getS).bind fun l11 =>
(if (((l11.2 : Nat) : Int) != (8 : Int)) = true then
some (.inl ([some (.pointer (some ⟨(List.length h), 0, none⟩)), some (.bool true)], r9.2))
else
((cell r9.2 (List.length h) 3).bind getS).bind fun l12 =>
some (.inl ([some (.pointer (some ⟨(List.length h), 0, none⟩)), some (.bool (decide (((l12.2 : Nat) : Int) > (30 : Int))))], r9.2))))))).bind fun j2 => joinK j2 fun j2 =>
((sget j2.1 0).bind getA).bind fun d13 =>
((sget (j2.1.tail) 0).bind getB).bind fun b14 =>
(if b14 = true then
some ((.bool false), j2.2)
else
((cell j2.2 d13.block (d13.off + 2)).bind getS).bind fun l15 =>
(run (Et base) 104 [(.slice l15.1 l15.2 l15.2)] j2.2).bind fun r16 =>
((some r16.1).bind getB).bind fun b17 =>
(if b17 = true then
((cell r16.2 d13.block (d13.off + 3)).bind getS).bind fun l18 =>
(run (Et base) 104 [(.slice l18.1 l18.2 l18.2)] r16.2).bind fun r19 =>
((some r19.1).bind getB).bind fun b20 =>
(if b20 = true then
((cell r19.2 d13.block (d13.off + 4)).bind getS).bind fun l21 =>
((cell r19.2 d13.block (d13.off + 0)).bind (getI .i64)).bind fun n22 =>
(run (Et base) 105 [(.slice l21.1 l21.2 l21.2), (.int .i64 n22)] r19.2).bind fun r23 =>
((some r23.1).bind getB).bind fun b24 =>
some ((.bool b24), r23.2)
else
some ((.bool false), r19.2))
else
some ((.bool false), r16.2)))) = some r) : run (Et base) 60 [(.slice v0 v0n v0n), (.agg #[(.int .i64 v1_0), (.int .i64 v1_1), (.slice v1_2 v1_2n v1_2n), (.slice v1_3 v1_3n v1_3n), (.slice v1_4 v1_4n v1_4n)])] h = some r := run_i Try.func60 (by kernel_rfl) ((f60_eq base v0 v0n v1_0 v1_1 v1_2 v1_2n v1_3 v1_3n v1_4 v1_4n h).trans hx)
/-! spec.l1In (gates 0) -/
theorem f61_eq (base : Nat) (v0 : Int) (v1 : Int) (v2 : Int) (h : AH) : exFun (Et base) (run (Et base)) loopL a61 Try.f61 [(.int .i64 v0), (.int .i64 v1), (.int .i64 v2)] h =
((if (decide (v0 ≥ v1)) = true then
some ((.bool (decide (v0 ≤ v2))), h)
else
some ((.bool false), h)) : Option (Value × AH)) := by kernel_rfl
theorem r61 {base : Nat} {v0 : Int} {v1 : Int} {v2 : Int} {h : AH} {r : Value × AH} (hx :
((if (decide (v0 ≥ v1)) = true then
some ((.bool (decide (v0 ≤ v2))), h)
else
some ((.bool false), h))) = some r) : run (Et base) 61 [(.int .i64 v0), (.int .i64 v1), (.int .i64 v2)] h = some r := run_i Try.func61 (by kernel_rfl) ((f61_eq base v0 v1 v2 h).trans hx)
/-! impl.in (gates 0) -/
theorem f66_eq (base : Nat) (v0 : Int) (v1 : Int) (v2 : Int) (h : AH) : exFun (Et base) (run (Et base)) loopL a66 Try.f66 [(.int .i64 v0), (.int .i64 v1), (.int .i64 v2)] h =
((if (decide (v0 ≥ v1)) = true then
some ((.bool (decide (v0 ≤ v2))), h)
else
some ((.bool false), h)) : Option (Value × AH)) := by kernel_rfl
theorem r66 {base : Nat} {v0 : Int} {v1 : Int} {v2 : Int} {h : AH} {r : Value × AH} (hx :
((if (decide (v0 ≥ v1)) = true then
some ((.bool (decide (v0 ≤ v2))), h)
else
some ((.bool false), h))) = some r) : run (Et base) 66 [(.int .i64 v0), (.int .i64 v1), (.int .i64 v2)] h = some r := run_i Try.func66 (by kernel_rfl) ((f66_eq base v0 v1 v2 h).trans hx)
/-! impl.TermOk (gates 0) -/
theorem f71_eq (base : Nat) (v0_0 : Int) (v0_1 : Int) (v0_2 : ByteArray) (v0_3 : Option Addr) (v0_3n : Nat) (h : AH) : exFun (Et base) (run (Et base)) loopL a71 Try.f71 [(.agg #[(.int .i64 v0_0), (.int .i64 v0_1), (.string v0_2), (.slice v0_3 v0_3n v0_3n)])] h =
((some (h ++ [some ⟨[(.int .i64 v0_0), (.int .i64 v0_1), (.string v0_2), (.slice v0_3 v0_3n v0_3n)], 38⟩])).bind fun h1 =>
((cell h1 (List.length h) 0).bind (getI .i64)).bind fun n2 =>
((cell h1 (List.length h) 1).bind (getI .i64)).bind fun n3 =>
((cell h1 (List.length h) 2).bind getStr).bind fun s4 =>
((cell h1 (List.length h) 3).bind getS).bind fun l5 =>
(run (Et base) 113 [(.agg #[(.int .i64 n2), (.int .i64 n3), (.string s4), (.slice l5.1 l5.2 l5.2)]), (.int .i64 (1 : Int)), (.int .i64 (0 : Int))] h1).bind fun r6 =>
(getTup 2 r6.1).bind fun l7 =>
((l7[0]?).bind (getI .i64)).bind fun n8 =>
((l7[1]?).bind getB).bind fun b9 =>
some ((.bool b9), r6.2) : Option (Value × AH)) := by kernel_rfl
theorem r71 {base : Nat} {v0_0 : Int} {v0_1 : Int} {v0_2 : ByteArray} {v0_3 : Option Addr} {v0_3n : Nat} {h : AH} {r : Value × AH} (hx :
((some (h ++ [some ⟨[(.int .i64 v0_0), (.int .i64 v0_1), (.string v0_2), (.slice v0_3 v0_3n v0_3n)], 38⟩])).bind fun h1 =>
((cell h1 (List.length h) 0).bind (getI .i64)).bind fun n2 =>
((cell h1 (List.length h) 1).bind (getI .i64)).bind fun n3 =>
((cell h1 (List.length h) 2).bind getStr).bind fun s4 =>
((cell h1 (List.length h) 3).bind getS).bind fun l5 =>
(run (Et base) 113 [(.agg #[(.int .i64 n2), (.int .i64 n3), (.string s4), (.slice l5.1 l5.2 l5.2)]), (.int .i64 (1 : Int)), (.int .i64 (0 : Int))] h1).bind fun r6 =>
(getTup 2 r6.1).bind fun l7 =>
((l7[0]?).bind (getI .i64)).bind fun n8 =>
((l7[1]?).bind getB).bind fun b9 =>
some ((.bool b9), r6.2)) = some r) : run (Et base) 71 [(.agg #[(.int .i64 v0_0), (.int .i64 v0_1), (.string v0_2), (.slice v0_3 v0_3n v0_3n)])] h = some r := run_i Try.func71 (by kernel_rfl) ((f71_eq base v0_0 v0_1 v0_2 v0_3 v0_3n h).trans hx)
/-! impl.copyTerm (gates 0) -/
theorem f72_eq (base : Nat) (v0_0 : Int) (v0_1 : Int) (v0_2 : ByteArray) (v0_3 : Option Addr) (v0_3n : Nat) (h : AH) : exFun (Et base) (run (Et base)) loopL a72 Try.f72 [(.agg #[(.int .i64 v0_0), (.int .i64 v0_1), (.string v0_2), (.slice v0_3 v0_3n v0_3n)])] h =
((some (h ++ [some ⟨[(.int .i64 v0_0), (.int .i64 v0_1), (.string v0_2), (.slice v0_3 v0_3n v0_3n)], 38⟩])).bind fun h1 =>
(some (h1 ++ [some ⟨[(.int .i64 0), (.int .i64 0), (.string ⟨#[]⟩), (.slice none 0 0)], 38⟩])).bind fun h2 =>
((cell h2 (List.length h) 3).bind getS).bind fun l3 =>
(run (Et base) 110 [(.slice l3.1 l3.2 l3.2)] h2).bind fun r4 =>
((some r4.1).bind getS).bind fun l5 =>
(wr base r4.2 (List.length h) 3 [(.slice l5.1 l5.2 l5.2)]).bind fun h6 =>
((cell h6 (List.length h) 0).bind (getI .i64)).bind fun n7 =>
((cell h6 (List.length h) 1).bind (getI .i64)).bind fun n8 =>
((cell h6 (List.length h) 2).bind getStr).bind fun s9 =>
((cell h6 (List.length h) 3).bind getS).bind fun l10 =>
(wr base h6 (List.length h1) 0 [(.int .i64 n7), (.int .i64 n8), (.string s9), (.slice l10.1 l10.2 l10.2)]).bind fun h11 =>
((cell h11 (List.length h1) 0).bind (getI .i64)).bind fun n12 =>
((cell h11 (List.length h1) 1).bind (getI .i64)).bind fun n13 =>
((cell h11 (List.length h1) 2).bind getStr).bind fun s14 =>
((cell h11 (List.length h1) 3).bind getS).bind fun l15 =>
some ((.agg #[(.int .i64 n12), (.int .i64 n13), (.string s14), (.slice l15.1 l15.2 l15.2)]), h11) : Option (Value × AH)) := by kernel_rfl
theorem r72 {base : Nat} {v0_0 : Int} {v0_1 : Int} {v0_2 : ByteArray} {v0_3 : Option Addr} {v0_3n : Nat} {h : AH} {r : Value × AH} (hx :
((some (h ++ [some ⟨[(.int .i64 v0_0), (.int .i64 v0_1), (.string v0_2), (.slice v0_3 v0_3n v0_3n)], 38⟩])).bind fun h1 =>
(some (h1 ++ [some ⟨[(.int .i64 0), (.int .i64 0), (.string ⟨#[]⟩), (.slice none 0 0)], 38⟩])).bind fun h2 =>
((cell h2 (List.length h) 3).bind getS).bind fun l3 =>
(run (Et base) 110 [(.slice l3.1 l3.2 l3.2)] h2).bind fun r4 =>
((some r4.1).bind getS).bind fun l5 =>
(wr base r4.2 (List.length h) 3 [(.slice l5.1 l5.2 l5.2)]).bind fun h6 =>
((cell h6 (List.length h) 0).bind (getI .i64)).bind fun n7 =>
((cell h6 (List.length h) 1).bind (getI .i64)).bind fun n8 =>
((cell h6 (List.length h) 2).bind getStr).bind fun s9 =>
((cell h6 (List.length h) 3).bind getS).bind fun l10 =>
(wr base h6 (List.length h1) 0 [(.int .i64 n7), (.int .i64 n8), (.string s9), (.slice l10.1 l10.2 l10.2)]).bind fun h11 =>
((cell h11 (List.length h1) 0).bind (getI .i64)).bind fun n12 =>
((cell h11 (List.length h1) 1).bind (getI .i64)).bind fun n13 =>
((cell h11 (List.length h1) 2).bind getStr).bind fun s14 =>
((cell h11 (List.length h1) 3).bind getS).bind fun l15 =>
some ((.agg #[(.int .i64 n12), (.int .i64 n13), (.string s14), (.slice l15.1 l15.2 l15.2)]), h11)) = some r) : run (Et base) 72 [(.agg #[(.int .i64 v0_0), (.int .i64 v0_1), (.string v0_2), (.slice v0_3 v0_3n v0_3n)])] h = some r := run_i Try.func72 (by kernel_rfl) ((f72_eq base v0_0 v0_1 v0_2 v0_3 v0_3n h).trans hx)
/-! laws.eqIntS (gates 0) -/
noncomputable def B74_0 (base : Nat) : Body := fun l h => lay s74_0 l fun s => exCode (Et base) (run (Et base)) loopL a74_0 (subC [1, 1, 0, 1, 0, 0] (bodyC Try.f74)) s h (keepK s74_0 e74_0)
theorem B74_0_eq (base : Nat) (v0 : Option Addr) (v0n : Nat) (v1 : Option Addr) (v1n : Nat) (v5 : Int) (h : AH) : B74_0 base [some (.slice v0 v0n v0n), some (.slice v1 v1n v1n), some (.int .i64 v5)] h =
((if (decide (v5 < ((v0n : Nat) : Int))) = true then
(if 0 ≤ v5 ∧ v5 < ((v0n : Nat) : Int) then
((v0 : Option Addr)).bind fun a1 =>
((cell h a1.block (a1.off + Int.toNat v5 * 1)).bind (getI .i64)).bind fun n2 =>
(if 0 ≤ v5 ∧ v5 < ((v1n : Nat) : Int) then
((v1 : Option Addr)).bind fun a3 =>
((cell h a3.block (a3.off + Int.toNat v5 * 1)).bind (getI .i64)).bind fun n4 =>
(if (n2 != n4) = true then
some (1, [some (.bool false)], h)
else
some (0, [some (.slice v0 v0n v0n), some (.slice v1 v1n v1n), some (.int .i64 (IntKind.wrap .i64 (v5 + (1 : Int))))], h))
else none)
else none)
else
some (2, [], h)) : Option (Nat × Slots × AH)) := by kernel_rfl
theorem f74_eq (base : Nat) (v0 : Option Addr) (v0n : Nat) (v1 : Option Addr) (v1n : Nat) (h : AH) : exFun (Et base) (run (Et base)) loopL a74 Try.f74 [(.slice v0 v0n v0n), (.slice v1 v1n v1n)] h =
((if (((v0n : Nat) : Int) != ((v1n : Nat) : Int)) = true then
some ((.bool false), h)
else
(loopL (B74_0 base) [some (.slice v0 v0n v0n), some (.slice v1 v1n v1n), some (.int .i64 (0 : Int))] h).bind fun q1 =>
(if q1.1 = 1 then
((sget q1.2.1 0).bind getB).bind fun b2 =>
some ((.bool b2), q1.2.2)
else
(if q1.1 = 2 then
some ((.bool true), q1.2.2)
else
none))) : Option (Value × AH)) := by kernel_rfl
theorem r74 {base : Nat} {v0 : Option Addr} {v0n : Nat} {v1 : Option Addr} {v1n : Nat} {h : AH} {r : Value × AH} (hx :
((if (((v0n : Nat) : Int) != ((v1n : Nat) : Int)) = true then
some ((.bool false), h)
else
(loopL (B74_0 base) [some (.slice v0 v0n v0n), some (.slice v1 v1n v1n), some (.int .i64 (0 : Int))] h).bind fun q1 =>
(if q1.1 = 1 then
((sget q1.2.1 0).bind getB).bind fun b2 =>
some ((.bool b2), q1.2.2)
else
(if q1.1 = 2 then
some ((.bool true), q1.2.2)
else
none)))) = some r) : run (Et base) 74 [(.slice v0 v0n v0n), (.slice v1 v1n v1n)] h = some r := run_i Try.func74 (by kernel_rfl) ((f74_eq base v0 v0n v1 v1n h).trans hx)
/-! laws.markIntS (gates 0) -/
noncomputable def B75_0 (base : Nat) : Body := fun l h => lay s75_0 l fun s => exCode (Et base) (run (Et base)) loopL a75_0 (subC [1, 0, 1, 0, 0] (bodyC Try.f75)) s h (keepK s75_0 e75_0)
theorem B75_0_eq (base : Nat) (v0 : Option Addr) (v0n : Nat) (v1 : Int) (v5 : Int) (h : AH) : B75_0 base [some (.slice v0 v0n v0n), some (.int .i64 v1), some (.int .i64 v5)] h =
((if (decide (v5 < ((v0n : Nat) : Int))) = true then
(if 0 ≤ v5 ∧ v5 < ((v0n : Nat) : Int) then
((v0 : Option Addr)).bind fun a1 =>
(wr base h a1.block (a1.off + Int.toNat v5 * 1) [(.int .i64 v1)]).bind fun h2 =>
some (0, [some (.slice v0 v0n v0n), some (.int .i64 (IntKind.wrap .i64 (v1 + (1 : Int)))), some (.int .i64 (IntKind.wrap .i64 (v5 + (1 : Int))))], h2)
else none)
else
some (2, [some (.int .i64 v1)], h)) : Option (Nat × Slots × AH)) := by kernel_rfl
theorem f75_eq (base : Nat) (v0 : Option Addr) (v0n : Nat) (v1 : Int) (h : AH) : exFun (Et base) (run (Et base)) loopL a75 Try.f75 [(.slice v0 v0n v0n), (.int .i64 v1)] h =
((loopL (B75_0 base) [some (.slice v0 v0n v0n), some (.int .i64 v1), some (.int .i64 (0 : Int))] h).bind fun q1 =>
(if q1.1 = 2 then
((sget q1.2.1 0).bind (getI .i64)).bind fun n2 =>
some ((.int .i64 n2), q1.2.2)
else
none) : Option (Value × AH)) := by kernel_rfl
theorem r75 {base : Nat} {v0 : Option Addr} {v0n : Nat} {v1 : Int} {h : AH} {r : Value × AH} (hx :
((loopL (B75_0 base) [some (.slice v0 v0n v0n), some (.int .i64 v1), some (.int .i64 (0 : Int))] h).bind fun q1 =>
(if q1.1 = 2 then
((sget q1.2.1 0).bind (getI .i64)).bind fun n2 =>
some ((.int .i64 n2), q1.2.2)
else
none)) = some r) : run (Et base) 75 [(.slice v0 v0n v0n), (.int .i64 v1)] h = some r := run_i Try.func75 (by kernel_rfl) ((f75_eq base v0 v0n v1 h).trans hx)
/-! laws.heldTermS (gates 0) -/
noncomputable def B76_0 (base : Nat) : Body := fun l h => lay s76_0 l fun s => exCode (Et base) (run (Et base)) loopL a76_0 (subC [1, 0, 1, 0, 0] (bodyC Try.f76)) s h (keepK s76_0 e76_0)
theorem B76_0_eq (base : Nat) (v0 : Option Addr) (v0n : Nat) (v1 : Int) (v5 : Int) (h : AH) : B76_0 base [some (.slice v0 v0n v0n), some (.int .i64 v1), some (.int .i64 v5)] h =
((if (decide (v5 < ((v0n : Nat) : Int))) = true then
(if 0 ≤ v5 ∧ v5 < ((v0n : Nat) : Int) then
((v0 : Option Addr)).bind fun a1 =>
((cell h a1.block ((a1.off + Int.toNat v5 * 4) + 0)).bind (getI .i64)).bind fun n2 =>
(if (n2 != v1) = true then
some (1, [some (.int .i64 (-1 : Int))], h)
else
(if 0 ≤ v5 ∧ v5 < ((v0n : Nat) : Int) then
((v0 : Option Addr)).bind fun a3 =>
((cell h a3.block ((a3.off + Int.toNat v5 * 4) + 1)).bind (getI .i64)).bind fun n4 =>
(if (n4 != (IntKind.wrap .i64 (v1 + (1 : Int)))) = true then
some (1, [some (.int .i64 (-1 : Int))], h)
else
(if 0 ≤ v5 ∧ v5 < ((v0n : Nat) : Int) then
((v0 : Option Addr)).bind fun a5 =>
((cell h a5.block ((a5.off + Int.toNat v5 * 4) + 2)).bind getStr).bind fun s6 =>
(run (Et base) 52 [(.int .i64 (IntKind.wrap .i64 ((IntKind.wrap .i64 (v1 + (1 : Int))) + (1 : Int))))] h).bind fun r7 =>
((some r7.1).bind getStr).bind fun s8 =>
(gate (sameA h r7.2 (some ⟨a5.block, ((a5.off + Int.toNat v5 * 4) + 2), none⟩) 1)
((if (!(s6.toList == s8.toList)) = true then
some (1, [some (.int .i64 (-1 : Int))], r7.2)
else
(if 0 ≤ v5 ∧ v5 < ((v0n : Nat) : Int) then
((v0 : Option Addr)).bind fun a9 =>
((cell r7.2 a9.block ((a9.off + Int.toNat v5 * 4) + 3)).bind getS).bind fun l10 =>
(run (Et base) 76 [(.slice l10.1 l10.2 l10.2), (.int .i64 (IntKind.wrap .i64 ((IntKind.wrap .i64 ((IntKind.wrap .i64 (v1 + (1 : Int))) + (1 : Int))) + (1 : Int))))] r7.2).bind fun r11 =>
((some r11.1).bind (getI .i64)).bind fun n12 =>
(if (decide (n12 < (0 : Int))) = true then
some (1, [some (.int .i64 (-1 : Int))], r11.2)
else
some (0, [some (.slice v0 v0n v0n), some (.int .i64 n12), some (.int .i64 (IntKind.wrap .i64 (v5 + (1 : Int))))], r11.2))
else none))))
else none))
else none))
else none)
else
some (2, [some (.int .i64 v1)], h)) : Option (Nat × Slots × AH)) := by kernel_rfl
theorem f76_eq (base : Nat) (v0 : Option Addr) (v0n : Nat) (v1 : Int) (h : AH) : exFun (Et base) (run (Et base)) loopL a76 Try.f76 [(.slice v0 v0n v0n), (.int .i64 v1)] h =
((loopL (B76_0 base) [some (.slice v0 v0n v0n), some (.int .i64 v1), some (.int .i64 (0 : Int))] h).bind fun q1 =>
(if q1.1 = 1 then
((sget q1.2.1 0).bind (getI .i64)).bind fun n2 =>
some ((.int .i64 n2), q1.2.2)
else
(if q1.1 = 2 then
((sget q1.2.1 0).bind (getI .i64)).bind fun n3 =>
some ((.int .i64 n3), q1.2.2)
else
none)) : Option (Value × AH)) := by kernel_rfl
theorem r76 {base : Nat} {v0 : Option Addr} {v0n : Nat} {v1 : Int} {h : AH} {r : Value × AH} (hx :
((loopL (B76_0 base) [some (.slice v0 v0n v0n), some (.int .i64 v1), some (.int .i64 (0 : Int))] h).bind fun q1 =>
(if q1.1 = 1 then
((sget q1.2.1 0).bind (getI .i64)).bind fun n2 =>
some ((.int .i64 n2), q1.2.2)
else
(if q1.1 = 2 then
((sget q1.2.1 0).bind (getI .i64)).bind fun n3 =>
some ((.int .i64 n3), q1.2.2)
else
none))) = some r) : run (Et base) 76 [(.slice v0 v0n v0n), (.int .i64 v1)] h = some r := run_i Try.func76 (by kernel_rfl) ((f76_eq base v0 v0n v1 h).trans hx)
/-! laws.heldIntS (gates 0) -/
noncomputable def B77_0 (base : Nat) : Body := fun l h => lay s77_0 l fun s => exCode (Et base) (run (Et base)) loopL a77_0 (subC [1, 0, 1, 0, 0] (bodyC Try.f77)) s h (keepK s77_0 e77_0)
theorem B77_0_eq (base : Nat) (v0 : Option Addr) (v0n : Nat) (v1 : Int) (v5 : Int) (h : AH) : B77_0 base [some (.slice v0 v0n v0n), some (.int .i64 v1), some (.int .i64 v5)] h =
((if (decide (v5 < ((v0n : Nat) : Int))) = true then
(if 0 ≤ v5 ∧ v5 < ((v0n : Nat) : Int) then
((v0 : Option Addr)).bind fun a1 =>
((cell h a1.block (a1.off + Int.toNat v5 * 1)).bind (getI .i64)).bind fun n2 =>
(if (n2 != v1) = true then
some (1, [some (.int .i64 (-1 : Int))], h)
else
some (0, [some (.slice v0 v0n v0n), some (.int .i64 (IntKind.wrap .i64 (v1 + (1 : Int)))), some (.int .i64 (IntKind.wrap .i64 (v5 + (1 : Int))))], h))
else none)
else
some (2, [some (.int .i64 v1)], h)) : Option (Nat × Slots × AH)) := by kernel_rfl
theorem f77_eq (base : Nat) (v0 : Option Addr) (v0n : Nat) (v1 : Int) (h : AH) : exFun (Et base) (run (Et base)) loopL a77 Try.f77 [(.slice v0 v0n v0n), (.int .i64 v1)] h =
((loopL (B77_0 base) [some (.slice v0 v0n v0n), some (.int .i64 v1), some (.int .i64 (0 : Int))] h).bind fun q1 =>
(if q1.1 = 1 then
((sget q1.2.1 0).bind (getI .i64)).bind fun n2 =>
some ((.int .i64 n2), q1.2.2)
else
(if q1.1 = 2 then
((sget q1.2.1 0).bind (getI .i64)).bind fun n3 =>
some ((.int .i64 n3), q1.2.2)
else
none)) : Option (Value × AH)) := by kernel_rfl
theorem r77 {base : Nat} {v0 : Option Addr} {v0n : Nat} {v1 : Int} {h : AH} {r : Value × AH} (hx :
((loopL (B77_0 base) [some (.slice v0 v0n v0n), some (.int .i64 v1), some (.int .i64 (0 : Int))] h).bind fun q1 =>
(if q1.1 = 1 then
((sget q1.2.1 0).bind (getI .i64)).bind fun n2 =>
some ((.int .i64 n2), q1.2.2)
else
(if q1.1 = 2 then
((sget q1.2.1 0).bind (getI .i64)).bind fun n3 =>
some ((.int .i64 n3), q1.2.2)
else
none))) = some r) : run (Et base) 77 [(.slice v0 v0n v0n), (.int .i64 v1)] h = some r := run_i Try.func77 (by kernel_rfl) ((f77_eq base v0 v0n v1 h).trans hx)
/-! impl.CodeOk (gates 0) -/
noncomputable def B83_0 (base : Nat) : Body := fun l h => lay s83_0 l fun s => exCode (Et base) (run (Et base)) loopL a83_0 (subC [1, 1, 0, 1, 0, 0] (bodyC Try.f83)) s h (keepK s83_0 e83_0)
theorem B83_0_eq (base : Nat) (v0 : Option Addr) (v0n : Nat) (v3 : Int) (v8 : Option Addr) (v8n : Nat) (v9 : Int) (v10 : Int) (h : AH) : B83_0 base [some (.slice v0 v0n v0n), some (.int .i64 v3), some (.slice v8 v8n v8n), some (.int .i64 v9), some (.int .i64 v10)] h =
((if (decide (v10 < v9)) = true then
(if 0 ≤ v10 ∧ v10 < ((v8n : Nat) : Int) then
((v8 : Option Addr)).bind fun a1 =>
((cell h a1.block (a1.off + Int.toNat v10 * 6)).bind (getI .i64)).bind fun n2 =>
((cell h a1.block ((a1.off + Int.toNat v10 * 6) + 1)).bind (getI .i64)).bind fun n3 =>
((cell h a1.block (((a1.off + Int.toNat v10 * 6) + 1) + 1)).bind (getI .i64)).bind fun n4 =>
((cell h a1.block ((((a1.off + Int.toNat v10 * 6) + 1) + 1) + 1)).bind (getI .i64)).bind fun n5 =>
((cell h a1.block (((((a1.off + Int.toNat v10 * 6) + 1) + 1) + 1) + 1)).bind (getI .i64)).bind fun n6 =>
((cell h a1.block ((((((a1.off + Int.toNat v10 * 6) + 1) + 1) + 1) + 1) + 1)).bind getStr).bind fun s7 =>
(some (h ++ [some ⟨[(.int .i64 0), (.int .i64 0), (.int .i64 0), (.int .i64 0), (.int .i64 0), (.string ⟨#[]⟩)], 82⟩])).bind fun h8 =>
(wr base h8 (List.length h) 0 [(.int .i64 n2), (.int .i64 n3), (.int .i64 n4), (.int .i64 n5), (.int .i64 n6), (.string s7)]).bind fun h9 =>
((cell h9 (List.length h) 0).bind (getI .i64)).bind fun n10 =>
((cell h9 (List.length h) 1).bind (getI .i64)).bind fun n11 =>
((cell h9 (List.length h) 2).bind (getI .i64)).bind fun n12 =>
((cell h9 (List.length h) 3).bind (getI .i64)).bind fun n13 =>
((cell h9 (List.length h) 4).bind (getI .i64)).bind fun n14 =>
((cell h9 (List.length h) 5).bind getStr).bind fun s15 =>
(run (Et base) 123 [(.agg #[(.int .i64 n10), (.int .i64 n11), (.int .i64 n12), (.int .i64 n13), (.int .i64 n14), (.string s15)]), (.int .i64 v3)] h9).bind fun r16 =>
((some r16.1).bind getB).bind fun b17 =>
(if (!b17) = true then
some (1, [some (.bool false)], r16.2)
else
some (0, [some (.slice v0 v0n v0n), some (.int .i64 v3), some (.slice v8 v8n v8n), some (.int .i64 v9), some (.int .i64 (IntKind.wrap .i64 (v10 + (1 : Int))))], r16.2))
else none)
else
some (2, [some (.slice v0 v0n v0n), some (.int .i64 v3)], h)) : Option (Nat × Slots × AH)) := by kernel_rfl
theorem f83_eq (base : Nat) (v0 : Option Addr) (v0n : Nat) (h : AH) : exFun (Et base) (run (Et base)) loopL a83 Try.f83 [(.slice v0 v0n v0n)] h =
((loopL (B83_0 base) [some (.slice v0 v0n v0n), some (.int .i64 ((v0n : Nat) : Int)), some (.slice v0 v0n v0n), some (.int .i64 ((v0n : Nat) : Int)), some (.int .i64 (0 : Int))] h).bind fun q1 =>
(if q1.1 = 1 then
((sget q1.2.1 0).bind getB).bind fun b2 =>
some ((.bool b2), q1.2.2)
else
(if q1.1 = 2 then
((sget q1.2.1 0).bind getS).bind fun l3 =>
((sget (q1.2.1.tail) 0).bind (getI .i64)).bind fun n4 =>
(run (Et base) 66 [(.int .i64 n4), (.int .i64 (1 : Int)), (.int .i64 (200 : Int))] q1.2.2).bind fun r5 =>
((some r5.1).bind getB).bind fun b6 =>
(if b6 = true then
(if 0 ≤ (IntKind.wrap .i64 (n4 - (1 : Int))) ∧ (IntKind.wrap .i64 (n4 - (1 : Int))) < ((l3.2 : Nat) : Int) then
((l3.1 : Option Addr)).bind fun a7 =>
((cell r5.2 a7.block ((a7.off + Int.toNat (IntKind.wrap .i64 (n4 - (1 : Int))) * 6) + 0)).bind (getI .i64)).bind fun n8 =>
(if (n8 == (19 : Int)) = true then
some ((.bool true), r5.2)
else
(if 0 ≤ (IntKind.wrap .i64 (n4 - (1 : Int))) ∧ (IntKind.wrap .i64 (n4 - (1 : Int))) < ((l3.2 : Nat) : Int) then
((l3.1 : Option Addr)).bind fun a9 =>
((cell r5.2 a9.block ((a9.off + Int.toNat (IntKind.wrap .i64 (n4 - (1 : Int))) * 6) + 0)).bind (getI .i64)).bind fun n10 =>
some ((.bool (n10 == (12 : Int))), r5.2)
else none))
else none)
else
some ((.bool false), r5.2))
else
none)) : Option (Value × AH)) := by kernel_rfl
theorem r83 {base : Nat} {v0 : Option Addr} {v0n : Nat} {h : AH} {r : Value × AH} (hx :
((loopL (B83_0 base) [some (.slice v0 v0n v0n), some (.int .i64 ((v0n : Nat) : Int)), some (.slice v0 v0n v0n), some (.int .i64 ((v0n : Nat) : Int)), some (.int .i64 (0 : Int))] h).bind fun q1 =>
(if q1.1 = 1 then
((sget q1.2.1 0).bind getB).bind fun b2 =>
some ((.bool b2), q1.2.2)
else
(if q1.1 = 2 then
((sget q1.2.1 0).bind getS).bind fun l3 =>
((sget (q1.2.1.tail) 0).bind (getI .i64)).bind fun n4 =>
(run (Et base) 66 [(.int .i64 n4), (.int .i64 (1 : Int)), (.int .i64 (200 : Int))] q1.2.2).bind fun r5 =>
((some r5.1).bind getB).bind fun b6 =>
(if b6 = true then
(if 0 ≤ (IntKind.wrap .i64 (n4 - (1 : Int))) ∧ (IntKind.wrap .i64 (n4 - (1 : Int))) < ((l3.2 : Nat) : Int) then
((l3.1 : Option Addr)).bind fun a7 =>
((cell r5.2 a7.block ((a7.off + Int.toNat (IntKind.wrap .i64 (n4 - (1 : Int))) * 6) + 0)).bind (getI .i64)).bind fun n8 =>
(if (n8 == (19 : Int)) = true then
some ((.bool true), r5.2)
else
(if 0 ≤ (IntKind.wrap .i64 (n4 - (1 : Int))) ∧ (IntKind.wrap .i64 (n4 - (1 : Int))) < ((l3.2 : Nat) : Int) then
((l3.1 : Option Addr)).bind fun a9 =>
((cell r5.2 a9.block ((a9.off + Int.toNat (IntKind.wrap .i64 (n4 - (1 : Int))) * 6) + 0)).bind (getI .i64)).bind fun n10 =>
some ((.bool (n10 == (12 : Int))), r5.2)
else none))
else none)
else
some ((.bool false), r5.2))
else
none))) = some r) : run (Et base) 83 [(.slice v0 v0n v0n)] h = some r := run_i Try.func83 (by kernel_rfl) ((f83_eq base v0 v0n h).trans hx)
/-! impl.termsOk (gates 0) -/
noncomputable def B84_0 (base : Nat) : Body := fun l h => lay s84_0 l fun s => exCode (Et base) (run (Et base)) loopL a84_0 (subC [1, 0, 1, 0, 0] (bodyC Try.f84)) s h (keepK s84_0 e84_0)
theorem B84_0_eq (base : Nat) (v5 : Option Addr) (v5n : Nat) (v6 : Int) (v7 : Int) (h : AH) : B84_0 base [some (.slice v5 v5n v5n), some (.int .i64 v6), some (.int .i64 v7)] h =
((if (decide (v7 < v6)) = true then
(if 0 ≤ v7 ∧ v7 < ((v5n : Nat) : Int) then
((v5 : Option Addr)).bind fun a1 =>
((cell h a1.block (a1.off + Int.toNat v7 * 4)).bind (getI .i64)).bind fun n2 =>
((cell h a1.block ((a1.off + Int.toNat v7 * 4) + 1)).bind (getI .i64)).bind fun n3 =>
((cell h a1.block (((a1.off + Int.toNat v7 * 4) + 1) + 1)).bind getStr).bind fun s4 =>
((cell h a1.block ((((a1.off + Int.toNat v7 * 4) + 1) + 1) + 1)).bind getS).bind fun l5 =>
(some (h ++ [some ⟨[(.int .i64 0), (.int .i64 0), (.string ⟨#[]⟩), (.slice none 0 0)], 38⟩])).bind fun h6 =>
(wr base h6 (List.length h) 0 [(.int .i64 n2), (.int .i64 n3), (.string s4), (.slice l5.1 l5.2 l5.2)]).bind fun h7 =>
((cell h7 (List.length h) 0).bind (getI .i64)).bind fun n8 =>
((cell h7 (List.length h) 1).bind (getI .i64)).bind fun n9 =>
((cell h7 (List.length h) 2).bind getStr).bind fun s10 =>
((cell h7 (List.length h) 3).bind getS).bind fun l11 =>
(run (Et base) 71 [(.agg #[(.int .i64 n8), (.int .i64 n9), (.string s10), (.slice l11.1 l11.2 l11.2)])] h7).bind fun r12 =>
((some r12.1).bind getB).bind fun b13 =>
(if (!b13) = true then
some (1, [some (.bool false)], r12.2)
else
some (0, [some (.slice v5 v5n v5n), some (.int .i64 v6), some (.int .i64 (IntKind.wrap .i64 (v7 + (1 : Int))))], r12.2))
else none)
else
some (2, [], h)) : Option (Nat × Slots × AH)) := by kernel_rfl
theorem f84_eq (base : Nat) (v0 : Option Addr) (v0n : Nat) (h : AH) : exFun (Et base) (run (Et base)) loopL a84 Try.f84 [(.slice v0 v0n v0n)] h =
((loopL (B84_0 base) [some (.slice v0 v0n v0n), some (.int .i64 ((v0n : Nat) : Int)), some (.int .i64 (0 : Int))] h).bind fun q1 =>
(if q1.1 = 1 then
((sget q1.2.1 0).bind getB).bind fun b2 =>
some ((.bool b2), q1.2.2)
else
(if q1.1 = 2 then
some ((.bool true), q1.2.2)
else
none)) : Option (Value × AH)) := by kernel_rfl
theorem r84 {base : Nat} {v0 : Option Addr} {v0n : Nat} {h : AH} {r : Value × AH} (hx :
((loopL (B84_0 base) [some (.slice v0 v0n v0n), some (.int .i64 ((v0n : Nat) : Int)), some (.int .i64 (0 : Int))] h).bind fun q1 =>
(if q1.1 = 1 then
((sget q1.2.1 0).bind getB).bind fun b2 =>
some ((.bool b2), q1.2.2)
else
(if q1.1 = 2 then
some ((.bool true), q1.2.2)
else
none))) = some r) : run (Et base) 84 [(.slice v0 v0n v0n)] h = some r := run_i Try.func84 (by kernel_rfl) ((f84_eq base v0 v0n h).trans hx)
/-! impl.linksOk (gates 0) -/
noncomputable def B85_0 (base : Nat) : Body := fun l h => lay s85_0 l fun s => exCode (Et base) (run (Et base)) loopL a85_0 (subC [1, 0, 1, 0, 0] (bodyC Try.f85)) s h (keepK s85_0 e85_0)
theorem B85_0_eq (base : Nat) (v0 : Option Addr) (v0n : Nat) (v1 : Int) (v7 : Option Addr) (v7n : Nat) (v8 : Int) (v9 : Int) (h : AH) : B85_0 base [some (.slice v0 v0n v0n), some (.int .i64 v1), some (.slice v7 v7n v7n), some (.int .i64 v8), some (.int .i64 v9)] h =
((if (decide (v9 < v8)) = true then
(if 0 ≤ v9 ∧ v9 < ((v7n : Nat) : Int) then
((v7 : Option Addr)).bind fun a1 =>
((cell h a1.block (a1.off + Int.toNat v9 * 1)).bind (getI .i64)).bind fun n2 =>
((run (Et base) 66 [(.int .i64 n2), (.int .i64 (1 : Int)), (.int .i64 (99999 : Int))] h).bind fun r4 =>
((some r4.1).bind getB).bind fun b5 =>
(if (!b5) = true then
some (.inl ([some (.slice v0 v0n v0n), some (.int .i64 v1), some (.slice v7 v7n v7n), some (.int .i64 v8), some (.int .i64 v9), some (.bool true)], r4.2))
else
(if (n2 == v1) = true then
some (.inl ([some (.slice v0 v0n v0n), some (.int .i64 v1), some (.slice v7 v7n v7n), some (.int .i64 v8), some (.int .i64 v9), some (.bool true)], r4.2))
else
(if (decide (v9 > (0 : Int))) = true then
(if 0 ≤ (IntKind.wrap .i64 (v9 - (1 : Int))) ∧ (IntKind.wrap .i64 (v9 - (1 : Int))) < ((v0n : Nat) : Int) then
((v0 : Option Addr)).bind fun a6 =>
((cell r4.2 a6.block (a6.off + Int.toNat (IntKind.wrap .i64 (v9 - (1 : Int))) * 1)).bind (getI .i64)).bind fun n7 =>
some (.inl ([some (.slice v0 v0n v0n), some (.int .i64 v1), some (.slice v7 v7n v7n), some (.int .i64 v8), some (.int .i64 v9), some (.bool (decide (n7 ≥ n2)))], r4.2))
else none)
else
some (.inl ([some (.slice v0 v0n v0n), some (.int .i64 v1), some (.slice v7 v7n v7n), some (.int .i64 v8), some (.int .i64 v9), some (.bool false)], r4.2)))))).bind fun j3 => joinK j3 fun j3 =>
((sget j3.1 0).bind getS).bind fun l8 =>
((sget (j3.1.tail) 0).bind (getI .i64)).bind fun n9 =>
((sget (j3.1.tail.tail) 0).bind getS).bind fun l10 =>
((sget (j3.1.tail.tail.tail) 0).bind (getI .i64)).bind fun n11 =>
((sget (j3.1.tail.tail.tail.tail) 0).bind (getI .i64)).bind fun n12 =>
((sget (j3.1.tail.tail.tail.tail.tail) 0).bind getB).bind fun b13 =>
(if b13 = true then
some (1, [some (.bool false)], j3.2)
else
some (0, [some (.slice l8.1 l8.2 l8.2), some (.int .i64 n9), some (.slice l10.1 l10.2 l10.2), some (.int .i64 n11), some (.int .i64 (IntKind.wrap .i64 (n12 + (1 : Int))))], j3.2))
else none)
else
some (2, [some (.slice v0 v0n v0n)], h)) : Option (Nat × Slots × AH)) := by kernel_rfl
theorem f85_eq (base : Nat) (v0 : Option Addr) (v0n : Nat) (v1 : Int) (h : AH) : exFun (Et base) (run (Et base)) loopL a85 Try.f85 [(.slice v0 v0n v0n), (.int .i64 v1)] h =
((loopL (B85_0 base) [some (.slice v0 v0n v0n), some (.int .i64 v1), some (.slice v0 v0n v0n), some (.int .i64 ((v0n : Nat) : Int)), some (.int .i64 (0 : Int))] h).bind fun q1 =>
(if q1.1 = 1 then
((sget q1.2.1 0).bind getB).bind fun b2 =>
some ((.bool b2), q1.2.2)
else
(if q1.1 = 2 then
((sget q1.2.1 0).bind getS).bind fun l3 =>
some ((.bool (decide (((l3.2 : Nat) : Int) ≤ (50 : Int)))), q1.2.2)
else
none)) : Option (Value × AH)) := by kernel_rfl
theorem r85 {base : Nat} {v0 : Option Addr} {v0n : Nat} {v1 : Int} {h : AH} {r : Value × AH} (hx :
((loopL (B85_0 base) [some (.slice v0 v0n v0n), some (.int .i64 v1), some (.slice v0 v0n v0n), some (.int .i64 ((v0n : Nat) : Int)), some (.int .i64 (0 : Int))] h).bind fun q1 =>
(if q1.1 = 1 then
((sget q1.2.1 0).bind getB).bind fun b2 =>
some ((.bool b2), q1.2.2)
else
(if q1.1 = 2 then
((sget q1.2.1 0).bind getS).bind fun l3 =>
some ((.bool (decide (((l3.2 : Nat) : Int) ≤ (50 : Int)))), q1.2.2)
else
none))) = some r) : run (Et base) 85 [(.slice v0 v0n v0n), (.int .i64 v1)] h = some r := run_i Try.func85 (by kernel_rfl) ((f85_eq base v0 v0n v1 h).trans hx)
/-! impl.outOk (gates 0) -/
noncomputable def B86_0 (base : Nat) : Body := fun l h => lay s86_0 l fun s => exCode (Et base) (run (Et base)) loopL a86_0 (subC [1, 0, 1, 0, 0] (bodyC Try.f86)) s h (keepK s86_0 e86_0)
theorem B86_0_eq (base : Nat) (v0 : Option Addr) (v0n : Nat) (v5 : Option Addr) (v5n : Nat) (v6 : Int) (v7 : Int) (h : AH) : B86_0 base [some (.slice v0 v0n v0n), some (.slice v5 v5n v5n), some (.int .i64 v6), some (.int .i64 v7)] h =
((if (decide (v7 < v6)) = true then
(if 0 ≤ v7 ∧ v7 < ((v5n : Nat) : Int) then
((v5 : Option Addr)).bind fun a1 =>
((cell h a1.block (a1.off + Int.toNat v7 * 6)).bind (getI .i64)).bind fun n2 =>
((cell h a1.block ((a1.off + Int.toNat v7 * 6) + 1)).bind (getI .i64)).bind fun n3 =>
((cell h a1.block (((a1.off + Int.toNat v7 * 6) + 1) + 1)).bind (getI .i64)).bind fun n4 =>
((cell h a1.block ((((a1.off + Int.toNat v7 * 6) + 1) + 1) + 1)).bind (getI .i64)).bind fun n5 =>
((cell h a1.block (((((a1.off + Int.toNat v7 * 6) + 1) + 1) + 1) + 1)).bind getStr).bind fun s6 =>
((cell h a1.block ((((((a1.off + Int.toNat v7 * 6) + 1) + 1) + 1) + 1) + 1)).bind getS).bind fun l7 =>
(some (h ++ [some ⟨[(.int .i64 0), (.int .i64 0), (.int .i64 0), (.int .i64 0), (.string ⟨#[]⟩), (.slice none 0 0)], 127⟩])).bind fun h8 =>
(wr base h8 (List.length h) 0 [(.int .i64 n2), (.int .i64 n3), (.int .i64 n4), (.int .i64 n5), (.string s6), (.slice l7.1 l7.2 l7.2)]).bind fun h9 =>
(((cell h9 (List.length h) 0).bind (getI .i64)).bind fun n11 =>
(run (Et base) 66 [(.int .i64 n11), (.int .i64 (1 : Int)), (.int .i64 (3 : Int))] h9).bind fun r12 =>
((some r12.1).bind getB).bind fun b13 =>
(if (!b13) = true then
some (.inl ([some (.slice v0 v0n v0n), some (.slice v5 v5n v5n), some (.int .i64 v6), some (.int .i64 v7), some (.bool true)], r12.2))
else
((cell r12.2 (List.length h) 1).bind (getI .i64)).bind fun n14 =>
(run (Et base) 66 [(.int .i64 n14), (.int .i64 (1 : Int)), (.int .i64 (99999 : Int))] r12.2).bind fun r15 =>
((some r15.1).bind getB).bind fun b16 =>
(if (!b16) = true then
some (.inl ([some (.slice v0 v0n v0n), some (.slice v5 v5n v5n), some (.int .i64 v6), some (.int .i64 v7), some (.bool true)], r15.2))
else
((cell r15.2 (List.length h) 2).bind (getI .i64)).bind fun n17 =>
((cell r15.2 (List.length h) 3).bind (getI .i64)).bind fun n18 =>
((cell r15.2 (List.length h) 4).bind getStr).bind fun s19 =>
((cell r15.2 (List.length h) 5).bind getS).bind fun l20 =>
(run (Et base) 71 [(.agg #[(.int .i64 n17), (.int .i64 n18), (.string s19), (.slice l20.1 l20.2 l20.2)])] r15.2).bind fun r21 =>
((some r21.1).bind getB).bind fun b22 =>
some (.inl ([some (.slice v0 v0n v0n), some (.slice v5 v5n v5n), some (.int .i64 v6), some (.int .i64 v7), some (.bool (!b22))], r21.2))))).bind fun j10 => joinK j10 fun j10 =>
((sget j10.1 0).bind getS).bind fun l23 =>
((sget (j10.1.tail) 0).bind getS).bind fun l24 =>
((sget (j10.1.tail.tail) 0).bind (getI .i64)).bind fun n25 =>
((sget (j10.1.tail.tail.tail) 0).bind (getI .i64)).bind fun n26 =>
((sget (j10.1.tail.tail.tail.tail) 0).bind getB).bind fun b27 =>
(if b27 = true then
some (1, [some (.bool false)], j10.2)
else
some (0, [some (.slice l23.1 l23.2 l23.2), some (.slice l24.1 l24.2 l24.2), some (.int .i64 n25), some (.int .i64 (IntKind.wrap .i64 (n26 + (1 : Int))))], j10.2))
else none)
else
some (2, [some (.slice v0 v0n v0n)], h)) : Option (Nat × Slots × AH)) := by kernel_rfl
theorem f86_eq (base : Nat) (v0 : Option Addr) (v0n : Nat) (h : AH) : exFun (Et base) (run (Et base)) loopL a86 Try.f86 [(.slice v0 v0n v0n)] h =
((loopL (B86_0 base) [some (.slice v0 v0n v0n), some (.slice v0 v0n v0n), some (.int .i64 ((v0n : Nat) : Int)), some (.int .i64 (0 : Int))] h).bind fun q1 =>
(if q1.1 = 1 then
((sget q1.2.1 0).bind getB).bind fun b2 =>
some ((.bool b2), q1.2.2)
else
(if q1.1 = 2 then
((sget q1.2.1 0).bind getS).bind fun l3 =>
some ((.bool (decide (((l3.2 : Nat) : Int) ≤ (500 : Int)))), q1.2.2)
else
none)) : Option (Value × AH)) := by kernel_rfl
theorem r86 {base : Nat} {v0 : Option Addr} {v0n : Nat} {h : AH} {r : Value × AH} (hx :
((loopL (B86_0 base) [some (.slice v0 v0n v0n), some (.slice v0 v0n v0n), some (.int .i64 ((v0n : Nat) : Int)), some (.int .i64 (0 : Int))] h).bind fun q1 =>
(if q1.1 = 1 then
((sget q1.2.1 0).bind getB).bind fun b2 =>
some ((.bool b2), q1.2.2)
else
(if q1.1 = 2 then
((sget q1.2.1 0).bind getS).bind fun l3 =>
some ((.bool (decide (((l3.2 : Nat) : Int) ≤ (500 : Int)))), q1.2.2)
else
none))) = some r) : run (Et base) 86 [(.slice v0 v0n v0n)] h = some r := run_i Try.func86 (by kernel_rfl) ((f86_eq base v0 v0n h).trans hx)
/-! impl.Plain).at (gates 0) -/
noncomputable def B87_0 (base : Nat) : Body := fun l h => lay s87_0 l fun s => exCode (Et base) (run (Et base)) loopL a87_0 (subC [1, 0, 1, 0, 0] (bodyC Try.f87)) s h (keepK s87_0 e87_0)
theorem B87_0_eq (base : Nat) (v1 : Int) (v10 : Option Addr) (v10n : Nat) (v11 : Int) (v12 : Int) (h : AH) : B87_0 base [some (.int .i64 v1), some (.slice v10 v10n v10n), some (.int .i64 v11), some (.int .i64 v12)] h =
((if (decide (v12 < v11)) = true then
(if 0 ≤ v12 ∧ v12 < ((v10n : Nat) : Int) then
((v10 : Option Addr)).bind fun a1 =>
((cell h a1.block (a1.off + Int.toNat v12 * 5)).bind (getI .i64)).bind fun n2 =>
((cell h a1.block ((a1.off + Int.toNat v12 * 5) + 1)).bind (getI .i64)).bind fun n3 =>
((cell h a1.block (((a1.off + Int.toNat v12 * 5) + 1) + 1)).bind getS).bind fun l4 =>
((cell h a1.block ((((a1.off + Int.toNat v12 * 5) + 1) + 1) + 1)).bind getS).bind fun l5 =>
((cell h a1.block (((((a1.off + Int.toNat v12 * 5) + 1) + 1) + 1) + 1)).bind getS).bind fun l6 =>
(some (h ++ [some ⟨[(.int .i64 0), (.int .i64 0), (.slice none 0 0), (.slice none 0 0), (.slice none 0 0)], 52⟩])).bind fun h7 =>
(wr base h7 (List.length h) 0 [(.int .i64 n2), (.int .i64 n3), (.slice l4.1 l4.2 l4.2), (.slice l5.1 l5.2 l5.2), (.slice l6.1 l6.2 l6.2)]).bind fun h8 =>
((cell h8 (List.length h) 0).bind (getI .i64)).bind fun n9 =>
(if (n9 == v1) = true then
some (1, [some (.int .i64 v12)], h8)
else
some (0, [some (.int .i64 v1), some (.slice v10 v10n v10n), some (.int .i64 v11), some (.int .i64 (IntKind.wrap .i64 (v12 + (1 : Int))))], h8))
else none)
else
some (2, [], h)) : Option (Nat × Slots × AH)) := by kernel_rfl
theorem f87_eq (base : Nat) (v0 : Option Addr) (v1 : Int) (h : AH) : exFun (Et base) (run (Et base)) loopL a87 Try.f87 [(.pointer v0), (.int .i64 v1)] h =
((v0).bind fun a1 =>
((cell h a1.block (a1.off + 1)).bind getS).bind fun l2 =>
(loopL (B87_0 base) [some (.int .i64 v1), some (.slice l2.1 l2.2 l2.2), some (.int .i64 ((l2.2 : Nat) : Int)), some (.int .i64 (0 : Int))] h).bind fun q3 =>
(if q3.1 = 1 then
((sget q3.2.1 0).bind (getI .i64)).bind fun n4 =>
some ((.int .i64 n4), q3.2.2)
else
(if q3.1 = 2 then
some ((.int .i64 (-1 : Int)), q3.2.2)
else
none)) : Option (Value × AH)) := by kernel_rfl
theorem r87 {base : Nat} {v0 : Option Addr} {v1 : Int} {h : AH} {r : Value × AH} (hx :
((v0).bind fun a1 =>
((cell h a1.block (a1.off + 1)).bind getS).bind fun l2 =>
(loopL (B87_0 base) [some (.int .i64 v1), some (.slice l2.1 l2.2 l2.2), some (.int .i64 ((l2.2 : Nat) : Int)), some (.int .i64 (0 : Int))] h).bind fun q3 =>
(if q3.1 = 1 then
((sget q3.2.1 0).bind (getI .i64)).bind fun n4 =>
some ((.int .i64 n4), q3.2.2)
else
(if q3.1 = 2 then
some ((.int .i64 (-1 : Int)), q3.2.2)
else
none))) = some r) : run (Et base) 87 [(.pointer v0), (.int .i64 v1)] h = some r := run_i Try.func87 (by kernel_rfl) ((f87_eq base v0 v1 h).trans hx)
/-! impl.hasInt (gates 0) -/
noncomputable def B88_0 (base : Nat) : Body := fun l h => lay s88_0 l fun s => exCode (Et base) (run (Et base)) loopL a88_0 (subC [1, 0, 1, 0, 0] (bodyC Try.f88)) s h (keepK s88_0 e88_0)
theorem B88_0_eq (base : Nat) (v1 : Int) (v7 : Option Addr) (v7n : Nat) (v8 : Int) (v9 : Int) (h : AH) : B88_0 base [some (.int .i64 v1), some (.slice v7 v7n v7n), some (.int .i64 v8), some (.int .i64 v9)] h =
((if (decide (v9 < v8)) = true then
(if 0 ≤ v9 ∧ v9 < ((v7n : Nat) : Int) then
((v7 : Option Addr)).bind fun a1 =>
((cell h a1.block (a1.off + Int.toNat v9 * 1)).bind (getI .i64)).bind fun n2 =>
(if (n2 == v1) = true then
some (1, [some (.bool true)], h)
else
some (0, [some (.int .i64 v1), some (.slice v7 v7n v7n), some (.int .i64 v8), some (.int .i64 (IntKind.wrap .i64 (v9 + (1 : Int))))], h))
else none)
else
some (2, [], h)) : Option (Nat × Slots × AH)) := by kernel_rfl
theorem f88_eq (base : Nat) (v0 : Option Addr) (v0n : Nat) (v1 : Int) (h : AH) : exFun (Et base) (run (Et base)) loopL a88 Try.f88 [(.slice v0 v0n v0n), (.int .i64 v1)] h =
((loopL (B88_0 base) [some (.int .i64 v1), some (.slice v0 v0n v0n), some (.int .i64 ((v0n : Nat) : Int)), some (.int .i64 (0 : Int))] h).bind fun q1 =>
(if q1.1 = 1 then
((sget q1.2.1 0).bind getB).bind fun b2 =>
some ((.bool b2), q1.2.2)
else
(if q1.1 = 2 then
some ((.bool false), q1.2.2)
else
none)) : Option (Value × AH)) := by kernel_rfl
theorem r88 {base : Nat} {v0 : Option Addr} {v0n : Nat} {v1 : Int} {h : AH} {r : Value × AH} (hx :
((loopL (B88_0 base) [some (.int .i64 v1), some (.slice v0 v0n v0n), some (.int .i64 ((v0n : Nat) : Int)), some (.int .i64 (0 : Int))] h).bind fun q1 =>
(if q1.1 = 1 then
((sget q1.2.1 0).bind getB).bind fun b2 =>
some ((.bool b2), q1.2.2)
else
(if q1.1 = 2 then
some ((.bool false), q1.2.2)
else
none))) = some r) : run (Et base) 88 [(.slice v0 v0n v0n), (.int .i64 v1)] h = some r := run_i Try.func88 (by kernel_rfl) ((f88_eq base v0 v0n v1 h).trans hx)
/-! spec.CodeOk (gates 0) -/
noncomputable def B89_0 (base : Nat) : Body := fun l h => lay s89_0 l fun s => exCode (Et base) (run (Et base)) loopL a89_0 (subC [1, 1, 1, 0, 1, 0, 0] (bodyC Try.f89)) s h (keepK s89_0 e89_0)
theorem B89_0_eq (base : Nat) (v0 : Option Addr) (v0n : Nat) (v3 : Int) (v4 : Int) (h : AH) : B89_0 base [some (.slice v0 v0n v0n), some (.int .i64 v3), some (.int .i64 v4)] h =
((if (decide (v4 < v3)) = true then
(if 0 ≤ v4 ∧ v4 < ((v0n : Nat) : Int) then
((v0 : Option Addr)).bind fun a1 =>
((cell h a1.block (a1.off + Int.toNat v4 * 6)).bind (getI .i64)).bind fun n2 =>
((cell h a1.block ((a1.off + Int.toNat v4 * 6) + 1)).bind (getI .i64)).bind fun n3 =>
((cell h a1.block (((a1.off + Int.toNat v4 * 6) + 1) + 1)).bind (getI .i64)).bind fun n4 =>
((cell h a1.block ((((a1.off + Int.toNat v4 * 6) + 1) + 1) + 1)).bind (getI .i64)).bind fun n5 =>
((cell h a1.block (((((a1.off + Int.toNat v4 * 6) + 1) + 1) + 1) + 1)).bind (getI .i64)).bind fun n6 =>
((cell h a1.block ((((((a1.off + Int.toNat v4 * 6) + 1) + 1) + 1) + 1) + 1)).bind getStr).bind fun s7 =>
(run (Et base) 124 [(.agg #[(.int .i64 n2), (.int .i64 n3), (.int .i64 n4), (.int .i64 n5), (.int .i64 n6), (.string s7)]), (.int .i64 v3)] h).bind fun r8 =>
((some r8.1).bind getB).bind fun b9 =>
(if (!b9) = true then
some (1, [some (.bool false)], r8.2)
else
some (0, [some (.slice v0 v0n v0n), some (.int .i64 v3), some (.int .i64 (IntKind.wrap .i64 (v4 + (1 : Int))))], r8.2))
else none)
else
some (2, [], h)) : Option (Nat × Slots × AH)) := by kernel_rfl
theorem f89_eq (base : Nat) (v0 : Option Addr) (v0n : Nat) (h : AH) : exFun (Et base) (run (Et base)) loopL a89 Try.f89 [(.slice v0 v0n v0n)] h =
(((run (Et base) 61 [(.int .i64 ((v0n : Nat) : Int)), (.int .i64 (1 : Int)), (.int .i64 (200 : Int))] h).bind fun r2 =>
((some r2.1).bind getB).bind fun b3 =>
(if (!b3) = true then
some (.inl ([some (.slice v0 v0n v0n), some (.int .i64 ((v0n : Nat) : Int)), some (.bool true)], r2.2))
else
(if 0 ≤ (IntKind.wrap .i64 (((v0n : Nat) : Int) - (1 : Int))) ∧ (IntKind.wrap .i64 (((v0n : Nat) : Int) - (1 : Int))) < ((v0n : Nat) : Int) then
((v0 : Option Addr)).bind fun a4 =>
((cell r2.2 a4.block ((a4.off + Int.toNat (IntKind.wrap .i64 (((v0n : Nat) : Int) - (1 : Int))) * 6) + 0)).bind (getI .i64)).bind fun n5 =>
(if (n5 != (19 : Int)) = true then
(if 0 ≤ (IntKind.wrap .i64 (((v0n : Nat) : Int) - (1 : Int))) ∧ (IntKind.wrap .i64 (((v0n : Nat) : Int) - (1 : Int))) < ((v0n : Nat) : Int) then
((v0 : Option Addr)).bind fun a6 =>
((cell r2.2 a6.block ((a6.off + Int.toNat (IntKind.wrap .i64 (((v0n : Nat) : Int) - (1 : Int))) * 6) + 0)).bind (getI .i64)).bind fun n7 =>
some (.inl ([some (.slice v0 v0n v0n), some (.int .i64 ((v0n : Nat) : Int)), some (.bool (n7 != (12 : Int)))], r2.2))
else none)
else
some (.inl ([some (.slice v0 v0n v0n), some (.int .i64 ((v0n : Nat) : Int)), some (.bool false)], r2.2)))
else none))).bind fun j1 => joinK j1 fun j1 =>
((sget j1.1 0).bind getS).bind fun l8 =>
((sget (j1.1.tail) 0).bind (getI .i64)).bind fun n9 =>
((sget (j1.1.tail.tail) 0).bind getB).bind fun b10 =>
(if b10 = true then
some ((.bool false), j1.2)
else
(loopL (B89_0 base) [some (.slice l8.1 l8.2 l8.2), some (.int .i64 n9), some (.int .i64 (0 : Int))] j1.2).bind fun q11 =>
(if q11.1 = 1 then
((sget q11.2.1 0).bind getB).bind fun b12 =>
some ((.bool b12), q11.2.2)
else
(if q11.1 = 2 then
some ((.bool true), q11.2.2)
else
none))) : Option (Value × AH)) := by kernel_rfl
theorem r89 {base : Nat} {v0 : Option Addr} {v0n : Nat} {h : AH} {r : Value × AH} (hx :
(((run (Et base) 61 [(.int .i64 ((v0n : Nat) : Int)), (.int .i64 (1 : Int)), (.int .i64 (200 : Int))] h).bind fun r2 =>
((some r2.1).bind getB).bind fun b3 =>
(if (!b3) = true then
some (.inl ([some (.slice v0 v0n v0n), some (.int .i64 ((v0n : Nat) : Int)), some (.bool true)], r2.2))
else
(if 0 ≤ (IntKind.wrap .i64 (((v0n : Nat) : Int) - (1 : Int))) ∧ (IntKind.wrap .i64 (((v0n : Nat) : Int) - (1 : Int))) < ((v0n : Nat) : Int) then
((v0 : Option Addr)).bind fun a4 =>
((cell r2.2 a4.block ((a4.off + Int.toNat (IntKind.wrap .i64 (((v0n : Nat) : Int) - (1 : Int))) * 6) + 0)).bind (getI .i64)).bind fun n5 =>
(if (n5 != (19 : Int)) = true then
(if 0 ≤ (IntKind.wrap .i64 (((v0n : Nat) : Int) - (1 : Int))) ∧ (IntKind.wrap .i64 (((v0n : Nat) : Int) - (1 : Int))) < ((v0n : Nat) : Int) then
((v0 : Option Addr)).bind fun a6 =>
((cell r2.2 a6.block ((a6.off + Int.toNat (IntKind.wrap .i64 (((v0n : Nat) : Int) - (1 : Int))) * 6) + 0)).bind (getI .i64)).bind fun n7 =>
some (.inl ([some (.slice v0 v0n v0n), some (.int .i64 ((v0n : Nat) : Int)), some (.bool (n7 != (12 : Int)))], r2.2))
else none)
else
some (.inl ([some (.slice v0 v0n v0n), some (.int .i64 ((v0n : Nat) : Int)), some (.bool false)], r2.2)))
else none))).bind fun j1 => joinK j1 fun j1 =>
((sget j1.1 0).bind getS).bind fun l8 =>
((sget (j1.1.tail) 0).bind (getI .i64)).bind fun n9 =>
((sget (j1.1.tail.tail) 0).bind getB).bind fun b10 =>
(if b10 = true then
some ((.bool false), j1.2)
else
(loopL (B89_0 base) [some (.slice l8.1 l8.2 l8.2), some (.int .i64 n9), some (.int .i64 (0 : Int))] j1.2).bind fun q11 =>
(if q11.1 = 1 then
((sget q11.2.1 0).bind getB).bind fun b12 =>
some ((.bool b12), q11.2.2)
else
(if q11.1 = 2 then
some ((.bool true), q11.2.2)
else
none)))) = some r) : run (Et base) 89 [(.slice v0 v0n v0n)] h = some r := run_i Try.func89 (by kernel_rfl) ((f89_eq base v0 v0n h).trans hx)
/-! spec.l11Said (gates 0) -/
noncomputable def B90_0 (base : Nat) : Body := fun l h => lay s90_0 l fun s => exCode (Et base) (run (Et base)) loopL a90_0 (subC [1, 0, 1, 0, 0] (bodyC Try.f90)) s h (keepK s90_0 e90_0)
theorem B90_0_eq (base : Nat) (v0 : Option Addr) (v0n : Nat) (v3 : Int) (h : AH) : B90_0 base [some (.slice v0 v0n v0n), some (.int .i64 v3)] h =
((if (decide (v3 < ((v0n : Nat) : Int))) = true then
((if 0 ≤ v3 ∧ v3 < ((v0n : Nat) : Int) then
((v0 : Option Addr)).bind fun a2 =>
((cell h a2.block ((a2.off + Int.toNat v3 * 6) + 0)).bind (getI .i64)).bind fun n3 =>
(run (Et base) 61 [(.int .i64 n3), (.int .i64 (1 : Int)), (.int .i64 (3 : Int))] h).bind fun r4 =>
((some r4.1).bind getB).bind fun b5 =>
(if (!b5) = true then
some (.inl ([some (.slice v0 v0n v0n), some (.int .i64 v3), some (.bool true)], r4.2))
else
(if 0 ≤ v3 ∧ v3 < ((v0n : Nat) : Int) then
((v0 : Option Addr)).bind fun a6 =>
((cell r4.2 a6.block ((a6.off + Int.toNat v3 * 6) + 1)).bind (getI .i64)).bind fun n7 =>
(run (Et base) 61 [(.int .i64 n7), (.int .i64 (1 : Int)), (.int .i64 (99999 : Int))] r4.2).bind fun r8 =>
((some r8.1).bind getB).bind fun b9 =>
(if (!b9) = true then
some (.inl ([some (.slice v0 v0n v0n), some (.int .i64 v3), some (.bool true)], r8.2))
else
(if 0 ≤ v3 ∧ v3 < ((v0n : Nat) : Int) then
((v0 : Option Addr)).bind fun a10 =>
((cell r8.2 a10.block ((a10.off + Int.toNat v3 * 6) + 2)).bind (getI .i64)).bind fun n11 =>
((cell r8.2 a10.block (((a10.off + Int.toNat v3 * 6) + 2) + 1)).bind (getI .i64)).bind fun n12 =>
((cell r8.2 a10.block ((((a10.off + Int.toNat v3 * 6) + 2) + 1) + 1)).bind getStr).bind fun s13 =>
((cell r8.2 a10.block (((((a10.off + Int.toNat v3 * 6) + 2) + 1) + 1) + 1)).bind getS).bind fun l14 =>
(run (Et base) 95 [(.agg #[(.int .i64 n11), (.int .i64 n12), (.string s13), (.slice l14.1 l14.2 l14.2)])] r8.2).bind fun r15 =>
((some r15.1).bind getB).bind fun b16 =>
some (.inl ([some (.slice v0 v0n v0n), some (.int .i64 v3), some (.bool (!b16))], r15.2))
else none))
else none))
else none)).bind fun j1 => joinK j1 fun j1 =>
((sget j1.1 0).bind getS).bind fun l17 =>
((sget (j1.1.tail) 0).bind (getI .i64)).bind fun n18 =>
((sget (j1.1.tail.tail) 0).bind getB).bind fun b19 =>
(if b19 = true then
some (1, [some (.bool false)], j1.2)
else
some (0, [some (.slice l17.1 l17.2 l17.2), some (.int .i64 (IntKind.wrap .i64 (n18 + (1 : Int))))], j1.2))
else
some (2, [some (.slice v0 v0n v0n)], h)) : Option (Nat × Slots × AH)) := by kernel_rfl
theorem f90_eq (base : Nat) (v0 : Option Addr) (v0n : Nat) (h : AH) : exFun (Et base) (run (Et base)) loopL a90 Try.f90 [(.slice v0 v0n v0n)] h =
((loopL (B90_0 base) [some (.slice v0 v0n v0n), some (.int .i64 (0 : Int))] h).bind fun q1 =>
(if q1.1 = 1 then
((sget q1.2.1 0).bind getB).bind fun b2 =>
some ((.bool b2), q1.2.2)
else
(if q1.1 = 2 then
((sget q1.2.1 0).bind getS).bind fun l3 =>
some ((.bool (decide (((l3.2 : Nat) : Int) ≤ (500 : Int)))), q1.2.2)
else
none)) : Option (Value × AH)) := by kernel_rfl
theorem r90 {base : Nat} {v0 : Option Addr} {v0n : Nat} {h : AH} {r : Value × AH} (hx :
((loopL (B90_0 base) [some (.slice v0 v0n v0n), some (.int .i64 (0 : Int))] h).bind fun q1 =>
(if q1.1 = 1 then
((sget q1.2.1 0).bind getB).bind fun b2 =>
some ((.bool b2), q1.2.2)
else
(if q1.1 = 2 then
((sget q1.2.1 0).bind getS).bind fun l3 =>
some ((.bool (decide (((l3.2 : Nat) : Int) ≤ (500 : Int)))), q1.2.2)
else
none))) = some r) : run (Et base) 90 [(.slice v0 v0n v0n)] h = some r := run_i Try.func90 (by kernel_rfl) ((f90_eq base v0 v0n h).trans hx)
/-! spec.l11Both (gates 0) -/
noncomputable def B91_0 (base : Nat) : Body := fun l h => lay s91_0 l fun s => exCode (Et base) (run (Et base)) loopL a91_0 (subC [1, 1, 0, 1, 0, 0] (bodyC Try.f91)) s h (keepK s91_0 e91_0)
theorem B91_0_eq (base : Nat) (v2 : Addr) (v5 : Addr) (v6 : Int) (h : AH) : B91_0 base [some (.pointer (some v2)), some (.pointer (some v5)), some (.int .i64 v6)] h =
(((cell h v5.block (v5.off + 4)).bind getS).bind fun l1 =>
(if (decide (v6 < ((l1.2 : Nat) : Int))) = true then
((cell h v2.block v2.off).bind getS).bind fun l2 =>
((cell h v2.block (v2.off + 1)).bind getS).bind fun l3 =>
((cell h v2.block ((v2.off + 1) + 1)).bind (getI .i64)).bind fun n4 =>
((cell h v2.block (((v2.off + 1) + 1) + 1)).bind getS).bind fun l5 =>
((cell h v5.block (v5.off + 4)).bind getS).bind fun l6 =>
(if 0 ≤ v6 ∧ v6 < ((l6.2 : Nat) : Int) then
((l6.1 : Option Addr)).bind fun a7 =>
((cell h a7.block (a7.off + Int.toNat v6 * 1)).bind (getI .i64)).bind fun n8 =>
(run (Et base) 125 [(.agg #[(.slice l2.1 l2.2 l2.2), (.slice l3.1 l3.2 l3.2), (.int .i64 n4), (.slice l5.1 l5.2 l5.2)]), (.int .i64 n8)] h).bind fun r9 =>
((some r9.1).bind (getI .i64)).bind fun n10 =>
((if (decide (n10 ≥ (0 : Int))) = true then
((cell r9.2 v2.block (v2.off + 1)).bind getS).bind fun l12 =>
(if 0 ≤ n10 ∧ n10 < ((l12.2 : Nat) : Int) then
((l12.1 : Option Addr)).bind fun a13 =>
((cell r9.2 a13.block ((a13.off + Int.toNat n10 * 5) + 4)).bind getS).bind fun l14 =>
((cell r9.2 v5.block (v5.off + 0)).bind (getI .i64)).bind fun n15 =>
(run (Et base) 126 [(.slice l14.1 l14.2 l14.2), (.int .i64 n15)] r9.2).bind fun r16 =>
((some r16.1).bind getB).bind fun b17 =>
some (.inl ([some (.pointer (some v2)), some (.pointer (some v5)), some (.int .i64 v6), some (.bool (!b17))], r16.2))
else none)
else
some (.inl ([some (.pointer (some v2)), some (.pointer (some v5)), some (.int .i64 v6), some (.bool false)], r9.2)))).bind fun j11 => joinK j11 fun j11 =>
((sget j11.1 0).bind getA).bind fun d18 =>
((sget (j11.1.tail) 0).bind getA).bind fun d19 =>
((sget (j11.1.tail.tail) 0).bind (getI .i64)).bind fun n20 =>
((sget (j11.1.tail.tail.tail) 0).bind getB).bind fun b21 =>
(if b21 = true then
some (1, [some (.bool false)], j11.2)
else
some (0, [some (.pointer (some d18)), some (.pointer (some d19)), some (.int .i64 (IntKind.wrap .i64 (n20 + (1 : Int))))], j11.2))
else none)
else
some (2, [], h)) : Option (Nat × Slots × AH)) := by kernel_rfl
theorem f91_eq (base : Nat) (v0_0 : Option Addr) (v0_0n : Nat) (v0_1 : Option Addr) (v0_1n : Nat) (v0_2 : Int) (v0_3 : Option Addr) (v0_3n : Nat) (v1 : Int) (h : AH) : exFun (Et base) (run (Et base)) loopL a91 Try.f91 [(.agg #[(.slice v0_0 v0_0n v0_0n), (.slice v0_1 v0_1n v0_1n), (.int .i64 v0_2), (.slice v0_3 v0_3n v0_3n)]), (.int .i64 v1)] h =
((some (h ++ [some ⟨[(.slice v0_0 v0_0n v0_0n), (.slice v0_1 v0_1n v0_1n), (.int .i64 v0_2), (.slice v0_3 v0_3n v0_3n)], 32⟩])).bind fun h1 =>
((cell h1 (List.length h) 1).bind getS).bind fun l2 =>
(if 0 ≤ v1 ∧ v1 < ((l2.2 : Nat) : Int) then
((l2.1 : Option Addr)).bind fun a3 =>
((cell h1 a3.block (a3.off + Int.toNat v1 * 5)).bind (getI .i64)).bind fun n4 =>
((cell h1 a3.block ((a3.off + Int.toNat v1 * 5) + 1)).bind (getI .i64)).bind fun n5 =>
((cell h1 a3.block (((a3.off + Int.toNat v1 * 5) + 1) + 1)).bind getS).bind fun l6 =>
((cell h1 a3.block ((((a3.off + Int.toNat v1 * 5) + 1) + 1) + 1)).bind getS).bind fun l7 =>
((cell h1 a3.block (((((a3.off + Int.toNat v1 * 5) + 1) + 1) + 1) + 1)).bind getS).bind fun l8 =>
(some (h1 ++ [some ⟨[(.int .i64 0), (.int .i64 0), (.slice none 0 0), (.slice none 0 0), (.slice none 0 0)], 52⟩])).bind fun h9 =>
(wr base h9 (List.length h1) 0 [(.int .i64 n4), (.int .i64 n5), (.slice l6.1 l6.2 l6.2), (.slice l7.1 l7.2 l7.2), (.slice l8.1 l8.2 l8.2)]).bind fun h10 =>
(loopL (B91_0 base) [some (.pointer (some ⟨(List.length h), 0, none⟩)), some (.pointer (some ⟨(List.length h1), 0, none⟩)), some (.int .i64 (0 : Int))] h10).bind fun q11 =>
(if q11.1 = 1 then
((sget q11.2.1 0).bind getB).bind fun b12 =>
some ((.bool b12), q11.2.2)
else
(if q11.1 = 2 then
some ((.bool true), q11.2.2)
else
none))
else none) : Option (Value × AH)) := by kernel_rfl
theorem r91 {base : Nat} {v0_0 : Option Addr} {v0_0n : Nat} {v0_1 : Option Addr} {v0_1n : Nat} {v0_2 : Int} {v0_3 : Option Addr} {v0_3n : Nat} {v1 : Int} {h : AH} {r : Value × AH} (hx :
((some (h ++ [some ⟨[(.slice v0_0 v0_0n v0_0n), (.slice v0_1 v0_1n v0_1n), (.int .i64 v0_2), (.slice v0_3 v0_3n v0_3n)], 32⟩])).bind fun h1 =>
((cell h1 (List.length h) 1).bind getS).bind fun l2 =>
(if 0 ≤ v1 ∧ v1 < ((l2.2 : Nat) : Int) then
((l2.1 : Option Addr)).bind fun a3 =>
((cell h1 a3.block (a3.off + Int.toNat v1 * 5)).bind (getI .i64)).bind fun n4 =>
((cell h1 a3.block ((a3.off + Int.toNat v1 * 5) + 1)).bind (getI .i64)).bind fun n5 =>
((cell h1 a3.block (((a3.off + Int.toNat v1 * 5) + 1) + 1)).bind getS).bind fun l6 =>
((cell h1 a3.block ((((a3.off + Int.toNat v1 * 5) + 1) + 1) + 1)).bind getS).bind fun l7 =>
((cell h1 a3.block (((((a3.off + Int.toNat v1 * 5) + 1) + 1) + 1) + 1)).bind getS).bind fun l8 =>
(some (h1 ++ [some ⟨[(.int .i64 0), (.int .i64 0), (.slice none 0 0), (.slice none 0 0), (.slice none 0 0)], 52⟩])).bind fun h9 =>
(wr base h9 (List.length h1) 0 [(.int .i64 n4), (.int .i64 n5), (.slice l6.1 l6.2 l6.2), (.slice l7.1 l7.2 l7.2), (.slice l8.1 l8.2 l8.2)]).bind fun h10 =>
(loopL (B91_0 base) [some (.pointer (some ⟨(List.length h), 0, none⟩)), some (.pointer (some ⟨(List.length h1), 0, none⟩)), some (.int .i64 (0 : Int))] h10).bind fun q11 =>
(if q11.1 = 1 then
((sget q11.2.1 0).bind getB).bind fun b12 =>
some ((.bool b12), q11.2.2)
else
(if q11.1 = 2 then
some ((.bool true), q11.2.2)
else
none))
else none)) = some r) : run (Et base) 91 [(.agg #[(.slice v0_0 v0_0n v0_0n), (.slice v0_1 v0_1n v0_1n), (.int .i64 v0_2), (.slice v0_3 v0_3n v0_3n)]), (.int .i64 v1)] h = some r := run_i Try.func91 (by kernel_rfl) ((f91_eq base v0_0 v0_0n v0_1 v0_1n v0_2 v0_3 v0_3n v1 h).trans hx)
/-! spec.TermOk (gates 0) -/
theorem f95_eq (base : Nat) (v0_0 : Int) (v0_1 : Int) (v0_2 : ByteArray) (v0_3 : Option Addr) (v0_3n : Nat) (h : AH) : exFun (Et base) (run (Et base)) loopL a95 Try.f95 [(.agg #[(.int .i64 v0_0), (.int .i64 v0_1), (.string v0_2), (.slice v0_3 v0_3n v0_3n)])] h =
((some (h ++ [some ⟨[(.int .i64 v0_0), (.int .i64 v0_1), (.string v0_2), (.slice v0_3 v0_3n v0_3n)], 38⟩])).bind fun h1 =>
((cell h1 (List.length h) 0).bind (getI .i64)).bind fun n2 =>
((cell h1 (List.length h) 1).bind (getI .i64)).bind fun n3 =>
((cell h1 (List.length h) 2).bind getStr).bind fun s4 =>
((cell h1 (List.length h) 3).bind getS).bind fun l5 =>
(run (Et base) 128 [(.agg #[(.int .i64 n2), (.int .i64 n3), (.string s4), (.slice l5.1 l5.2 l5.2)]), (.int .i64 (6 : Int)), (.int .i64 (100 : Int))] h1).bind fun r6 =>
((some r6.1).bind (getI .i64)).bind fun n7 =>
some ((.bool (decide (n7 ≥ (0 : Int)))), r6.2) : Option (Value × AH)) := by kernel_rfl
theorem r95 {base : Nat} {v0_0 : Int} {v0_1 : Int} {v0_2 : ByteArray} {v0_3 : Option Addr} {v0_3n : Nat} {h : AH} {r : Value × AH} (hx :
((some (h ++ [some ⟨[(.int .i64 v0_0), (.int .i64 v0_1), (.string v0_2), (.slice v0_3 v0_3n v0_3n)], 38⟩])).bind fun h1 =>
((cell h1 (List.length h) 0).bind (getI .i64)).bind fun n2 =>
((cell h1 (List.length h) 1).bind (getI .i64)).bind fun n3 =>
((cell h1 (List.length h) 2).bind getStr).bind fun s4 =>
((cell h1 (List.length h) 3).bind getS).bind fun l5 =>
(run (Et base) 128 [(.agg #[(.int .i64 n2), (.int .i64 n3), (.string s4), (.slice l5.1 l5.2 l5.2)]), (.int .i64 (6 : Int)), (.int .i64 (100 : Int))] h1).bind fun r6 =>
((some r6.1).bind (getI .i64)).bind fun n7 =>
some ((.bool (decide (n7 ≥ (0 : Int)))), r6.2)) = some r) : run (Et base) 95 [(.agg #[(.int .i64 v0_0), (.int .i64 v0_1), (.string v0_2), (.slice v0_3 v0_3n v0_3n)])] h = some r := run_i Try.func95 (by kernel_rfl) ((f95_eq base v0_0 v0_1 v0_2 v0_3 v0_3n h).trans hx)
/-! spec.l1Copy (gates 0) -/
noncomputable def B101_0 (base : Nat) : Body := fun l h => lay s101_0 l fun s => exCode (Et base) (run (Et base)) loopL a101_0 (subC [1, 1, 1, 0, 1, 0, 0] (bodyC Try.f101)) s h (keepK s101_0 e101_0)
theorem B101_0_eq (base : Nat) (v1 : Addr) (v2 : Addr) (v3 : Addr) (v4 : Int) (h : AH) : B101_0 base [some (.pointer (some v1)), some (.pointer (some v2)), some (.pointer (some v3)), some (.int .i64 v4)] h =
(((cell h v1.block (v1.off + 3)).bind getS).bind fun l1 =>
(if (decide (v4 < ((l1.2 : Nat) : Int))) = true then
((cell h v3.block (v3.off + 3)).bind getS).bind fun l2 =>
((cell h v1.block (v1.off + 3)).bind getS).bind fun l3 =>
(if 0 ≤ v4 ∧ v4 < ((l3.2 : Nat) : Int) then
((l3.1 : Option Addr)).bind fun a4 =>
((cell h a4.block (a4.off + Int.toNat v4 * 4)).bind (getI .i64)).bind fun n5 =>
((cell h a4.block ((a4.off + Int.toNat v4 * 4) + 1)).bind (getI .i64)).bind fun n6 =>
((cell h a4.block (((a4.off + Int.toNat v4 * 4) + 1) + 1)).bind getStr).bind fun s7 =>
((cell h a4.block ((((a4.off + Int.toNat v4 * 4) + 1) + 1) + 1)).bind getS).bind fun l8 =>
(run (Et base) 101 [(.agg #[(.int .i64 n5), (.int .i64 n6), (.string s7), (.slice l8.1 l8.2 l8.2)])] h).bind fun r9 =>
((some r9.1).bind (getAgg 4)).bind fun l10 =>
((l10[0]?).bind (getI .i64)).bind fun n11 =>
((l10[1]?).bind (getI .i64)).bind fun n12 =>
((l10[2]?).bind getStr).bind fun s13 =>
((l10[3]?).bind getS).bind fun l14 =>
(gate (sameA h r9.2 (some ⟨v3.block, (v3.off + 3), none⟩) 1)
((gate (neA (some ⟨v3.block, (v3.off + 3), none⟩) (List.length r9.2))
((some (r9.2 ++ [some ⟨[(.int .i64 n11), (.int .i64 n12), (.string s13), (.slice l14.1 l14.2 l14.2)], 38⟩])).bind fun h15 =>
(app base h15 38 4 56 l2.1 l2.2 (rawAt h15 (some ⟨(List.length r9.2), 0, none⟩) (1 * 4)) 1).bind fun p16 =>
((some p16.1).bind getS).bind fun l17 =>
(wr base p16.2 v3.block (v3.off + 3) [(.slice l17.1 l17.2 l17.2)]).bind fun h18 =>
some (0, [some (.pointer (some v1)), some (.pointer (some v2)), some (.pointer (some v3)), some (.int .i64 (IntKind.wrap .i64 (v4 + (1 : Int))))], h18)))))
else none)
else
some (2, [some (.pointer (some v2)), some (.pointer (some v3))], h)) : Option (Nat × Slots × AH)) := by kernel_rfl
theorem f101_eq (base : Nat) (v0_0 : Int) (v0_1 : Int) (v0_2 : ByteArray) (v0_3 : Option Addr) (v0_3n : Nat) (h : AH) : exFun (Et base) (run (Et base)) loopL a101 Try.f101 [(.agg #[(.int .i64 v0_0), (.int .i64 v0_1), (.string v0_2), (.slice v0_3 v0_3n v0_3n)])] h =
((some (h ++ [some ⟨[(.int .i64 v0_0), (.int .i64 v0_1), (.string v0_2), (.slice v0_3 v0_3n v0_3n)], 38⟩])).bind fun h1 =>
(some (h1 ++ [some ⟨[(.int .i64 0), (.int .i64 0), (.string ⟨#[]⟩), (.slice none 0 0)], 38⟩])).bind fun h2 =>
((cell h2 (List.length h) 0).bind (getI .i64)).bind fun n3 =>
((cell h2 (List.length h) 1).bind (getI .i64)).bind fun n4 =>
((cell h2 (List.length h) 2).bind getStr).bind fun s5 =>
((cell h2 (List.length h) 3).bind getS).bind fun l6 =>
(some (h2 ++ [some ⟨[(.int .i64 0), (.int .i64 0), (.string ⟨#[]⟩), (.slice none 0 0)], 38⟩])).bind fun h7 =>
(wr base h7 (List.length h2) 0 [(.int .i64 n3), (.int .i64 n4), (.string s5), (.slice l6.1 l6.2 l6.2)]).bind fun h8 =>
(some (h8 ++ [some ⟨[], 38⟩])).bind fun h9 =>
(wr base h9 (List.length h2) 3 [(.slice (some ⟨(List.length h8), 0, none⟩) 0 0)]).bind fun h10 =>
(loopL (B101_0 base) [some (.pointer (some ⟨(List.length h), 0, none⟩)), some (.pointer (some ⟨(List.length h1), 0, none⟩)), some (.pointer (some ⟨(List.length h2), 0, none⟩)), some (.int .i64 (0 : Int))] h10).bind fun q11 =>
(if q11.1 = 2 then
((sget q11.2.1 0).bind getA).bind fun d12 =>
((sget (q11.2.1.tail) 0).bind getA).bind fun d13 =>
((cell q11.2.2 d13.block d13.off).bind (getI .i64)).bind fun n14 =>
((cell q11.2.2 d13.block (d13.off + 1)).bind (getI .i64)).bind fun n15 =>
((cell q11.2.2 d13.block ((d13.off + 1) + 1)).bind getStr).bind fun s16 =>
((cell q11.2.2 d13.block (((d13.off + 1) + 1) + 1)).bind getS).bind fun l17 =>
(wr base q11.2.2 d12.block d12.off [(.int .i64 n14), (.int .i64 n15), (.string s16), (.slice l17.1 l17.2 l17.2)]).bind fun h18 =>
((cell h18 d12.block d12.off).bind (getI .i64)).bind fun n19 =>
((cell h18 d12.block (d12.off + 1)).bind (getI .i64)).bind fun n20 =>
((cell h18 d12.block ((d12.off + 1) + 1)).bind getStr).bind fun s21 =>
((cell h18 d12.block (((d12.off + 1) + 1) + 1)).bind getS).bind fun l22 =>
some ((.agg #[(.int .i64 n19), (.int .i64 n20), (.string s21), (.slice l22.1 l22.2 l22.2)]), h18)
else
none) : Option (Value × AH)) := by kernel_rfl
theorem r101 {base : Nat} {v0_0 : Int} {v0_1 : Int} {v0_2 : ByteArray} {v0_3 : Option Addr} {v0_3n : Nat} {h : AH} {r : Value × AH} (hx :
((some (h ++ [some ⟨[(.int .i64 v0_0), (.int .i64 v0_1), (.string v0_2), (.slice v0_3 v0_3n v0_3n)], 38⟩])).bind fun h1 =>
(some (h1 ++ [some ⟨[(.int .i64 0), (.int .i64 0), (.string ⟨#[]⟩), (.slice none 0 0)], 38⟩])).bind fun h2 =>
((cell h2 (List.length h) 0).bind (getI .i64)).bind fun n3 =>
((cell h2 (List.length h) 1).bind (getI .i64)).bind fun n4 =>
((cell h2 (List.length h) 2).bind getStr).bind fun s5 =>
((cell h2 (List.length h) 3).bind getS).bind fun l6 =>
(some (h2 ++ [some ⟨[(.int .i64 0), (.int .i64 0), (.string ⟨#[]⟩), (.slice none 0 0)], 38⟩])).bind fun h7 =>
(wr base h7 (List.length h2) 0 [(.int .i64 n3), (.int .i64 n4), (.string s5), (.slice l6.1 l6.2 l6.2)]).bind fun h8 =>
(some (h8 ++ [some ⟨[], 38⟩])).bind fun h9 =>
(wr base h9 (List.length h2) 3 [(.slice (some ⟨(List.length h8), 0, none⟩) 0 0)]).bind fun h10 =>
(loopL (B101_0 base) [some (.pointer (some ⟨(List.length h), 0, none⟩)), some (.pointer (some ⟨(List.length h1), 0, none⟩)), some (.pointer (some ⟨(List.length h2), 0, none⟩)), some (.int .i64 (0 : Int))] h10).bind fun q11 =>
(if q11.1 = 2 then
((sget q11.2.1 0).bind getA).bind fun d12 =>
((sget (q11.2.1.tail) 0).bind getA).bind fun d13 =>
((cell q11.2.2 d13.block d13.off).bind (getI .i64)).bind fun n14 =>
((cell q11.2.2 d13.block (d13.off + 1)).bind (getI .i64)).bind fun n15 =>
((cell q11.2.2 d13.block ((d13.off + 1) + 1)).bind getStr).bind fun s16 =>
((cell q11.2.2 d13.block (((d13.off + 1) + 1) + 1)).bind getS).bind fun l17 =>
(wr base q11.2.2 d12.block d12.off [(.int .i64 n14), (.int .i64 n15), (.string s16), (.slice l17.1 l17.2 l17.2)]).bind fun h18 =>
((cell h18 d12.block d12.off).bind (getI .i64)).bind fun n19 =>
((cell h18 d12.block (d12.off + 1)).bind (getI .i64)).bind fun n20 =>
((cell h18 d12.block ((d12.off + 1) + 1)).bind getStr).bind fun s21 =>
((cell h18 d12.block (((d12.off + 1) + 1) + 1)).bind getS).bind fun l22 =>
some ((.agg #[(.int .i64 n19), (.int .i64 n20), (.string s21), (.slice l22.1 l22.2 l22.2)]), h18)
else
none)) = some r) : run (Et base) 101 [(.agg #[(.int .i64 v0_0), (.int .i64 v0_1), (.string v0_2), (.slice v0_3 v0_3n v0_3n)])] h = some r := run_i Try.func101 (by kernel_rfl) ((f101_eq base v0_0 v0_1 v0_2 v0_3 v0_3n h).trans hx)
/-! spec.l9Int (gates 0) -/
theorem f102_eq (base : Nat) (v0 : Int) (h : AH) : exFun (Et base) (run (Et base)) loopL a102 Try.f102 [(.int .i64 v0)] h =
((some (h ++ [some ⟨[(.int .i64 0), (.int .i64 0), (.string ⟨#[]⟩), (.slice none 0 0)], 38⟩])).bind fun h1 =>
(wr base h1 (List.length h) 0 [(.int .i64 (1 : Int)), (.int .i64 v0), (.string (⟨#[]⟩ : ByteArray)), (.slice none 0 0)]).bind fun h2 =>
((cell h2 (List.length h) 0).bind (getI .i64)).bind fun n3 =>
((cell h2 (List.length h) 1).bind (getI .i64)).bind fun n4 =>
((cell h2 (List.length h) 2).bind getStr).bind fun s5 =>
((cell h2 (List.length h) 3).bind getS).bind fun l6 =>
some ((.agg #[(.int .i64 n3), (.int .i64 n4), (.string s5), (.slice l6.1 l6.2 l6.2)]), h2) : Option (Value × AH)) := by kernel_rfl
theorem r102 {base : Nat} {v0 : Int} {h : AH} {r : Value × AH} (hx :
((some (h ++ [some ⟨[(.int .i64 0), (.int .i64 0), (.string ⟨#[]⟩), (.slice none 0 0)], 38⟩])).bind fun h1 =>
(wr base h1 (List.length h) 0 [(.int .i64 (1 : Int)), (.int .i64 v0), (.string (⟨#[]⟩ : ByteArray)), (.slice none 0 0)]).bind fun h2 =>
((cell h2 (List.length h) 0).bind (getI .i64)).bind fun n3 =>
((cell h2 (List.length h) 1).bind (getI .i64)).bind fun n4 =>
((cell h2 (List.length h) 2).bind getStr).bind fun s5 =>
((cell h2 (List.length h) 3).bind getS).bind fun l6 =>
some ((.agg #[(.int .i64 n3), (.int .i64 n4), (.string s5), (.slice l6.1 l6.2 l6.2)]), h2)) = some r) : run (Et base) 102 [(.int .i64 v0)] h = some r := run_i Try.func102 (by kernel_rfl) ((f102_eq base v0 h).trans hx)
/-! laws.eqSaid (gates 0) -/
theorem f103_eq (base : Nat) (v0_0 : Int) (v0_1 : Int) (v0_2 : Int) (v0_3 : Int) (v0_4 : ByteArray) (v0_5 : Option Addr) (v0_5n : Nat) (v1_0 : Int) (v1_1 : Int) (v1_2 : Int) (v1_3 : Int) (v1_4 : ByteArray) (v1_5 : Option Addr) (v1_5n : Nat) (h : AH) : exFun (Et base) (run (Et base)) loopL a103 Try.f103 [(.agg #[(.int .i64 v0_0), (.int .i64 v0_1), (.int .i64 v0_2), (.int .i64 v0_3), (.string v0_4), (.slice v0_5 v0_5n v0_5n)]), (.agg #[(.int .i64 v1_0), (.int .i64 v1_1), (.int .i64 v1_2), (.int .i64 v1_3), (.string v1_4), (.slice v1_5 v1_5n v1_5n)])] h =
((some (h ++ [some ⟨[(.int .i64 v0_0), (.int .i64 v0_1), (.int .i64 v0_2), (.int .i64 v0_3), (.string v0_4), (.slice v0_5 v0_5n v0_5n)], 127⟩])).bind fun h1 =>
(some (h1 ++ [some ⟨[(.int .i64 v1_0), (.int .i64 v1_1), (.int .i64 v1_2), (.int .i64 v1_3), (.string v1_4), (.slice v1_5 v1_5n v1_5n)], 127⟩])).bind fun h2 =>
((cell h2 (List.length h) 0).bind (getI .i64)).bind fun n3 =>
((cell h2 (List.length h1) 0).bind (getI .i64)).bind fun n4 =>
(if (n3 != n4) = true then
some ((.bool false), h2)
else
((cell h2 (List.length h) 1).bind (getI .i64)).bind fun n5 =>
((cell h2 (List.length h1) 1).bind (getI .i64)).bind fun n6 =>
(if (n5 != n6) = true then
some ((.bool false), h2)
else
((cell h2 (List.length h) 2).bind (getI .i64)).bind fun n7 =>
((cell h2 (List.length h) 3).bind (getI .i64)).bind fun n8 =>
((cell h2 (List.length h) 4).bind getStr).bind fun s9 =>
((cell h2 (List.length h) 5).bind getS).bind fun l10 =>
((cell h2 (List.length h1) 2).bind (getI .i64)).bind fun n11 =>
((cell h2 (List.length h1) 3).bind (getI .i64)).bind fun n12 =>
((cell h2 (List.length h1) 4).bind getStr).bind fun s13 =>
((cell h2 (List.length h1) 5).bind getS).bind fun l14 =>
(run (Et base) 15 [(.agg #[(.int .i64 n7), (.int .i64 n8), (.string s9), (.slice l10.1 l10.2 l10.2)]), (.agg #[(.int .i64 n11), (.int .i64 n12), (.string s13), (.slice l14.1 l14.2 l14.2)])] h2).bind fun r15 =>
((some r15.1).bind getB).bind fun b16 =>
(if (!b16) = true then
some ((.bool false), r15.2)
else
some ((.bool true), r15.2)))) : Option (Value × AH)) := by kernel_rfl
theorem r103 {base : Nat} {v0_0 : Int} {v0_1 : Int} {v0_2 : Int} {v0_3 : Int} {v0_4 : ByteArray} {v0_5 : Option Addr} {v0_5n : Nat} {v1_0 : Int} {v1_1 : Int} {v1_2 : Int} {v1_3 : Int} {v1_4 : ByteArray} {v1_5 : Option Addr} {v1_5n : Nat} {h : AH} {r : Value × AH} (hx :
((some (h ++ [some ⟨[(.int .i64 v0_0), (.int .i64 v0_1), (.int .i64 v0_2), (.int .i64 v0_3), (.string v0_4), (.slice v0_5 v0_5n v0_5n)], 127⟩])).bind fun h1 =>
(some (h1 ++ [some ⟨[(.int .i64 v1_0), (.int .i64 v1_1), (.int .i64 v1_2), (.int .i64 v1_3), (.string v1_4), (.slice v1_5 v1_5n v1_5n)], 127⟩])).bind fun h2 =>
((cell h2 (List.length h) 0).bind (getI .i64)).bind fun n3 =>
((cell h2 (List.length h1) 0).bind (getI .i64)).bind fun n4 =>
(if (n3 != n4) = true then
some ((.bool false), h2)
else
((cell h2 (List.length h) 1).bind (getI .i64)).bind fun n5 =>
((cell h2 (List.length h1) 1).bind (getI .i64)).bind fun n6 =>
(if (n5 != n6) = true then
some ((.bool false), h2)
else
((cell h2 (List.length h) 2).bind (getI .i64)).bind fun n7 =>
((cell h2 (List.length h) 3).bind (getI .i64)).bind fun n8 =>
((cell h2 (List.length h) 4).bind getStr).bind fun s9 =>
((cell h2 (List.length h) 5).bind getS).bind fun l10 =>
((cell h2 (List.length h1) 2).bind (getI .i64)).bind fun n11 =>
((cell h2 (List.length h1) 3).bind (getI .i64)).bind fun n12 =>
((cell h2 (List.length h1) 4).bind getStr).bind fun s13 =>
((cell h2 (List.length h1) 5).bind getS).bind fun l14 =>
(run (Et base) 15 [(.agg #[(.int .i64 n7), (.int .i64 n8), (.string s9), (.slice l10.1 l10.2 l10.2)]), (.agg #[(.int .i64 n11), (.int .i64 n12), (.string s13), (.slice l14.1 l14.2 l14.2)])] h2).bind fun r15 =>
((some r15.1).bind getB).bind fun b16 =>
(if (!b16) = true then
some ((.bool false), r15.2)
else
some ((.bool true), r15.2))))) = some r) : run (Et base) 103 [(.agg #[(.int .i64 v0_0), (.int .i64 v0_1), (.int .i64 v0_2), (.int .i64 v0_3), (.string v0_4), (.slice v0_5 v0_5n v0_5n)]), (.agg #[(.int .i64 v1_0), (.int .i64 v1_1), (.int .i64 v1_2), (.int .i64 v1_3), (.string v1_4), (.slice v1_5 v1_5n v1_5n)])] h = some r := run_i Try.func103 (by kernel_rfl) ((f103_eq base v0_0 v0_1 v0_2 v0_3 v0_4 v0_5 v0_5n v1_0 v1_1 v1_2 v1_3 v1_4 v1_5 v1_5n h).trans hx)
end Go.Proofs.Ytolcnednfbbnnaa.Am
