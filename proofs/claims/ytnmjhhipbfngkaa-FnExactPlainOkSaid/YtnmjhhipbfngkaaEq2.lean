/- What each of these functions comes to on the abstract machine, one equation a function and one a loop.
Conditions: none. -/
import Derived.Test.YtnmjhhipbfngkaaTb
set_option linter.unusedVariables false
set_option maxRecDepth 100000
namespace Go.Proofs.Ytnmjhhipbfngkaa.Am
open Go Go.RowKit
/-! spec.TermOk (gates 0) -/
theorem f63_eq (base : Nat) (v0_0 : Int) (v0_1 : Int) (v0_2 : ByteArray) (v0_3 : Option Addr) (v0_3n : Nat) (h : AH) : exFun (Et base) (run (Et base)) loopL a63 Try.f63 [(.agg #[(.int .i64 v0_0), (.int .i64 v0_1), (.string v0_2), (.slice v0_3 v0_3n v0_3n)])] h =
((some (h ++ [some ⟨[(.int .i64 v0_0), (.int .i64 v0_1), (.string v0_2), (.slice v0_3 v0_3n v0_3n)], 32⟩])).bind fun h1 =>
((cell h1 (List.length h) 0).bind (getI .i64)).bind fun n2 =>
((cell h1 (List.length h) 1).bind (getI .i64)).bind fun n3 =>
((cell h1 (List.length h) 2).bind getStr).bind fun s4 =>
((cell h1 (List.length h) 3).bind getS).bind fun l5 =>
(run (Et base) 117 [(.agg #[(.int .i64 n2), (.int .i64 n3), (.string s4), (.slice l5.1 l5.2 l5.2)]), (.int .i64 (6 : Int)), (.int .i64 (100 : Int))] h1).bind fun r6 =>
((some r6.1).bind (getI .i64)).bind fun n7 =>
some ((.bool (decide (n7 ≥ (0 : Int)))), r6.2) : Option (Value × AH)) := by kernel_rfl
theorem r63 {base : Nat} {v0_0 : Int} {v0_1 : Int} {v0_2 : ByteArray} {v0_3 : Option Addr} {v0_3n : Nat} {h : AH} {r : Value × AH} (hx :
((some (h ++ [some ⟨[(.int .i64 v0_0), (.int .i64 v0_1), (.string v0_2), (.slice v0_3 v0_3n v0_3n)], 32⟩])).bind fun h1 =>
((cell h1 (List.length h) 0).bind (getI .i64)).bind fun n2 =>
((cell h1 (List.length h) 1).bind (getI .i64)).bind fun n3 =>
((cell h1 (List.length h) 2).bind getStr).bind fun s4 =>
((cell h1 (List.length h) 3).bind getS).bind fun l5 =>
(run (Et base) 117 [(.agg #[(.int .i64 n2), (.int .i64 n3), (.string s4), (.slice l5.1 l5.2 l5.2)]), (.int .i64 (6 : Int)), (.int .i64 (100 : Int))] h1).bind fun r6 =>
((some r6.1).bind (getI .i64)).bind fun n7 =>
some ((.bool (decide (n7 ≥ (0 : Int)))), r6.2)) = some r) : run (Et base) 63 [(.agg #[(.int .i64 v0_0), (.int .i64 v0_1), (.string v0_2), (.slice v0_3 v0_3n v0_3n)])] h = some r := run_i Try.func63 (by kernel_rfl) ((f63_eq base v0_0 v0_1 v0_2 v0_3 v0_3n h).trans hx)
/-! laws.toTermS (gates 0) -/
noncomputable def B66_0 (base : Nat) : Body := fun l h => lay s66_0 l fun s => exCode (Et base) (run (Et base)) loopL a66_0 (subC [1, 1, 0, 1, 0, 0] (bodyC Try.f66)) s h (keepK s66_0 e66_0)
theorem B66_0_eq (base : Nat) (v0 : Option Addr) (v0n : Nat) (v3 : Option Addr) (v3n : Nat) (v4 : Int) (h : AH) : B66_0 base [some (.slice v0 v0n v0n), some (.slice v3 v3n v3n), some (.int .i64 v4)] h =
((if (decide (v4 < ((v0n : Nat) : Int))) = true then
(if 0 ≤ v4 ∧ v4 < ((v0n : Nat) : Int) then
((v0 : Option Addr)).bind fun a1 =>
((cell h a1.block (a1.off + Int.toNat v4 * 4)).bind (getI .i64)).bind fun n2 =>
((cell h a1.block ((a1.off + Int.toNat v4 * 4) + 1)).bind (getI .i64)).bind fun n3 =>
((cell h a1.block (((a1.off + Int.toNat v4 * 4) + 1) + 1)).bind getStr).bind fun s4 =>
((cell h a1.block ((((a1.off + Int.toNat v4 * 4) + 1) + 1) + 1)).bind getS).bind fun l5 =>
(run (Et base) 13 [(.agg #[(.int .i64 n2), (.int .i64 n3), (.string s4), (.slice l5.1 l5.2 l5.2)])] h).bind fun r6 =>
((some r6.1).bind (getAgg 4)).bind fun l7 =>
((l7[0]?).bind (getI .i64)).bind fun n8 =>
((l7[1]?).bind (getI .i64)).bind fun n9 =>
((l7[2]?).bind getStr).bind fun s10 =>
((l7[3]?).bind getS).bind fun l11 =>
(if 0 ≤ v4 ∧ v4 < ((v3n : Nat) : Int) then
((v3 : Option Addr)).bind fun a12 =>
(wr base r6.2 a12.block (a12.off + Int.toNat v4 * 4) [(.int .i64 n8), (.int .i64 n9), (.string s10), (.slice l11.1 l11.2 l11.2)]).bind fun h13 =>
some (0, [some (.slice v0 v0n v0n), some (.slice v3 v3n v3n), some (.int .i64 (IntKind.wrap .i64 (v4 + (1 : Int))))], h13)
else none)
else none)
else
some (2, [some (.slice v3 v3n v3n)], h)) : Option (Nat × Slots × AH)) := by kernel_rfl
theorem f66_eq (base : Nat) (v0 : Option Addr) (v0n : Nat) (h : AH) : exFun (Et base) (run (Et base)) loopL a66 Try.f66 [(.slice v0 v0n v0n)] h =
((if ((v0n : Nat) : Int) = ((v0n : Nat) : Int) ∧ 0 ≤ ((v0n : Nat) : Int) ∧ ((v0n : Nat) : Int) * 56 ≤ 140737488355328 ∧ ((v0n : Nat) : Int) ≤ 140737488355328 then
(some (h ++ [some ⟨rep [(.int .i64 0), (.int .i64 0), (.string ⟨#[]⟩), (.slice none 0 0)] (Int.toNat ((v0n : Nat) : Int)), 32⟩])).bind fun h1 =>
(loopL (B66_0 base) [some (.slice v0 v0n v0n), some (.slice (some ⟨(List.length h), 0, none⟩) (Int.toNat ((v0n : Nat) : Int)) (Int.toNat ((v0n : Nat) : Int))), some (.int .i64 (0 : Int))] h1).bind fun q2 =>
(if q2.1 = 2 then
((sget q2.2.1 0).bind getS).bind fun l3 =>
some ((.slice l3.1 l3.2 l3.2), q2.2.2)
else
none)
else none) : Option (Value × AH)) := by kernel_rfl
theorem r66 {base : Nat} {v0 : Option Addr} {v0n : Nat} {h : AH} {r : Value × AH} (hx :
((if ((v0n : Nat) : Int) = ((v0n : Nat) : Int) ∧ 0 ≤ ((v0n : Nat) : Int) ∧ ((v0n : Nat) : Int) * 56 ≤ 140737488355328 ∧ ((v0n : Nat) : Int) ≤ 140737488355328 then
(some (h ++ [some ⟨rep [(.int .i64 0), (.int .i64 0), (.string ⟨#[]⟩), (.slice none 0 0)] (Int.toNat ((v0n : Nat) : Int)), 32⟩])).bind fun h1 =>
(loopL (B66_0 base) [some (.slice v0 v0n v0n), some (.slice (some ⟨(List.length h), 0, none⟩) (Int.toNat ((v0n : Nat) : Int)) (Int.toNat ((v0n : Nat) : Int))), some (.int .i64 (0 : Int))] h1).bind fun q2 =>
(if q2.1 = 2 then
((sget q2.2.1 0).bind getS).bind fun l3 =>
some ((.slice l3.1 l3.2 l3.2), q2.2.2)
else
none)
else none)) = some r) : run (Et base) 66 [(.slice v0 v0n v0n)] h = some r := run_i Try.func66 (by kernel_rfl) ((f66_eq base v0 v0n h).trans hx)
/-! impl.in (gates 0) -/
theorem f67_eq (base : Nat) (v0 : Int) (v1 : Int) (v2 : Int) (h : AH) : exFun (Et base) (run (Et base)) loopL a67 Try.f67 [(.int .i64 v0), (.int .i64 v1), (.int .i64 v2)] h =
((if (decide (v0 ≥ v1)) = true then
some ((.bool (decide (v0 ≤ v2))), h)
else
some ((.bool false), h)) : Option (Value × AH)) := by kernel_rfl
theorem r67 {base : Nat} {v0 : Int} {v1 : Int} {v2 : Int} {h : AH} {r : Value × AH} (hx :
((if (decide (v0 ≥ v1)) = true then
some ((.bool (decide (v0 ≤ v2))), h)
else
some ((.bool false), h))) = some r) : run (Et base) 67 [(.int .i64 v0), (.int .i64 v1), (.int .i64 v2)] h = some r := run_i Try.func67 (by kernel_rfl) ((f67_eq base v0 v1 v2 h).trans hx)
/-! impl.TermOk (gates 0) -/
theorem f68_eq (base : Nat) (v0_0 : Int) (v0_1 : Int) (v0_2 : ByteArray) (v0_3 : Option Addr) (v0_3n : Nat) (h : AH) : exFun (Et base) (run (Et base)) loopL a68 Try.f68 [(.agg #[(.int .i64 v0_0), (.int .i64 v0_1), (.string v0_2), (.slice v0_3 v0_3n v0_3n)])] h =
((some (h ++ [some ⟨[(.int .i64 v0_0), (.int .i64 v0_1), (.string v0_2), (.slice v0_3 v0_3n v0_3n)], 32⟩])).bind fun h1 =>
((cell h1 (List.length h) 0).bind (getI .i64)).bind fun n2 =>
((cell h1 (List.length h) 1).bind (getI .i64)).bind fun n3 =>
((cell h1 (List.length h) 2).bind getStr).bind fun s4 =>
((cell h1 (List.length h) 3).bind getS).bind fun l5 =>
(run (Et base) 118 [(.agg #[(.int .i64 n2), (.int .i64 n3), (.string s4), (.slice l5.1 l5.2 l5.2)]), (.int .i64 (1 : Int)), (.int .i64 (0 : Int))] h1).bind fun r6 =>
(getTup 2 r6.1).bind fun l7 =>
((l7[0]?).bind (getI .i64)).bind fun n8 =>
((l7[1]?).bind getB).bind fun b9 =>
some ((.bool b9), r6.2) : Option (Value × AH)) := by kernel_rfl
theorem r68 {base : Nat} {v0_0 : Int} {v0_1 : Int} {v0_2 : ByteArray} {v0_3 : Option Addr} {v0_3n : Nat} {h : AH} {r : Value × AH} (hx :
((some (h ++ [some ⟨[(.int .i64 v0_0), (.int .i64 v0_1), (.string v0_2), (.slice v0_3 v0_3n v0_3n)], 32⟩])).bind fun h1 =>
((cell h1 (List.length h) 0).bind (getI .i64)).bind fun n2 =>
((cell h1 (List.length h) 1).bind (getI .i64)).bind fun n3 =>
((cell h1 (List.length h) 2).bind getStr).bind fun s4 =>
((cell h1 (List.length h) 3).bind getS).bind fun l5 =>
(run (Et base) 118 [(.agg #[(.int .i64 n2), (.int .i64 n3), (.string s4), (.slice l5.1 l5.2 l5.2)]), (.int .i64 (1 : Int)), (.int .i64 (0 : Int))] h1).bind fun r6 =>
(getTup 2 r6.1).bind fun l7 =>
((l7[0]?).bind (getI .i64)).bind fun n8 =>
((l7[1]?).bind getB).bind fun b9 =>
some ((.bool b9), r6.2)) = some r) : run (Et base) 68 [(.agg #[(.int .i64 v0_0), (.int .i64 v0_1), (.string v0_2), (.slice v0_3 v0_3n v0_3n)])] h = some r := run_i Try.func68 (by kernel_rfl) ((f68_eq base v0_0 v0_1 v0_2 v0_3 v0_3n h).trans hx)
/-! laws.eqTermS (gates 0) -/
noncomputable def B70_0 (base : Nat) : Body := fun l h => lay s70_0 l fun s => exCode (Et base) (run (Et base)) loopL a70_0 (subC [1, 1, 0, 1, 0, 0] (bodyC Try.f70)) s h (keepK s70_0 e70_0)
theorem B70_0_eq (base : Nat) (v0 : Option Addr) (v0n : Nat) (v1 : Option Addr) (v1n : Nat) (v5 : Int) (h : AH) : B70_0 base [some (.slice v0 v0n v0n), some (.slice v1 v1n v1n), some (.int .i64 v5)] h =
((if (decide (v5 < ((v0n : Nat) : Int))) = true then
(if 0 ≤ v5 ∧ v5 < ((v0n : Nat) : Int) then
((v0 : Option Addr)).bind fun a1 =>
((cell h a1.block (a1.off + Int.toNat v5 * 4)).bind (getI .i64)).bind fun n2 =>
((cell h a1.block ((a1.off + Int.toNat v5 * 4) + 1)).bind (getI .i64)).bind fun n3 =>
((cell h a1.block (((a1.off + Int.toNat v5 * 4) + 1) + 1)).bind getStr).bind fun s4 =>
((cell h a1.block ((((a1.off + Int.toNat v5 * 4) + 1) + 1) + 1)).bind getS).bind fun l5 =>
(if 0 ≤ v5 ∧ v5 < ((v1n : Nat) : Int) then
((v1 : Option Addr)).bind fun a6 =>
((cell h a6.block (a6.off + Int.toNat v5 * 4)).bind (getI .i64)).bind fun n7 =>
((cell h a6.block ((a6.off + Int.toNat v5 * 4) + 1)).bind (getI .i64)).bind fun n8 =>
((cell h a6.block (((a6.off + Int.toNat v5 * 4) + 1) + 1)).bind getStr).bind fun s9 =>
((cell h a6.block ((((a6.off + Int.toNat v5 * 4) + 1) + 1) + 1)).bind getS).bind fun l10 =>
(run (Et base) 16 [(.agg #[(.int .i64 n2), (.int .i64 n3), (.string s4), (.slice l5.1 l5.2 l5.2)]), (.agg #[(.int .i64 n7), (.int .i64 n8), (.string s9), (.slice l10.1 l10.2 l10.2)])] h).bind fun r11 =>
((some r11.1).bind getB).bind fun b12 =>
(if (!b12) = true then
some (1, [some (.bool false)], r11.2)
else
some (0, [some (.slice v0 v0n v0n), some (.slice v1 v1n v1n), some (.int .i64 (IntKind.wrap .i64 (v5 + (1 : Int))))], r11.2))
else none)
else none)
else
some (2, [], h)) : Option (Nat × Slots × AH)) := by kernel_rfl
theorem f70_eq (base : Nat) (v0 : Option Addr) (v0n : Nat) (v1 : Option Addr) (v1n : Nat) (h : AH) : exFun (Et base) (run (Et base)) loopL a70 Try.f70 [(.slice v0 v0n v0n), (.slice v1 v1n v1n)] h =
((if (((v0n : Nat) : Int) != ((v1n : Nat) : Int)) = true then
some ((.bool false), h)
else
(loopL (B70_0 base) [some (.slice v0 v0n v0n), some (.slice v1 v1n v1n), some (.int .i64 (0 : Int))] h).bind fun q1 =>
(if q1.1 = 1 then
((sget q1.2.1 0).bind getB).bind fun b2 =>
some ((.bool b2), q1.2.2)
else
(if q1.1 = 2 then
some ((.bool true), q1.2.2)
else
none))) : Option (Value × AH)) := by kernel_rfl
theorem r70 {base : Nat} {v0 : Option Addr} {v0n : Nat} {v1 : Option Addr} {v1n : Nat} {h : AH} {r : Value × AH} (hx :
((if (((v0n : Nat) : Int) != ((v1n : Nat) : Int)) = true then
some ((.bool false), h)
else
(loopL (B70_0 base) [some (.slice v0 v0n v0n), some (.slice v1 v1n v1n), some (.int .i64 (0 : Int))] h).bind fun q1 =>
(if q1.1 = 1 then
((sget q1.2.1 0).bind getB).bind fun b2 =>
some ((.bool b2), q1.2.2)
else
(if q1.1 = 2 then
some ((.bool true), q1.2.2)
else
none)))) = some r) : run (Et base) 70 [(.slice v0 v0n v0n), (.slice v1 v1n v1n)] h = some r := run_i Try.func70 (by kernel_rfl) ((f70_eq base v0 v0n v1 v1n h).trans hx)
/-! laws.eqIntS (gates 0) -/
noncomputable def B71_0 (base : Nat) : Body := fun l h => lay s71_0 l fun s => exCode (Et base) (run (Et base)) loopL a71_0 (subC [1, 1, 0, 1, 0, 0] (bodyC Try.f71)) s h (keepK s71_0 e71_0)
theorem B71_0_eq (base : Nat) (v0 : Option Addr) (v0n : Nat) (v1 : Option Addr) (v1n : Nat) (v5 : Int) (h : AH) : B71_0 base [some (.slice v0 v0n v0n), some (.slice v1 v1n v1n), some (.int .i64 v5)] h =
((if (decide (v5 < ((v0n : Nat) : Int))) = true then
(if 0 ≤ v5 ∧ v5 < ((v0n : Nat) : Int) then
((v0 : Option Addr)).bind fun a1 =>
((cell h a1.block (a1.off + Int.toNat v5 * 1)).bind (getI .i64)).bind fun n2 =>
(if 0 ≤ v5 ∧ v5 < ((v1n : Nat) : Int) then
((v1 : Option Addr)).bind fun a3 =>
((cell h a3.block (a3.off + Int.toNat v5 * 1)).bind (getI .i64)).bind fun n4 =>
(if (n2 != n4) = true then
some (1, [some (.bool false)], h)
else
some (0, [some (.slice v0 v0n v0n), some (.slice v1 v1n v1n), some (.int .i64 (IntKind.wrap .i64 (v5 + (1 : Int))))], h))
else none)
else none)
else
some (2, [], h)) : Option (Nat × Slots × AH)) := by kernel_rfl
theorem f71_eq (base : Nat) (v0 : Option Addr) (v0n : Nat) (v1 : Option Addr) (v1n : Nat) (h : AH) : exFun (Et base) (run (Et base)) loopL a71 Try.f71 [(.slice v0 v0n v0n), (.slice v1 v1n v1n)] h =
((if (((v0n : Nat) : Int) != ((v1n : Nat) : Int)) = true then
some ((.bool false), h)
else
(loopL (B71_0 base) [some (.slice v0 v0n v0n), some (.slice v1 v1n v1n), some (.int .i64 (0 : Int))] h).bind fun q1 =>
(if q1.1 = 1 then
((sget q1.2.1 0).bind getB).bind fun b2 =>
some ((.bool b2), q1.2.2)
else
(if q1.1 = 2 then
some ((.bool true), q1.2.2)
else
none))) : Option (Value × AH)) := by kernel_rfl
theorem r71 {base : Nat} {v0 : Option Addr} {v0n : Nat} {v1 : Option Addr} {v1n : Nat} {h : AH} {r : Value × AH} (hx :
((if (((v0n : Nat) : Int) != ((v1n : Nat) : Int)) = true then
some ((.bool false), h)
else
(loopL (B71_0 base) [some (.slice v0 v0n v0n), some (.slice v1 v1n v1n), some (.int .i64 (0 : Int))] h).bind fun q1 =>
(if q1.1 = 1 then
((sget q1.2.1 0).bind getB).bind fun b2 =>
some ((.bool b2), q1.2.2)
else
(if q1.1 = 2 then
some ((.bool true), q1.2.2)
else
none)))) = some r) : run (Et base) 71 [(.slice v0 v0n v0n), (.slice v1 v1n v1n)] h = some r := run_i Try.func71 (by kernel_rfl) ((f71_eq base v0 v0n v1 v1n h).trans hx)
/-! laws.szIns (gates 0) -/
theorem f76_eq (base : Nat) (v0_0 : Int) (v0_1 : Int) (v0_2 : Int) (v0_3 : Int) (v0_4 : Int) (v0_5 : ByteArray) (v1 : Int) (h : AH) : exFun (Et base) (run (Et base)) loopL a76 Try.f76 [(.agg #[(.int .i64 v0_0), (.int .i64 v0_1), (.int .i64 v0_2), (.int .i64 v0_3), (.int .i64 v0_4), (.string v0_5)]), (.int .i64 v1)] h =
((some (h ++ [some ⟨[(.int .i64 v0_0), (.int .i64 v0_1), (.int .i64 v0_2), (.int .i64 v0_3), (.int .i64 v0_4), (.string v0_5)], 113⟩])).bind fun h1 =>
((cell h1 (List.length h) 5).bind getStr).bind fun s2 =>
(if (decide ((IntKind.wrap .i64 (v1 - (s2.size : Int))) < (0 : Int))) = true then
some ((.int .i64 (-1 : Int)), h1)
else
some ((.int .i64 (IntKind.wrap .i64 (v1 - (s2.size : Int)))), h1)) : Option (Value × AH)) := by kernel_rfl
theorem r76 {base : Nat} {v0_0 : Int} {v0_1 : Int} {v0_2 : Int} {v0_3 : Int} {v0_4 : Int} {v0_5 : ByteArray} {v1 : Int} {h : AH} {r : Value × AH} (hx :
((some (h ++ [some ⟨[(.int .i64 v0_0), (.int .i64 v0_1), (.int .i64 v0_2), (.int .i64 v0_3), (.int .i64 v0_4), (.string v0_5)], 113⟩])).bind fun h1 =>
((cell h1 (List.length h) 5).bind getStr).bind fun s2 =>
(if (decide ((IntKind.wrap .i64 (v1 - (s2.size : Int))) < (0 : Int))) = true then
some ((.int .i64 (-1 : Int)), h1)
else
some ((.int .i64 (IntKind.wrap .i64 (v1 - (s2.size : Int)))), h1))) = some r) : run (Et base) 76 [(.agg #[(.int .i64 v0_0), (.int .i64 v0_1), (.int .i64 v0_2), (.int .i64 v0_3), (.int .i64 v0_4), (.string v0_5)]), (.int .i64 v1)] h = some r := run_i Try.func76 (by kernel_rfl) ((f76_eq base v0_0 v0_1 v0_2 v0_3 v0_4 v0_5 v1 h).trans hx)
/-! spec.CodeOk (gates 0) -/
noncomputable def B77_0 (base : Nat) : Body := fun l h => lay s77_0 l fun s => exCode (Et base) (run (Et base)) loopL a77_0 (subC [1, 1, 1, 0, 1, 0, 0] (bodyC Try.f77)) s h (keepK s77_0 e77_0)
theorem B77_0_eq (base : Nat) (v0 : Option Addr) (v0n : Nat) (v3 : Int) (v4 : Int) (h : AH) : B77_0 base [some (.slice v0 v0n v0n), some (.int .i64 v3), some (.int .i64 v4)] h =
((if (decide (v4 < v3)) = true then
(if 0 ≤ v4 ∧ v4 < ((v0n : Nat) : Int) then
((v0 : Option Addr)).bind fun a1 =>
((cell h a1.block (a1.off + Int.toNat v4 * 6)).bind (getI .i64)).bind fun n2 =>
((cell h a1.block ((a1.off + Int.toNat v4 * 6) + 1)).bind (getI .i64)).bind fun n3 =>
((cell h a1.block (((a1.off + Int.toNat v4 * 6) + 1) + 1)).bind (getI .i64)).bind fun n4 =>
((cell h a1.block ((((a1.off + Int.toNat v4 * 6) + 1) + 1) + 1)).bind (getI .i64)).bind fun n5 =>
((cell h a1.block (((((a1.off + Int.toNat v4 * 6) + 1) + 1) + 1) + 1)).bind (getI .i64)).bind fun n6 =>
((cell h a1.block ((((((a1.off + Int.toNat v4 * 6) + 1) + 1) + 1) + 1) + 1)).bind getStr).bind fun s7 =>
(run (Et base) 120 [(.agg #[(.int .i64 n2), (.int .i64 n3), (.int .i64 n4), (.int .i64 n5), (.int .i64 n6), (.string s7)]), (.int .i64 v3)] h).bind fun r8 =>
((some r8.1).bind getB).bind fun b9 =>
(if (!b9) = true then
some (1, [some (.bool false)], r8.2)
else
some (0, [some (.slice v0 v0n v0n), some (.int .i64 v3), some (.int .i64 (IntKind.wrap .i64 (v4 + (1 : Int))))], r8.2))
else none)
else
some (2, [], h)) : Option (Nat × Slots × AH)) := by kernel_rfl
theorem f77_eq (base : Nat) (v0 : Option Addr) (v0n : Nat) (h : AH) : exFun (Et base) (run (Et base)) loopL a77 Try.f77 [(.slice v0 v0n v0n)] h =
(((run (Et base) 62 [(.int .i64 ((v0n : Nat) : Int)), (.int .i64 (1 : Int)), (.int .i64 (200 : Int))] h).bind fun r2 =>
((some r2.1).bind getB).bind fun b3 =>
(if (!b3) = true then
some (.inl ([some (.slice v0 v0n v0n), some (.int .i64 ((v0n : Nat) : Int)), some (.bool true)], r2.2))
else
(if 0 ≤ (IntKind.wrap .i64 (((v0n : Nat) : Int) - (1 : Int))) ∧ (IntKind.wrap .i64 (((v0n : Nat) : Int) - (1 : Int))) < ((v0n : Nat) : Int) then
((v0 : Option Addr)).bind fun a4 =>
((cell r2.2 a4.block ((a4.off + Int.toNat (IntKind.wrap .i64 (((v0n : Nat) : Int) - (1 : Int))) * 6) + 0)).bind (getI .i64)).bind fun n5 =>
(if (n5 != (19 : Int)) = true then
(if 0 ≤ (IntKind.wrap .i64 (((v0n : Nat) : Int) - (1 : Int))) ∧ (IntKind.wrap .i64 (((v0n : Nat) : Int) - (1 : Int))) < ((v0n : Nat) : Int) then
((v0 : Option Addr)).bind fun a6 =>
((cell r2.2 a6.block ((a6.off + Int.toNat (IntKind.wrap .i64 (((v0n : Nat) : Int) - (1 : Int))) * 6) + 0)).bind (getI .i64)).bind fun n7 =>
some (.inl ([some (.slice v0 v0n v0n), some (.int .i64 ((v0n : Nat) : Int)), some (.bool (n7 != (12 : Int)))], r2.2))
else none)
else
some (.inl ([some (.slice v0 v0n v0n), some (.int .i64 ((v0n : Nat) : Int)), some (.bool false)], r2.2)))
else none))).bind fun j1 => joinK j1 fun j1 =>
((sget j1.1 0).bind getS).bind fun l8 =>
((sget (j1.1.tail) 0).bind (getI .i64)).bind fun n9 =>
((sget (j1.1.tail.tail) 0).bind getB).bind fun b10 =>
(if b10 = true then
some ((.bool false), j1.2)
else
(loopL (B77_0 base) [some (.slice l8.1 l8.2 l8.2), some (.int .i64 n9), some (.int .i64 (0 : Int))] j1.2).bind fun q11 =>
(if q11.1 = 1 then
((sget q11.2.1 0).bind getB).bind fun b12 =>
some ((.bool b12), q11.2.2)
else
(if q11.1 = 2 then
some ((.bool true), q11.2.2)
else
none))) : Option (Value × AH)) := by kernel_rfl
theorem r77 {base : Nat} {v0 : Option Addr} {v0n : Nat} {h : AH} {r : Value × AH} (hx :
(((run (Et base) 62 [(.int .i64 ((v0n : Nat) : Int)), (.int .i64 (1 : Int)), (.int .i64 (200 : Int))] h).bind fun r2 =>
((some r2.1).bind getB).bind fun b3 =>
(if (!b3) = true then
some (.inl ([some (.slice v0 v0n v0n), some (.int .i64 ((v0n : Nat) : Int)), some (.bool true)], r2.2))
else
(if 0 ≤ (IntKind.wrap .i64 (((v0n : Nat) : Int) - (1 : Int))) ∧ (IntKind.wrap .i64 (((v0n : Nat) : Int) - (1 : Int))) < ((v0n : Nat) : Int) then
((v0 : Option Addr)).bind fun a4 =>
((cell r2.2 a4.block ((a4.off + Int.toNat (IntKind.wrap .i64 (((v0n : Nat) : Int) - (1 : Int))) * 6) + 0)).bind (getI .i64)).bind fun n5 =>
(if (n5 != (19 : Int)) = true then
(if 0 ≤ (IntKind.wrap .i64 (((v0n : Nat) : Int) - (1 : Int))) ∧ (IntKind.wrap .i64 (((v0n : Nat) : Int) - (1 : Int))) < ((v0n : Nat) : Int) then
((v0 : Option Addr)).bind fun a6 =>
((cell r2.2 a6.block ((a6.off + Int.toNat (IntKind.wrap .i64 (((v0n : Nat) : Int) - (1 : Int))) * 6) + 0)).bind (getI .i64)).bind fun n7 =>
some (.inl ([some (.slice v0 v0n v0n), some (.int .i64 ((v0n : Nat) : Int)), some (.bool (n7 != (12 : Int)))], r2.2))
else none)
else
some (.inl ([some (.slice v0 v0n v0n), some (.int .i64 ((v0n : Nat) : Int)), some (.bool false)], r2.2)))
else none))).bind fun j1 => joinK j1 fun j1 =>
((sget j1.1 0).bind getS).bind fun l8 =>
((sget (j1.1.tail) 0).bind (getI .i64)).bind fun n9 =>
((sget (j1.1.tail.tail) 0).bind getB).bind fun b10 =>
(if b10 = true then
some ((.bool false), j1.2)
else
(loopL (B77_0 base) [some (.slice l8.1 l8.2 l8.2), some (.int .i64 n9), some (.int .i64 (0 : Int))] j1.2).bind fun q11 =>
(if q11.1 = 1 then
((sget q11.2.1 0).bind getB).bind fun b12 =>
some ((.bool b12), q11.2.2)
else
(if q11.1 = 2 then
some ((.bool true), q11.2.2)
else
none)))) = some r) : run (Et base) 77 [(.slice v0 v0n v0n)] h = some r := run_i Try.func77 (by kernel_rfl) ((f77_eq base v0 v0n h).trans hx)
/-! laws.toIns (gates 0) -/
theorem f79_eq (base : Nat) (v0_0 : Int) (v0_1 : Int) (v0_2 : Int) (v0_3 : Int) (v0_4 : Int) (v0_5 : ByteArray) (h : AH) : exFun (Et base) (run (Et base)) loopL a79 Try.f79 [(.agg #[(.int .i64 v0_0), (.int .i64 v0_1), (.int .i64 v0_2), (.int .i64 v0_3), (.int .i64 v0_4), (.string v0_5)])] h =
((some (h ++ [some ⟨[(.int .i64 v0_0), (.int .i64 v0_1), (.int .i64 v0_2), (.int .i64 v0_3), (.int .i64 v0_4), (.string v0_5)], 113⟩])).bind fun h1 =>
(some (h1 ++ [some ⟨[(.int .i64 0), (.int .i64 0), (.int .i64 0), (.int .i64 0), (.int .i64 0), (.string ⟨#[]⟩)], 116⟩])).bind fun h2 =>
(some (h2 ++ [some ⟨[(.int .i64 0), (.int .i64 0), (.int .i64 0), (.int .i64 0), (.int .i64 0), (.string ⟨#[]⟩)], 116⟩])).bind fun h3 =>
((cell h3 (List.length h) 0).bind (getI .i64)).bind fun n4 =>
(wr base h3 (List.length h2) 0 [(.int .i64 n4)]).bind fun h5 =>
((cell h5 (List.length h) 1).bind (getI .i64)).bind fun n6 =>
(wr base h5 (List.length h2) 1 [(.int .i64 n6)]).bind fun h7 =>
((cell h7 (List.length h) 2).bind (getI .i64)).bind fun n8 =>
(wr base h7 (List.length h2) 2 [(.int .i64 n8)]).bind fun h9 =>
((cell h9 (List.length h) 3).bind (getI .i64)).bind fun n10 =>
(wr base h9 (List.length h2) 3 [(.int .i64 n10)]).bind fun h11 =>
((cell h11 (List.length h) 4).bind (getI .i64)).bind fun n12 =>
(wr base h11 (List.length h2) 4 [(.int .i64 n12)]).bind fun h13 =>
((cell h13 (List.length h) 5).bind getStr).bind fun s14 =>
(wr base h13 (List.length h2) 5 [(.string s14)]).bind fun h15 =>
((cell h15 (List.length h2) 0).bind (getI .i64)).bind fun n16 =>
((cell h15 (List.length h2) 1).bind (getI .i64)).bind fun n17 =>
((cell h15 (List.length h2) 2).bind (getI .i64)).bind fun n18 =>
((cell h15 (List.length h2) 3).bind (getI .i64)).bind fun n19 =>
((cell h15 (List.length h2) 4).bind (getI .i64)).bind fun n20 =>
((cell h15 (List.length h2) 5).bind getStr).bind fun s21 =>
(wr base h15 (List.length h1) 0 [(.int .i64 n16), (.int .i64 n17), (.int .i64 n18), (.int .i64 n19), (.int .i64 n20), (.string s21)]).bind fun h22 =>
((cell h22 (List.length h1) 0).bind (getI .i64)).bind fun n23 =>
((cell h22 (List.length h1) 1).bind (getI .i64)).bind fun n24 =>
((cell h22 (List.length h1) 2).bind (getI .i64)).bind fun n25 =>
((cell h22 (List.length h1) 3).bind (getI .i64)).bind fun n26 =>
((cell h22 (List.length h1) 4).bind (getI .i64)).bind fun n27 =>
((cell h22 (List.length h1) 5).bind getStr).bind fun s28 =>
some ((.agg #[(.int .i64 n23), (.int .i64 n24), (.int .i64 n25), (.int .i64 n26), (.int .i64 n27), (.string s28)]), h22) : Option (Value × AH)) := by kernel_rfl
theorem r79 {base : Nat} {v0_0 : Int} {v0_1 : Int} {v0_2 : Int} {v0_3 : Int} {v0_4 : Int} {v0_5 : ByteArray} {h : AH} {r : Value × AH} (hx :
((some (h ++ [some ⟨[(.int .i64 v0_0), (.int .i64 v0_1), (.int .i64 v0_2), (.int .i64 v0_3), (.int .i64 v0_4), (.string v0_5)], 113⟩])).bind fun h1 =>
(some (h1 ++ [some ⟨[(.int .i64 0), (.int .i64 0), (.int .i64 0), (.int .i64 0), (.int .i64 0), (.string ⟨#[]⟩)], 116⟩])).bind fun h2 =>
(some (h2 ++ [some ⟨[(.int .i64 0), (.int .i64 0), (.int .i64 0), (.int .i64 0), (.int .i64 0), (.string ⟨#[]⟩)], 116⟩])).bind fun h3 =>
((cell h3 (List.length h) 0).bind (getI .i64)).bind fun n4 =>
(wr base h3 (List.length h2) 0 [(.int .i64 n4)]).bind fun h5 =>
((cell h5 (List.length h) 1).bind (getI .i64)).bind fun n6 =>
(wr base h5 (List.length h2) 1 [(.int .i64 n6)]).bind fun h7 =>
((cell h7 (List.length h) 2).bind (getI .i64)).bind fun n8 =>
(wr base h7 (List.length h2) 2 [(.int .i64 n8)]).bind fun h9 =>
((cell h9 (List.length h) 3).bind (getI .i64)).bind fun n10 =>
(wr base h9 (List.length h2) 3 [(.int .i64 n10)]).bind fun h11 =>
((cell h11 (List.length h) 4).bind (getI .i64)).bind fun n12 =>
(wr base h11 (List.length h2) 4 [(.int .i64 n12)]).bind fun h13 =>
((cell h13 (List.length h) 5).bind getStr).bind fun s14 =>
(wr base h13 (List.length h2) 5 [(.string s14)]).bind fun h15 =>
((cell h15 (List.length h2) 0).bind (getI .i64)).bind fun n16 =>
((cell h15 (List.length h2) 1).bind (getI .i64)).bind fun n17 =>
((cell h15 (List.length h2) 2).bind (getI .i64)).bind fun n18 =>
((cell h15 (List.length h2) 3).bind (getI .i64)).bind fun n19 =>
((cell h15 (List.length h2) 4).bind (getI .i64)).bind fun n20 =>
((cell h15 (List.length h2) 5).bind getStr).bind fun s21 =>
(wr base h15 (List.length h1) 0 [(.int .i64 n16), (.int .i64 n17), (.int .i64 n18), (.int .i64 n19), (.int .i64 n20), (.string s21)]).bind fun h22 =>
((cell h22 (List.length h1) 0).bind (getI .i64)).bind fun n23 =>
((cell h22 (List.length h1) 1).bind (getI .i64)).bind fun n24 =>
((cell h22 (List.length h1) 2).bind (getI .i64)).bind fun n25 =>
((cell h22 (List.length h1) 3).bind (getI .i64)).bind fun n26 =>
((cell h22 (List.length h1) 4).bind (getI .i64)).bind fun n27 =>
((cell h22 (List.length h1) 5).bind getStr).bind fun s28 =>
some ((.agg #[(.int .i64 n23), (.int .i64 n24), (.int .i64 n25), (.int .i64 n26), (.int .i64 n27), (.string s28)]), h22)) = some r) : run (Et base) 79 [(.agg #[(.int .i64 v0_0), (.int .i64 v0_1), (.int .i64 v0_2), (.int .i64 v0_3), (.int .i64 v0_4), (.string v0_5)])] h = some r := run_i Try.func79 (by kernel_rfl) ((f79_eq base v0_0 v0_1 v0_2 v0_3 v0_4 v0_5 h).trans hx)
/-! impl.CodeOk (gates 0) -/
noncomputable def B80_0 (base : Nat) : Body := fun l h => lay s80_0 l fun s => exCode (Et base) (run (Et base)) loopL a80_0 (subC [1, 1, 0, 1, 0, 0] (bodyC Try.f80)) s h (keepK s80_0 e80_0)
theorem B80_0_eq (base : Nat) (v0 : Option Addr) (v0n : Nat) (v3 : Int) (v8 : Option Addr) (v8n : Nat) (v9 : Int) (v10 : Int) (h : AH) : B80_0 base [some (.slice v0 v0n v0n), some (.int .i64 v3), some (.slice v8 v8n v8n), some (.int .i64 v9), some (.int .i64 v10)] h =
((if (decide (v10 < v9)) = true then
(if 0 ≤ v10 ∧ v10 < ((v8n : Nat) : Int) then
((v8 : Option Addr)).bind fun a1 =>
((cell h a1.block (a1.off + Int.toNat v10 * 6)).bind (getI .i64)).bind fun n2 =>
((cell h a1.block ((a1.off + Int.toNat v10 * 6) + 1)).bind (getI .i64)).bind fun n3 =>
((cell h a1.block (((a1.off + Int.toNat v10 * 6) + 1) + 1)).bind (getI .i64)).bind fun n4 =>
((cell h a1.block ((((a1.off + Int.toNat v10 * 6) + 1) + 1) + 1)).bind (getI .i64)).bind fun n5 =>
((cell h a1.block (((((a1.off + Int.toNat v10 * 6) + 1) + 1) + 1) + 1)).bind (getI .i64)).bind fun n6 =>
((cell h a1.block ((((((a1.off + Int.toNat v10 * 6) + 1) + 1) + 1) + 1) + 1)).bind getStr).bind fun s7 =>
(some (h ++ [some ⟨[(.int .i64 0), (.int .i64 0), (.int .i64 0), (.int .i64 0), (.int .i64 0), (.string ⟨#[]⟩)], 116⟩])).bind fun h8 =>
(wr base h8 (List.length h) 0 [(.int .i64 n2), (.int .i64 n3), (.int .i64 n4), (.int .i64 n5), (.int .i64 n6), (.string s7)]).bind fun h9 =>
((cell h9 (List.length h) 0).bind (getI .i64)).bind fun n10 =>
((cell h9 (List.length h) 1).bind (getI .i64)).bind fun n11 =>
((cell h9 (List.length h) 2).bind (getI .i64)).bind fun n12 =>
((cell h9 (List.length h) 3).bind (getI .i64)).bind fun n13 =>
((cell h9 (List.length h) 4).bind (getI .i64)).bind fun n14 =>
((cell h9 (List.length h) 5).bind getStr).bind fun s15 =>
(run (Et base) 121 [(.agg #[(.int .i64 n10), (.int .i64 n11), (.int .i64 n12), (.int .i64 n13), (.int .i64 n14), (.string s15)]), (.int .i64 v3)] h9).bind fun r16 =>
((some r16.1).bind getB).bind fun b17 =>
(if (!b17) = true then
some (1, [some (.bool false)], r16.2)
else
some (0, [some (.slice v0 v0n v0n), some (.int .i64 v3), some (.slice v8 v8n v8n), some (.int .i64 v9), some (.int .i64 (IntKind.wrap .i64 (v10 + (1 : Int))))], r16.2))
else none)
else
some (2, [some (.slice v0 v0n v0n), some (.int .i64 v3)], h)) : Option (Nat × Slots × AH)) := by kernel_rfl
theorem f80_eq (base : Nat) (v0 : Option Addr) (v0n : Nat) (h : AH) : exFun (Et base) (run (Et base)) loopL a80 Try.f80 [(.slice v0 v0n v0n)] h =
((loopL (B80_0 base) [some (.slice v0 v0n v0n), some (.int .i64 ((v0n : Nat) : Int)), some (.slice v0 v0n v0n), some (.int .i64 ((v0n : Nat) : Int)), some (.int .i64 (0 : Int))] h).bind fun q1 =>
(if q1.1 = 1 then
((sget q1.2.1 0).bind getB).bind fun b2 =>
some ((.bool b2), q1.2.2)
else
(if q1.1 = 2 then
((sget q1.2.1 0).bind getS).bind fun l3 =>
((sget (q1.2.1.tail) 0).bind (getI .i64)).bind fun n4 =>
(run (Et base) 67 [(.int .i64 n4), (.int .i64 (1 : Int)), (.int .i64 (200 : Int))] q1.2.2).bind fun r5 =>
((some r5.1).bind getB).bind fun b6 =>
(if b6 = true then
(if 0 ≤ (IntKind.wrap .i64 (n4 - (1 : Int))) ∧ (IntKind.wrap .i64 (n4 - (1 : Int))) < ((l3.2 : Nat) : Int) then
((l3.1 : Option Addr)).bind fun a7 =>
((cell r5.2 a7.block ((a7.off + Int.toNat (IntKind.wrap .i64 (n4 - (1 : Int))) * 6) + 0)).bind (getI .i64)).bind fun n8 =>
(if (n8 == (19 : Int)) = true then
some ((.bool true), r5.2)
else
(if 0 ≤ (IntKind.wrap .i64 (n4 - (1 : Int))) ∧ (IntKind.wrap .i64 (n4 - (1 : Int))) < ((l3.2 : Nat) : Int) then
((l3.1 : Option Addr)).bind fun a9 =>
((cell r5.2 a9.block ((a9.off + Int.toNat (IntKind.wrap .i64 (n4 - (1 : Int))) * 6) + 0)).bind (getI .i64)).bind fun n10 =>
some ((.bool (n10 == (12 : Int))), r5.2)
else none))
else none)
else
some ((.bool false), r5.2))
else
none)) : Option (Value × AH)) := by kernel_rfl
theorem r80 {base : Nat} {v0 : Option Addr} {v0n : Nat} {h : AH} {r : Value × AH} (hx :
((loopL (B80_0 base) [some (.slice v0 v0n v0n), some (.int .i64 ((v0n : Nat) : Int)), some (.slice v0 v0n v0n), some (.int .i64 ((v0n : Nat) : Int)), some (.int .i64 (0 : Int))] h).bind fun q1 =>
(if q1.1 = 1 then
((sget q1.2.1 0).bind getB).bind fun b2 =>
some ((.bool b2), q1.2.2)
else
(if q1.1 = 2 then
((sget q1.2.1 0).bind getS).bind fun l3 =>
((sget (q1.2.1.tail) 0).bind (getI .i64)).bind fun n4 =>
(run (Et base) 67 [(.int .i64 n4), (.int .i64 (1 : Int)), (.int .i64 (200 : Int))] q1.2.2).bind fun r5 =>
((some r5.1).bind getB).bind fun b6 =>
(if b6 = true then
(if 0 ≤ (IntKind.wrap .i64 (n4 - (1 : Int))) ∧ (IntKind.wrap .i64 (n4 - (1 : Int))) < ((l3.2 : Nat) : Int) then
((l3.1 : Option Addr)).bind fun a7 =>
((cell r5.2 a7.block ((a7.off + Int.toNat (IntKind.wrap .i64 (n4 - (1 : Int))) * 6) + 0)).bind (getI .i64)).bind fun n8 =>
(if (n8 == (19 : Int)) = true then
some ((.bool true), r5.2)
else
(if 0 ≤ (IntKind.wrap .i64 (n4 - (1 : Int))) ∧ (IntKind.wrap .i64 (n4 - (1 : Int))) < ((l3.2 : Nat) : Int) then
((l3.1 : Option Addr)).bind fun a9 =>
((cell r5.2 a9.block ((a9.off + Int.toNat (IntKind.wrap .i64 (n4 - (1 : Int))) * 6) + 0)).bind (getI .i64)).bind fun n10 =>
some ((.bool (n10 == (12 : Int))), r5.2)
else none))
else none)
else
some ((.bool false), r5.2))
else
none))) = some r) : run (Et base) 80 [(.slice v0 v0n v0n)] h = some r := run_i Try.func80 (by kernel_rfl) ((f80_eq base v0 v0n h).trans hx)
/-! laws.eqIns (gates 0) -/
theorem f82_eq (base : Nat) (v0_0 : Int) (v0_1 : Int) (v0_2 : Int) (v0_3 : Int) (v0_4 : Int) (v0_5 : ByteArray) (v1_0 : Int) (v1_1 : Int) (v1_2 : Int) (v1_3 : Int) (v1_4 : Int) (v1_5 : ByteArray) (h : AH) : exFun (Et base) (run (Et base)) loopL a82 Try.f82 [(.agg #[(.int .i64 v0_0), (.int .i64 v0_1), (.int .i64 v0_2), (.int .i64 v0_3), (.int .i64 v0_4), (.string v0_5)]), (.agg #[(.int .i64 v1_0), (.int .i64 v1_1), (.int .i64 v1_2), (.int .i64 v1_3), (.int .i64 v1_4), (.string v1_5)])] h =
((some (h ++ [some ⟨[(.int .i64 v0_0), (.int .i64 v0_1), (.int .i64 v0_2), (.int .i64 v0_3), (.int .i64 v0_4), (.string v0_5)], 116⟩])).bind fun h1 =>
(some (h1 ++ [some ⟨[(.int .i64 v1_0), (.int .i64 v1_1), (.int .i64 v1_2), (.int .i64 v1_3), (.int .i64 v1_4), (.string v1_5)], 116⟩])).bind fun h2 =>
((cell h2 (List.length h) 0).bind (getI .i64)).bind fun n3 =>
((cell h2 (List.length h1) 0).bind (getI .i64)).bind fun n4 =>
(if (n3 != n4) = true then
some ((.bool false), h2)
else
((cell h2 (List.length h) 1).bind (getI .i64)).bind fun n5 =>
((cell h2 (List.length h1) 1).bind (getI .i64)).bind fun n6 =>
(if (n5 != n6) = true then
some ((.bool false), h2)
else
((cell h2 (List.length h) 2).bind (getI .i64)).bind fun n7 =>
((cell h2 (List.length h1) 2).bind (getI .i64)).bind fun n8 =>
(if (n7 != n8) = true then
some ((.bool false), h2)
else
((cell h2 (List.length h) 3).bind (getI .i64)).bind fun n9 =>
((cell h2 (List.length h1) 3).bind (getI .i64)).bind fun n10 =>
(if (n9 != n10) = true then
some ((.bool false), h2)
else
((cell h2 (List.length h) 4).bind (getI .i64)).bind fun n11 =>
((cell h2 (List.length h1) 4).bind (getI .i64)).bind fun n12 =>
(if (n11 != n12) = true then
some ((.bool false), h2)
else
((cell h2 (List.length h) 5).bind getStr).bind fun s13 =>
((cell h2 (List.length h1) 5).bind getStr).bind fun s14 =>
(if (!(s13.toList == s14.toList)) = true then
some ((.bool false), h2)
else
some ((.bool true), h2))))))) : Option (Value × AH)) := by kernel_rfl
theorem r82 {base : Nat} {v0_0 : Int} {v0_1 : Int} {v0_2 : Int} {v0_3 : Int} {v0_4 : Int} {v0_5 : ByteArray} {v1_0 : Int} {v1_1 : Int} {v1_2 : Int} {v1_3 : Int} {v1_4 : Int} {v1_5 : ByteArray} {h : AH} {r : Value × AH} (hx :
((some (h ++ [some ⟨[(.int .i64 v0_0), (.int .i64 v0_1), (.int .i64 v0_2), (.int .i64 v0_3), (.int .i64 v0_4), (.string v0_5)], 116⟩])).bind fun h1 =>
(some (h1 ++ [some ⟨[(.int .i64 v1_0), (.int .i64 v1_1), (.int .i64 v1_2), (.int .i64 v1_3), (.int .i64 v1_4), (.string v1_5)], 116⟩])).bind fun h2 =>
((cell h2 (List.length h) 0).bind (getI .i64)).bind fun n3 =>
((cell h2 (List.length h1) 0).bind (getI .i64)).bind fun n4 =>
(if (n3 != n4) = true then
some ((.bool false), h2)
else
((cell h2 (List.length h) 1).bind (getI .i64)).bind fun n5 =>
((cell h2 (List.length h1) 1).bind (getI .i64)).bind fun n6 =>
(if (n5 != n6) = true then
some ((.bool false), h2)
else
((cell h2 (List.length h) 2).bind (getI .i64)).bind fun n7 =>
((cell h2 (List.length h1) 2).bind (getI .i64)).bind fun n8 =>
(if (n7 != n8) = true then
some ((.bool false), h2)
else
((cell h2 (List.length h) 3).bind (getI .i64)).bind fun n9 =>
((cell h2 (List.length h1) 3).bind (getI .i64)).bind fun n10 =>
(if (n9 != n10) = true then
some ((.bool false), h2)
else
((cell h2 (List.length h) 4).bind (getI .i64)).bind fun n11 =>
((cell h2 (List.length h1) 4).bind (getI .i64)).bind fun n12 =>
(if (n11 != n12) = true then
some ((.bool false), h2)
else
((cell h2 (List.length h) 5).bind getStr).bind fun s13 =>
((cell h2 (List.length h1) 5).bind getStr).bind fun s14 =>
(if (!(s13.toList == s14.toList)) = true then
some ((.bool false), h2)
else
some ((.bool true), h2)))))))) = some r) : run (Et base) 82 [(.agg #[(.int .i64 v0_0), (.int .i64 v0_1), (.int .i64 v0_2), (.int .i64 v0_3), (.int .i64 v0_4), (.string v0_5)]), (.agg #[(.int .i64 v1_0), (.int .i64 v1_1), (.int .i64 v1_2), (.int .i64 v1_3), (.int .i64 v1_4), (.string v1_5)])] h = some r := run_i Try.func82 (by kernel_rfl) ((f82_eq base v0_0 v0_1 v0_2 v0_3 v0_4 v0_5 v1_0 v1_1 v1_2 v1_3 v1_4 v1_5 h).trans hx)
/-! laws.szIntS (gates 0) -/
theorem f89_eq (base : Nat) (v0 : Option Addr) (v0n : Nat) (v1 : Int) (h : AH) : exFun (Et base) (run (Et base)) loopL a89 Try.f89 [(.slice v0 v0n v0n), (.int .i64 v1)] h =
((if (decide ((IntKind.wrap .i64 (v1 - ((v0n : Nat) : Int))) < (0 : Int))) = true then
some ((.int .i64 (-1 : Int)), h)
else
some ((.int .i64 (IntKind.wrap .i64 (v1 - ((v0n : Nat) : Int)))), h)) : Option (Value × AH)) := by kernel_rfl
theorem r89 {base : Nat} {v0 : Option Addr} {v0n : Nat} {v1 : Int} {h : AH} {r : Value × AH} (hx :
((if (decide ((IntKind.wrap .i64 (v1 - ((v0n : Nat) : Int))) < (0 : Int))) = true then
some ((.int .i64 (-1 : Int)), h)
else
some ((.int .i64 (IntKind.wrap .i64 (v1 - ((v0n : Nat) : Int)))), h))) = some r) : run (Et base) 89 [(.slice v0 v0n v0n), (.int .i64 v1)] h = some r := run_i Try.func89 (by kernel_rfl) ((f89_eq base v0 v0n v1 h).trans hx)
/-! spec.l9Terms (gates 0) -/
noncomputable def B90_0 (base : Nat) : Body := fun l h => lay s90_0 l fun s => exCode (Et base) (run (Et base)) loopL a90_0 (subC [1, 0, 1, 0, 0] (bodyC Try.f90)) s h (keepK s90_0 e90_0)
theorem B90_0_eq (base : Nat) (v0 : Option Addr) (v0n : Nat) (v3 : Int) (h : AH) : B90_0 base [some (.slice v0 v0n v0n), some (.int .i64 v3)] h =
((if (decide (v3 < ((v0n : Nat) : Int))) = true then
(if 0 ≤ v3 ∧ v3 < ((v0n : Nat) : Int) then
((v0 : Option Addr)).bind fun a1 =>
((cell h a1.block (a1.off + Int.toNat v3 * 4)).bind (getI .i64)).bind fun n2 =>
((cell h a1.block ((a1.off + Int.toNat v3 * 4) + 1)).bind (getI .i64)).bind fun n3 =>
((cell h a1.block (((a1.off + Int.toNat v3 * 4) + 1) + 1)).bind getStr).bind fun s4 =>
((cell h a1.block ((((a1.off + Int.toNat v3 * 4) + 1) + 1) + 1)).bind getS).bind fun l5 =>
(run (Et base) 63 [(.agg #[(.int .i64 n2), (.int .i64 n3), (.string s4), (.slice l5.1 l5.2 l5.2)])] h).bind fun r6 =>
((some r6.1).bind getB).bind fun b7 =>
(if (!b7) = true then
some (1, [some (.bool false)], r6.2)
else
some (0, [some (.slice v0 v0n v0n), some (.int .i64 (IntKind.wrap .i64 (v3 + (1 : Int))))], r6.2))
else none)
else
some (2, [], h)) : Option (Nat × Slots × AH)) := by kernel_rfl
theorem f90_eq (base : Nat) (v0 : Option Addr) (v0n : Nat) (h : AH) : exFun (Et base) (run (Et base)) loopL a90 Try.f90 [(.slice v0 v0n v0n)] h =
((loopL (B90_0 base) [some (.slice v0 v0n v0n), some (.int .i64 (0 : Int))] h).bind fun q1 =>
(if q1.1 = 1 then
((sget q1.2.1 0).bind getB).bind fun b2 =>
some ((.bool b2), q1.2.2)
else
(if q1.1 = 2 then
some ((.bool true), q1.2.2)
else
none)) : Option (Value × AH)) := by kernel_rfl
theorem r90 {base : Nat} {v0 : Option Addr} {v0n : Nat} {h : AH} {r : Value × AH} (hx :
((loopL (B90_0 base) [some (.slice v0 v0n v0n), some (.int .i64 (0 : Int))] h).bind fun q1 =>
(if q1.1 = 1 then
((sget q1.2.1 0).bind getB).bind fun b2 =>
some ((.bool b2), q1.2.2)
else
(if q1.1 = 2 then
some ((.bool true), q1.2.2)
else
none))) = some r) : run (Et base) 90 [(.slice v0 v0n v0n)] h = some r := run_i Try.func90 (by kernel_rfl) ((f90_eq base v0 v0n h).trans hx)
/-! spec.l9Links (gates 0) -/
noncomputable def B91_0 (base : Nat) : Body := fun l h => lay s91_0 l fun s => exCode (Et base) (run (Et base)) loopL a91_0 (subC [1, 0, 1, 0, 0] (bodyC Try.f91)) s h (keepK s91_0 e91_0)
theorem B91_0_eq (base : Nat) (v0 : Option Addr) (v0n : Nat) (v1 : Int) (v5 : Int) (h : AH) : B91_0 base [some (.slice v0 v0n v0n), some (.int .i64 v1), some (.int .i64 v5)] h =
((if (decide (v5 < ((v0n : Nat) : Int))) = true then
((if 0 ≤ v5 ∧ v5 < ((v0n : Nat) : Int) then
((v0 : Option Addr)).bind fun a2 =>
((cell h a2.block (a2.off + Int.toNat v5 * 1)).bind (getI .i64)).bind fun n3 =>
(run (Et base) 62 [(.int .i64 n3), (.int .i64 (1 : Int)), (.int .i64 (99999 : Int))] h).bind fun r4 =>
((some r4.1).bind getB).bind fun b5 =>
(if (!b5) = true then
some (.inl ([some (.slice v0 v0n v0n), some (.int .i64 v1), some (.int .i64 v5), some (.bool true)], r4.2))
else
(if 0 ≤ v5 ∧ v5 < ((v0n : Nat) : Int) then
((v0 : Option Addr)).bind fun a6 =>
((cell r4.2 a6.block (a6.off + Int.toNat v5 * 1)).bind (getI .i64)).bind fun n7 =>
(if (n7 == v1) = true then
some (.inl ([some (.slice v0 v0n v0n), some (.int .i64 v1), some (.int .i64 v5), some (.bool true)], r4.2))
else
(if (decide (v5 > (0 : Int))) = true then
(if 0 ≤ (IntKind.wrap .i64 (v5 - (1 : Int))) ∧ (IntKind.wrap .i64 (v5 - (1 : Int))) < ((v0n : Nat) : Int) then
((v0 : Option Addr)).bind fun a8 =>
((cell r4.2 a8.block (a8.off + Int.toNat (IntKind.wrap .i64 (v5 - (1 : Int))) * 1)).bind (getI .i64)).bind fun n9 =>
(if 0 ≤ v5 ∧ v5 < ((v0n : Nat) : Int) then
((v0 : Option Addr)).bind fun a10 =>
((cell r4.2 a10.block (a10.off + Int.toNat v5 * 1)).bind (getI .i64)).bind fun n11 =>
some (.inl ([some (.slice v0 v0n v0n), some (.int .i64 v1), some (.int .i64 v5), some (.bool (decide (n9 ≥ n11)))], r4.2))
else none)
else none)
else
some (.inl ([some (.slice v0 v0n v0n), some (.int .i64 v1), some (.int .i64 v5), some (.bool false)], r4.2))))
else none))
else none)).bind fun j1 => joinK j1 fun j1 =>
((sget j1.1 0).bind getS).bind fun l12 =>
((sget (j1.1.tail) 0).bind (getI .i64)).bind fun n13 =>
((sget (j1.1.tail.tail) 0).bind (getI .i64)).bind fun n14 =>
((sget (j1.1.tail.tail.tail) 0).bind getB).bind fun b15 =>
(if b15 = true then
some (1, [some (.bool false)], j1.2)
else
some (0, [some (.slice l12.1 l12.2 l12.2), some (.int .i64 n13), some (.int .i64 (IntKind.wrap .i64 (n14 + (1 : Int))))], j1.2))
else
some (2, [some (.slice v0 v0n v0n)], h)) : Option (Nat × Slots × AH)) := by kernel_rfl
theorem f91_eq (base : Nat) (v0 : Option Addr) (v0n : Nat) (v1 : Int) (h : AH) : exFun (Et base) (run (Et base)) loopL a91 Try.f91 [(.slice v0 v0n v0n), (.int .i64 v1)] h =
((loopL (B91_0 base) [some (.slice v0 v0n v0n), some (.int .i64 v1), some (.int .i64 (0 : Int))] h).bind fun q1 =>
(if q1.1 = 1 then
((sget q1.2.1 0).bind getB).bind fun b2 =>
some ((.bool b2), q1.2.2)
else
(if q1.1 = 2 then
((sget q1.2.1 0).bind getS).bind fun l3 =>
some ((.bool (decide (((l3.2 : Nat) : Int) ≤ (50 : Int)))), q1.2.2)
else
none)) : Option (Value × AH)) := by kernel_rfl
theorem r91 {base : Nat} {v0 : Option Addr} {v0n : Nat} {v1 : Int} {h : AH} {r : Value × AH} (hx :
((loopL (B91_0 base) [some (.slice v0 v0n v0n), some (.int .i64 v1), some (.int .i64 (0 : Int))] h).bind fun q1 =>
(if q1.1 = 1 then
((sget q1.2.1 0).bind getB).bind fun b2 =>
some ((.bool b2), q1.2.2)
else
(if q1.1 = 2 then
((sget q1.2.1 0).bind getS).bind fun l3 =>
some ((.bool (decide (((l3.2 : Nat) : Int) ≤ (50 : Int)))), q1.2.2)
else
none))) = some r) : run (Et base) 91 [(.slice v0 v0n v0n), (.int .i64 v1)] h = some r := run_i Try.func91 (by kernel_rfl) ((f91_eq base v0 v0n v1 h).trans hx)
/-! laws.toIntS (gates 0) -/
noncomputable def B92_0 (base : Nat) : Body := fun l h => lay s92_0 l fun s => exCode (Et base) (run (Et base)) loopL a92_0 (subC [1, 1, 0, 1, 0, 0] (bodyC Try.f92)) s h (keepK s92_0 e92_0)
theorem B92_0_eq (base : Nat) (v0 : Option Addr) (v0n : Nat) (v3 : Option Addr) (v3n : Nat) (v4 : Int) (h : AH) : B92_0 base [some (.slice v0 v0n v0n), some (.slice v3 v3n v3n), some (.int .i64 v4)] h =
((if (decide (v4 < ((v0n : Nat) : Int))) = true then
(if 0 ≤ v4 ∧ v4 < ((v0n : Nat) : Int) then
((v0 : Option Addr)).bind fun a1 =>
((cell h a1.block (a1.off + Int.toNat v4 * 1)).bind (getI .i64)).bind fun n2 =>
(if 0 ≤ v4 ∧ v4 < ((v3n : Nat) : Int) then
((v3 : Option Addr)).bind fun a3 =>
(wr base h a3.block (a3.off + Int.toNat v4 * 1) [(.int .i64 n2)]).bind fun h4 =>
some (0, [some (.slice v0 v0n v0n), some (.slice v3 v3n v3n), some (.int .i64 (IntKind.wrap .i64 (v4 + (1 : Int))))], h4)
else none)
else none)
else
some (2, [some (.slice v3 v3n v3n)], h)) : Option (Nat × Slots × AH)) := by kernel_rfl
theorem f92_eq (base : Nat) (v0 : Option Addr) (v0n : Nat) (h : AH) : exFun (Et base) (run (Et base)) loopL a92 Try.f92 [(.slice v0 v0n v0n)] h =
((if ((v0n : Nat) : Int) = ((v0n : Nat) : Int) ∧ 0 ≤ ((v0n : Nat) : Int) ∧ ((v0n : Nat) : Int) * 8 ≤ 140737488355328 ∧ ((v0n : Nat) : Int) ≤ 140737488355328 then
(some (h ++ [some ⟨rep [(.int .i64 0)] (Int.toNat ((v0n : Nat) : Int)), 3⟩])).bind fun h1 =>
(loopL (B92_0 base) [some (.slice v0 v0n v0n), some (.slice (some ⟨(List.length h), 0, none⟩) (Int.toNat ((v0n : Nat) : Int)) (Int.toNat ((v0n : Nat) : Int))), some (.int .i64 (0 : Int))] h1).bind fun q2 =>
(if q2.1 = 2 then
((sget q2.2.1 0).bind getS).bind fun l3 =>
some ((.slice l3.1 l3.2 l3.2), q2.2.2)
else
none)
else none) : Option (Value × AH)) := by kernel_rfl
theorem r92 {base : Nat} {v0 : Option Addr} {v0n : Nat} {h : AH} {r : Value × AH} (hx :
((if ((v0n : Nat) : Int) = ((v0n : Nat) : Int) ∧ 0 ≤ ((v0n : Nat) : Int) ∧ ((v0n : Nat) : Int) * 8 ≤ 140737488355328 ∧ ((v0n : Nat) : Int) ≤ 140737488355328 then
(some (h ++ [some ⟨rep [(.int .i64 0)] (Int.toNat ((v0n : Nat) : Int)), 3⟩])).bind fun h1 =>
(loopL (B92_0 base) [some (.slice v0 v0n v0n), some (.slice (some ⟨(List.length h), 0, none⟩) (Int.toNat ((v0n : Nat) : Int)) (Int.toNat ((v0n : Nat) : Int))), some (.int .i64 (0 : Int))] h1).bind fun q2 =>
(if q2.1 = 2 then
((sget q2.2.1 0).bind getS).bind fun l3 =>
some ((.slice l3.1 l3.2 l3.2), q2.2.2)
else
none)
else none)) = some r) : run (Et base) 92 [(.slice v0 v0n v0n)] h = some r := run_i Try.func92 (by kernel_rfl) ((f92_eq base v0 v0n h).trans hx)
/-! impl.termsOk (gates 0) -/
noncomputable def B93_0 (base : Nat) : Body := fun l h => lay s93_0 l fun s => exCode (Et base) (run (Et base)) loopL a93_0 (subC [1, 0, 1, 0, 0] (bodyC Try.f93)) s h (keepK s93_0 e93_0)
theorem B93_0_eq (base : Nat) (v5 : Option Addr) (v5n : Nat) (v6 : Int) (v7 : Int) (h : AH) : B93_0 base [some (.slice v5 v5n v5n), some (.int .i64 v6), some (.int .i64 v7)] h =
((if (decide (v7 < v6)) = true then
(if 0 ≤ v7 ∧ v7 < ((v5n : Nat) : Int) then
((v5 : Option Addr)).bind fun a1 =>
((cell h a1.block (a1.off + Int.toNat v7 * 4)).bind (getI .i64)).bind fun n2 =>
((cell h a1.block ((a1.off + Int.toNat v7 * 4) + 1)).bind (getI .i64)).bind fun n3 =>
((cell h a1.block (((a1.off + Int.toNat v7 * 4) + 1) + 1)).bind getStr).bind fun s4 =>
((cell h a1.block ((((a1.off + Int.toNat v7 * 4) + 1) + 1) + 1)).bind getS).bind fun l5 =>
(some (h ++ [some ⟨[(.int .i64 0), (.int .i64 0), (.string ⟨#[]⟩), (.slice none 0 0)], 32⟩])).bind fun h6 =>
(wr base h6 (List.length h) 0 [(.int .i64 n2), (.int .i64 n3), (.string s4), (.slice l5.1 l5.2 l5.2)]).bind fun h7 =>
((cell h7 (List.length h) 0).bind (getI .i64)).bind fun n8 =>
((cell h7 (List.length h) 1).bind (getI .i64)).bind fun n9 =>
((cell h7 (List.length h) 2).bind getStr).bind fun s10 =>
((cell h7 (List.length h) 3).bind getS).bind fun l11 =>
(run (Et base) 68 [(.agg #[(.int .i64 n8), (.int .i64 n9), (.string s10), (.slice l11.1 l11.2 l11.2)])] h7).bind fun r12 =>
((some r12.1).bind getB).bind fun b13 =>
(if (!b13) = true then
some (1, [some (.bool false)], r12.2)
else
some (0, [some (.slice v5 v5n v5n), some (.int .i64 v6), some (.int .i64 (IntKind.wrap .i64 (v7 + (1 : Int))))], r12.2))
else none)
else
some (2, [], h)) : Option (Nat × Slots × AH)) := by kernel_rfl
theorem f93_eq (base : Nat) (v0 : Option Addr) (v0n : Nat) (h : AH) : exFun (Et base) (run (Et base)) loopL a93 Try.f93 [(.slice v0 v0n v0n)] h =
((loopL (B93_0 base) [some (.slice v0 v0n v0n), some (.int .i64 ((v0n : Nat) : Int)), some (.int .i64 (0 : Int))] h).bind fun q1 =>
(if q1.1 = 1 then
((sget q1.2.1 0).bind getB).bind fun b2 =>
some ((.bool b2), q1.2.2)
else
(if q1.1 = 2 then
some ((.bool true), q1.2.2)
else
none)) : Option (Value × AH)) := by kernel_rfl
theorem r93 {base : Nat} {v0 : Option Addr} {v0n : Nat} {h : AH} {r : Value × AH} (hx :
((loopL (B93_0 base) [some (.slice v0 v0n v0n), some (.int .i64 ((v0n : Nat) : Int)), some (.int .i64 (0 : Int))] h).bind fun q1 =>
(if q1.1 = 1 then
((sget q1.2.1 0).bind getB).bind fun b2 =>
some ((.bool b2), q1.2.2)
else
(if q1.1 = 2 then
some ((.bool true), q1.2.2)
else
none))) = some r) : run (Et base) 93 [(.slice v0 v0n v0n)] h = some r := run_i Try.func93 (by kernel_rfl) ((f93_eq base v0 v0n h).trans hx)
/-! impl.linksOk (gates 0) -/
noncomputable def B94_0 (base : Nat) : Body := fun l h => lay s94_0 l fun s => exCode (Et base) (run (Et base)) loopL a94_0 (subC [1, 0, 1, 0, 0] (bodyC Try.f94)) s h (keepK s94_0 e94_0)
theorem B94_0_eq (base : Nat) (v0 : Option Addr) (v0n : Nat) (v1 : Int) (v7 : Option Addr) (v7n : Nat) (v8 : Int) (v9 : Int) (h : AH) : B94_0 base [some (.slice v0 v0n v0n), some (.int .i64 v1), some (.slice v7 v7n v7n), some (.int .i64 v8), some (.int .i64 v9)] h =
((if (decide (v9 < v8)) = true then
(if 0 ≤ v9 ∧ v9 < ((v7n : Nat) : Int) then
((v7 : Option Addr)).bind fun a1 =>
((cell h a1.block (a1.off + Int.toNat v9 * 1)).bind (getI .i64)).bind fun n2 =>
((run (Et base) 67 [(.int .i64 n2), (.int .i64 (1 : Int)), (.int .i64 (99999 : Int))] h).bind fun r4 =>
((some r4.1).bind getB).bind fun b5 =>
(if (!b5) = true then
some (.inl ([some (.slice v0 v0n v0n), some (.int .i64 v1), some (.slice v7 v7n v7n), some (.int .i64 v8), some (.int .i64 v9), some (.bool true)], r4.2))
else
(if (n2 == v1) = true then
some (.inl ([some (.slice v0 v0n v0n), some (.int .i64 v1), some (.slice v7 v7n v7n), some (.int .i64 v8), some (.int .i64 v9), some (.bool true)], r4.2))
else
(if (decide (v9 > (0 : Int))) = true then
(if 0 ≤ (IntKind.wrap .i64 (v9 - (1 : Int))) ∧ (IntKind.wrap .i64 (v9 - (1 : Int))) < ((v0n : Nat) : Int) then
((v0 : Option Addr)).bind fun a6 =>
((cell r4.2 a6.block (a6.off + Int.toNat (IntKind.wrap .i64 (v9 - (1 : Int))) * 1)).bind (getI .i64)).bind fun n7 =>
some (.inl ([some (.slice v0 v0n v0n), some (.int .i64 v1), some (.slice v7 v7n v7n), some (.int .i64 v8), some (.int .i64 v9), some (.bool (decide (n7 ≥ n2)))], r4.2))
else none)
else
some (.inl ([some (.slice v0 v0n v0n), some (.int .i64 v1), some (.slice v7 v7n v7n), some (.int .i64 v8), some (.int .i64 v9), some (.bool false)], r4.2)))))).bind fun j3 => joinK j3 fun j3 =>
((sget j3.1 0).bind getS).bind fun l8 =>
((sget (j3.1.tail) 0).bind (getI .i64)).bind fun n9 =>
((sget (j3.1.tail.tail) 0).bind getS).bind fun l10 =>
((sget (j3.1.tail.tail.tail) 0).bind (getI .i64)).bind fun n11 =>
((sget (j3.1.tail.tail.tail.tail) 0).bind (getI .i64)).bind fun n12 =>
((sget (j3.1.tail.tail.tail.tail.tail) 0).bind getB).bind fun b13 =>
(if b13 = true then
some (1, [some (.bool false)], j3.2)
else
some (0, [some (.slice l8.1 l8.2 l8.2), some (.int .i64 n9), some (.slice l10.1 l10.2 l10.2), some (.int .i64 n11), some (.int .i64 (IntKind.wrap .i64 (n12 + (1 : Int))))], j3.2))
else none)
else
some (2, [some (.slice v0 v0n v0n)], h)) : Option (Nat × Slots × AH)) := by kernel_rfl
theorem f94_eq (base : Nat) (v0 : Option Addr) (v0n : Nat) (v1 : Int) (h : AH) : exFun (Et base) (run (Et base)) loopL a94 Try.f94 [(.slice v0 v0n v0n), (.int .i64 v1)] h =
((loopL (B94_0 base) [some (.slice v0 v0n v0n), some (.int .i64 v1), some (.slice v0 v0n v0n), some (.int .i64 ((v0n : Nat) : Int)), some (.int .i64 (0 : Int))] h).bind fun q1 =>
(if q1.1 = 1 then
((sget q1.2.1 0).bind getB).bind fun b2 =>
some ((.bool b2), q1.2.2)
else
(if q1.1 = 2 then
((sget q1.2.1 0).bind getS).bind fun l3 =>
some ((.bool (decide (((l3.2 : Nat) : Int) ≤ (50 : Int)))), q1.2.2)
else
none)) : Option (Value × AH)) := by kernel_rfl
theorem r94 {base : Nat} {v0 : Option Addr} {v0n : Nat} {v1 : Int} {h : AH} {r : Value × AH} (hx :
((loopL (B94_0 base) [some (.slice v0 v0n v0n), some (.int .i64 v1), some (.slice v0 v0n v0n), some (.int .i64 ((v0n : Nat) : Int)), some (.int .i64 (0 : Int))] h).bind fun q1 =>
(if q1.1 = 1 then
((sget q1.2.1 0).bind getB).bind fun b2 =>
some ((.bool b2), q1.2.2)
else
(if q1.1 = 2 then
((sget q1.2.1 0).bind getS).bind fun l3 =>
some ((.bool (decide (((l3.2 : Nat) : Int) ≤ (50 : Int)))), q1.2.2)
else
none))) = some r) : run (Et base) 94 [(.slice v0 v0n v0n), (.int .i64 v1)] h = some r := run_i Try.func94 (by kernel_rfl) ((f94_eq base v0 v0n v1 h).trans hx)
/-! laws.szActorS (gates 0) -/
noncomputable def B95_0 (base : Nat) : Body := fun l h => lay s95_0 l fun s => exCode (Et base) (run (Et base)) loopL a95_0 (subC [1, 1, 1, 0, 1, 0, 0] (bodyC Try.f95)) s h (keepK s95_0 e95_0)
theorem B95_0_eq (base : Nat) (v0 : Option Addr) (v0n : Nat) (v1 : Int) (v5 : Int) (h : AH) : B95_0 base [some (.slice v0 v0n v0n), some (.int .i64 v1), some (.int .i64 v5)] h =
((if (decide (v5 < ((v0n : Nat) : Int))) = true then
(if 0 ≤ v5 ∧ v5 < ((v0n : Nat) : Int) then
((v0 : Option Addr)).bind fun a1 =>
((cell h a1.block (a1.off + Int.toNat v5 * 5)).bind (getI .i64)).bind fun n2 =>
((cell h a1.block ((a1.off + Int.toNat v5 * 5) + 1)).bind (getI .i64)).bind fun n3 =>
((cell h a1.block (((a1.off + Int.toNat v5 * 5) + 1) + 1)).bind getS).bind fun l4 =>
((cell h a1.block ((((a1.off + Int.toNat v5 * 5) + 1) + 1) + 1)).bind getS).bind fun l5 =>
((cell h a1.block (((((a1.off + Int.toNat v5 * 5) + 1) + 1) + 1) + 1)).bind getS).bind fun l6 =>
(run (Et base) 36 [(.agg #[(.int .i64 n2), (.int .i64 n3), (.slice l4.1 l4.2 l4.2), (.slice l5.1 l5.2 l5.2), (.slice l6.1 l6.2 l6.2)]), (.int .i64 v1)] h).bind fun r7 =>
((some r7.1).bind (getI .i64)).bind fun n8 =>
(if (decide (n8 < (0 : Int))) = true then
some (1, [some (.int .i64 (-1 : Int))], r7.2)
else
some (0, [some (.slice v0 v0n v0n), some (.int .i64 n8), some (.int .i64 (IntKind.wrap .i64 (v5 + (1 : Int))))], r7.2))
else none)
else
some (2, [some (.int .i64 v1)], h)) : Option (Nat × Slots × AH)) := by kernel_rfl
theorem f95_eq (base : Nat) (v0 : Option Addr) (v0n : Nat) (v1 : Int) (h : AH) : exFun (Et base) (run (Et base)) loopL a95 Try.f95 [(.slice v0 v0n v0n), (.int .i64 v1)] h =
((if (decide ((IntKind.wrap .i64 (v1 - ((v0n : Nat) : Int))) < (0 : Int))) = true then
some ((.int .i64 (-1 : Int)), h)
else
(loopL (B95_0 base) [some (.slice v0 v0n v0n), some (.int .i64 (IntKind.wrap .i64 (v1 - ((v0n : Nat) : Int)))), some (.int .i64 (0 : Int))] h).bind fun q1 =>
(if q1.1 = 1 then
((sget q1.2.1 0).bind (getI .i64)).bind fun n2 =>
some ((.int .i64 n2), q1.2.2)
else
(if q1.1 = 2 then
((sget q1.2.1 0).bind (getI .i64)).bind fun n3 =>
some ((.int .i64 n3), q1.2.2)
else
none))) : Option (Value × AH)) := by kernel_rfl
theorem r95 {base : Nat} {v0 : Option Addr} {v0n : Nat} {v1 : Int} {h : AH} {r : Value × AH} (hx :
((if (decide ((IntKind.wrap .i64 (v1 - ((v0n : Nat) : Int))) < (0 : Int))) = true then
some ((.int .i64 (-1 : Int)), h)
else
(loopL (B95_0 base) [some (.slice v0 v0n v0n), some (.int .i64 (IntKind.wrap .i64 (v1 - ((v0n : Nat) : Int)))), some (.int .i64 (0 : Int))] h).bind fun q1 =>
(if q1.1 = 1 then
((sget q1.2.1 0).bind (getI .i64)).bind fun n2 =>
some ((.int .i64 n2), q1.2.2)
else
(if q1.1 = 2 then
((sget q1.2.1 0).bind (getI .i64)).bind fun n3 =>
some ((.int .i64 n3), q1.2.2)
else
none)))) = some r) : run (Et base) 95 [(.slice v0 v0n v0n), (.int .i64 v1)] h = some r := run_i Try.func95 (by kernel_rfl) ((f95_eq base v0 v0n v1 h).trans hx)
/-! laws.szSaidS (gates 0) -/
noncomputable def B96_0 (base : Nat) : Body := fun l h => lay s96_0 l fun s => exCode (Et base) (run (Et base)) loopL a96_0 (subC [1, 1, 1, 0, 1, 0, 0] (bodyC Try.f96)) s h (keepK s96_0 e96_0)
theorem B96_0_eq (base : Nat) (v0 : Option Addr) (v0n : Nat) (v1 : Int) (v5 : Int) (h : AH) : B96_0 base [some (.slice v0 v0n v0n), some (.int .i64 v1), some (.int .i64 v5)] h =
((if (decide (v5 < ((v0n : Nat) : Int))) = true then
(if 0 ≤ v5 ∧ v5 < ((v0n : Nat) : Int) then
((v0 : Option Addr)).bind fun a1 =>
((cell h a1.block (a1.off + Int.toNat v5 * 6)).bind (getI .i64)).bind fun n2 =>
((cell h a1.block ((a1.off + Int.toNat v5 * 6) + 1)).bind (getI .i64)).bind fun n3 =>
((cell h a1.block (((a1.off + Int.toNat v5 * 6) + 1) + 1)).bind (getI .i64)).bind fun n4 =>
((cell h a1.block ((((a1.off + Int.toNat v5 * 6) + 1) + 1) + 1)).bind (getI .i64)).bind fun n5 =>
((cell h a1.block (((((a1.off + Int.toNat v5 * 6) + 1) + 1) + 1) + 1)).bind getStr).bind fun s6 =>
((cell h a1.block ((((((a1.off + Int.toNat v5 * 6) + 1) + 1) + 1) + 1) + 1)).bind getS).bind fun l7 =>
(run (Et base) 128 [(.agg #[(.int .i64 n2), (.int .i64 n3), (.int .i64 n4), (.int .i64 n5), (.string s6), (.slice l7.1 l7.2 l7.2)]), (.int .i64 v1)] h).bind fun r8 =>
((some r8.1).bind (getI .i64)).bind fun n9 =>
(if (decide (n9 < (0 : Int))) = true then
some (1, [some (.int .i64 (-1 : Int))], r8.2)
else
some (0, [some (.slice v0 v0n v0n), some (.int .i64 n9), some (.int .i64 (IntKind.wrap .i64 (v5 + (1 : Int))))], r8.2))
else none)
else
some (2, [some (.int .i64 v1)], h)) : Option (Nat × Slots × AH)) := by kernel_rfl
theorem f96_eq (base : Nat) (v0 : Option Addr) (v0n : Nat) (v1 : Int) (h : AH) : exFun (Et base) (run (Et base)) loopL a96 Try.f96 [(.slice v0 v0n v0n), (.int .i64 v1)] h =
((if (decide ((IntKind.wrap .i64 (v1 - ((v0n : Nat) : Int))) < (0 : Int))) = true then
some ((.int .i64 (-1 : Int)), h)
else
(loopL (B96_0 base) [some (.slice v0 v0n v0n), some (.int .i64 (IntKind.wrap .i64 (v1 - ((v0n : Nat) : Int)))), some (.int .i64 (0 : Int))] h).bind fun q1 =>
(if q1.1 = 1 then
((sget q1.2.1 0).bind (getI .i64)).bind fun n2 =>
some ((.int .i64 n2), q1.2.2)
else
(if q1.1 = 2 then
((sget q1.2.1 0).bind (getI .i64)).bind fun n3 =>
some ((.int .i64 n3), q1.2.2)
else
none))) : Option (Value × AH)) := by kernel_rfl
theorem r96 {base : Nat} {v0 : Option Addr} {v0n : Nat} {v1 : Int} {h : AH} {r : Value × AH} (hx :
((if (decide ((IntKind.wrap .i64 (v1 - ((v0n : Nat) : Int))) < (0 : Int))) = true then
some ((.int .i64 (-1 : Int)), h)
else
(loopL (B96_0 base) [some (.slice v0 v0n v0n), some (.int .i64 (IntKind.wrap .i64 (v1 - ((v0n : Nat) : Int)))), some (.int .i64 (0 : Int))] h).bind fun q1 =>
(if q1.1 = 1 then
((sget q1.2.1 0).bind (getI .i64)).bind fun n2 =>
some ((.int .i64 n2), q1.2.2)
else
(if q1.1 = 2 then
((sget q1.2.1 0).bind (getI .i64)).bind fun n3 =>
some ((.int .i64 n3), q1.2.2)
else
none)))) = some r) : run (Et base) 96 [(.slice v0 v0n v0n), (.int .i64 v1)] h = some r := run_i Try.func96 (by kernel_rfl) ((f96_eq base v0 v0n v1 h).trans hx)
/-! spec.l11Said (gates 0) -/
noncomputable def B97_0 (base : Nat) : Body := fun l h => lay s97_0 l fun s => exCode (Et base) (run (Et base)) loopL a97_0 (subC [1, 0, 1, 0, 0] (bodyC Try.f97)) s h (keepK s97_0 e97_0)
theorem B97_0_eq (base : Nat) (v0 : Option Addr) (v0n : Nat) (v3 : Int) (h : AH) : B97_0 base [some (.slice v0 v0n v0n), some (.int .i64 v3)] h =
((if (decide (v3 < ((v0n : Nat) : Int))) = true then
((if 0 ≤ v3 ∧ v3 < ((v0n : Nat) : Int) then
((v0 : Option Addr)).bind fun a2 =>
((cell h a2.block ((a2.off + Int.toNat v3 * 6) + 0)).bind (getI .i64)).bind fun n3 =>
(run (Et base) 62 [(.int .i64 n3), (.int .i64 (1 : Int)), (.int .i64 (3 : Int))] h).bind fun r4 =>
((some r4.1).bind getB).bind fun b5 =>
(if (!b5) = true then
some (.inl ([some (.slice v0 v0n v0n), some (.int .i64 v3), some (.bool true)], r4.2))
else
(if 0 ≤ v3 ∧ v3 < ((v0n : Nat) : Int) then
((v0 : Option Addr)).bind fun a6 =>
((cell r4.2 a6.block ((a6.off + Int.toNat v3 * 6) + 1)).bind (getI .i64)).bind fun n7 =>
(run (Et base) 62 [(.int .i64 n7), (.int .i64 (1 : Int)), (.int .i64 (99999 : Int))] r4.2).bind fun r8 =>
((some r8.1).bind getB).bind fun b9 =>
(if (!b9) = true then
some (.inl ([some (.slice v0 v0n v0n), some (.int .i64 v3), some (.bool true)], r8.2))
else
(if 0 ≤ v3 ∧ v3 < ((v0n : Nat) : Int) then
((v0 : Option Addr)).bind fun a10 =>
((cell r8.2 a10.block ((a10.off + Int.toNat v3 * 6) + 2)).bind (getI .i64)).bind fun n11 =>
((cell r8.2 a10.block (((a10.off + Int.toNat v3 * 6) + 2) + 1)).bind (getI .i64)).bind fun n12 =>
((cell r8.2 a10.block ((((a10.off + Int.toNat v3 * 6) + 2) + 1) + 1)).bind getStr).bind fun s13 =>
((cell r8.2 a10.block (((((a10.off + Int.toNat v3 * 6) + 2) + 1) + 1) + 1)).bind getS).bind fun l14 =>
(run (Et base) 63 [(.agg #[(.int .i64 n11), (.int .i64 n12), (.string s13), (.slice l14.1 l14.2 l14.2)])] r8.2).bind fun r15 =>
((some r15.1).bind getB).bind fun b16 =>
some (.inl ([some (.slice v0 v0n v0n), some (.int .i64 v3), some (.bool (!b16))], r15.2))
else none))
else none))
else none)).bind fun j1 => joinK j1 fun j1 =>
((sget j1.1 0).bind getS).bind fun l17 =>
((sget (j1.1.tail) 0).bind (getI .i64)).bind fun n18 =>
((sget (j1.1.tail.tail) 0).bind getB).bind fun b19 =>
(if b19 = true then
some (1, [some (.bool false)], j1.2)
else
some (0, [some (.slice l17.1 l17.2 l17.2), some (.int .i64 (IntKind.wrap .i64 (n18 + (1 : Int))))], j1.2))
else
some (2, [some (.slice v0 v0n v0n)], h)) : Option (Nat × Slots × AH)) := by kernel_rfl
theorem f97_eq (base : Nat) (v0 : Option Addr) (v0n : Nat) (h : AH) : exFun (Et base) (run (Et base)) loopL a97 Try.f97 [(.slice v0 v0n v0n)] h =
((loopL (B97_0 base) [some (.slice v0 v0n v0n), some (.int .i64 (0 : Int))] h).bind fun q1 =>
(if q1.1 = 1 then
((sget q1.2.1 0).bind getB).bind fun b2 =>
some ((.bool b2), q1.2.2)
else
(if q1.1 = 2 then
((sget q1.2.1 0).bind getS).bind fun l3 =>
some ((.bool (decide (((l3.2 : Nat) : Int) ≤ (500 : Int)))), q1.2.2)
else
none)) : Option (Value × AH)) := by kernel_rfl
theorem r97 {base : Nat} {v0 : Option Addr} {v0n : Nat} {h : AH} {r : Value × AH} (hx :
((loopL (B97_0 base) [some (.slice v0 v0n v0n), some (.int .i64 (0 : Int))] h).bind fun q1 =>
(if q1.1 = 1 then
((sget q1.2.1 0).bind getB).bind fun b2 =>
some ((.bool b2), q1.2.2)
else
(if q1.1 = 2 then
((sget q1.2.1 0).bind getS).bind fun l3 =>
some ((.bool (decide (((l3.2 : Nat) : Int) ≤ (500 : Int)))), q1.2.2)
else
none))) = some r) : run (Et base) 97 [(.slice v0 v0n v0n)] h = some r := run_i Try.func97 (by kernel_rfl) ((f97_eq base v0 v0n h).trans hx)
/-! spec.l11Both (gates 0) -/
noncomputable def B98_0 (base : Nat) : Body := fun l h => lay s98_0 l fun s => exCode (Et base) (run (Et base)) loopL a98_0 (subC [1, 1, 0, 1, 0, 0] (bodyC Try.f98)) s h (keepK s98_0 e98_0)
theorem B98_0_eq (base : Nat) (v2 : Addr) (v5 : Addr) (v6 : Int) (h : AH) : B98_0 base [some (.pointer (some v2)), some (.pointer (some v5)), some (.int .i64 v6)] h =
(((cell h v5.block (v5.off + 4)).bind getS).bind fun l1 =>
(if (decide (v6 < ((l1.2 : Nat) : Int))) = true then
((cell h v2.block v2.off).bind getS).bind fun l2 =>
((cell h v2.block (v2.off + 1)).bind getS).bind fun l3 =>
((cell h v2.block ((v2.off + 1) + 1)).bind (getI .i64)).bind fun n4 =>
((cell h v2.block (((v2.off + 1) + 1) + 1)).bind getS).bind fun l5 =>
((cell h v5.block (v5.off + 4)).bind getS).bind fun l6 =>
(if 0 ≤ v6 ∧ v6 < ((l6.2 : Nat) : Int) then
((l6.1 : Option Addr)).bind fun a7 =>
((cell h a7.block (a7.off + Int.toNat v6 * 1)).bind (getI .i64)).bind fun n8 =>
(run (Et base) 129 [(.agg #[(.slice l2.1 l2.2 l2.2), (.slice l3.1 l3.2 l3.2), (.int .i64 n4), (.slice l5.1 l5.2 l5.2)]), (.int .i64 n8)] h).bind fun r9 =>
((some r9.1).bind (getI .i64)).bind fun n10 =>
((if (decide (n10 ≥ (0 : Int))) = true then
((cell r9.2 v2.block (v2.off + 1)).bind getS).bind fun l12 =>
(if 0 ≤ n10 ∧ n10 < ((l12.2 : Nat) : Int) then
((l12.1 : Option Addr)).bind fun a13 =>
((cell r9.2 a13.block ((a13.off + Int.toNat n10 * 5) + 4)).bind getS).bind fun l14 =>
((cell r9.2 v5.block (v5.off + 0)).bind (getI .i64)).bind fun n15 =>
(run (Et base) 130 [(.slice l14.1 l14.2 l14.2), (.int .i64 n15)] r9.2).bind fun r16 =>
((some r16.1).bind getB).bind fun b17 =>
some (.inl ([some (.pointer (some v2)), some (.pointer (some v5)), some (.int .i64 v6), some (.bool (!b17))], r16.2))
else none)
else
some (.inl ([some (.pointer (some v2)), some (.pointer (some v5)), some (.int .i64 v6), some (.bool false)], r9.2)))).bind fun j11 => joinK j11 fun j11 =>
((sget j11.1 0).bind getA).bind fun d18 =>
((sget (j11.1.tail) 0).bind getA).bind fun d19 =>
((sget (j11.1.tail.tail) 0).bind (getI .i64)).bind fun n20 =>
((sget (j11.1.tail.tail.tail) 0).bind getB).bind fun b21 =>
(if b21 = true then
some (1, [some (.bool false)], j11.2)
else
some (0, [some (.pointer (some d18)), some (.pointer (some d19)), some (.int .i64 (IntKind.wrap .i64 (n20 + (1 : Int))))], j11.2))
else none)
else
some (2, [], h)) : Option (Nat × Slots × AH)) := by kernel_rfl
theorem f98_eq (base : Nat) (v0_0 : Option Addr) (v0_0n : Nat) (v0_1 : Option Addr) (v0_1n : Nat) (v0_2 : Int) (v0_3 : Option Addr) (v0_3n : Nat) (v1 : Int) (h : AH) : exFun (Et base) (run (Et base)) loopL a98 Try.f98 [(.agg #[(.slice v0_0 v0_0n v0_0n), (.slice v0_1 v0_1n v0_1n), (.int .i64 v0_2), (.slice v0_3 v0_3n v0_3n)]), (.int .i64 v1)] h =
((some (h ++ [some ⟨[(.slice v0_0 v0_0n v0_0n), (.slice v0_1 v0_1n v0_1n), (.int .i64 v0_2), (.slice v0_3 v0_3n v0_3n)], 70⟩])).bind fun h1 =>
((cell h1 (List.length h) 1).bind getS).bind fun l2 =>
(if 0 ≤ v1 ∧ v1 < ((l2.2 : Nat) : Int) then
((l2.1 : Option Addr)).bind fun a3 =>
((cell h1 a3.block (a3.off + Int.toNat v1 * 5)).bind (getI .i64)).bind fun n4 =>
((cell h1 a3.block ((a3.off + Int.toNat v1 * 5) + 1)).bind (getI .i64)).bind fun n5 =>
((cell h1 a3.block (((a3.off + Int.toNat v1 * 5) + 1) + 1)).bind getS).bind fun l6 =>
((cell h1 a3.block ((((a3.off + Int.toNat v1 * 5) + 1) + 1) + 1)).bind getS).bind fun l7 =>
((cell h1 a3.block (((((a3.off + Int.toNat v1 * 5) + 1) + 1) + 1) + 1)).bind getS).bind fun l8 =>
(some (h1 ++ [some ⟨[(.int .i64 0), (.int .i64 0), (.slice none 0 0), (.slice none 0 0), (.slice none 0 0)], 29⟩])).bind fun h9 =>
(wr base h9 (List.length h1) 0 [(.int .i64 n4), (.int .i64 n5), (.slice l6.1 l6.2 l6.2), (.slice l7.1 l7.2 l7.2), (.slice l8.1 l8.2 l8.2)]).bind fun h10 =>
(loopL (B98_0 base) [some (.pointer (some ⟨(List.length h), 0, none⟩)), some (.pointer (some ⟨(List.length h1), 0, none⟩)), some (.int .i64 (0 : Int))] h10).bind fun q11 =>
(if q11.1 = 1 then
((sget q11.2.1 0).bind getB).bind fun b12 =>
some ((.bool b12), q11.2.2)
else
(if q11.1 = 2 then
some ((.bool true), q11.2.2)
else
none))
else none) : Option (Value × AH)) := by kernel_rfl
theorem r98 {base : Nat} {v0_0 : Option Addr} {v0_0n : Nat} {v0_1 : Option Addr} {v0_1n : Nat} {v0_2 : Int} {v0_3 : Option Addr} {v0_3n : Nat} {v1 : Int} {h : AH} {r : Value × AH} (hx :
((some (h ++ [some ⟨[(.slice v0_0 v0_0n v0_0n), (.slice v0_1 v0_1n v0_1n), (.int .i64 v0_2), (.slice v0_3 v0_3n v0_3n)], 70⟩])).bind fun h1 =>
((cell h1 (List.length h) 1).bind getS).bind fun l2 =>
(if 0 ≤ v1 ∧ v1 < ((l2.2 : Nat) : Int) then
((l2.1 : Option Addr)).bind fun a3 =>
((cell h1 a3.block (a3.off + Int.toNat v1 * 5)).bind (getI .i64)).bind fun n4 =>
((cell h1 a3.block ((a3.off + Int.toNat v1 * 5) + 1)).bind (getI .i64)).bind fun n5 =>
((cell h1 a3.block (((a3.off + Int.toNat v1 * 5) + 1) + 1)).bind getS).bind fun l6 =>
((cell h1 a3.block ((((a3.off + Int.toNat v1 * 5) + 1) + 1) + 1)).bind getS).bind fun l7 =>
((cell h1 a3.block (((((a3.off + Int.toNat v1 * 5) + 1) + 1) + 1) + 1)).bind getS).bind fun l8 =>
(some (h1 ++ [some ⟨[(.int .i64 0), (.int .i64 0), (.slice none 0 0), (.slice none 0 0), (.slice none 0 0)], 29⟩])).bind fun h9 =>
(wr base h9 (List.length h1) 0 [(.int .i64 n4), (.int .i64 n5), (.slice l6.1 l6.2 l6.2), (.slice l7.1 l7.2 l7.2), (.slice l8.1 l8.2 l8.2)]).bind fun h10 =>
(loopL (B98_0 base) [some (.pointer (some ⟨(List.length h), 0, none⟩)), some (.pointer (some ⟨(List.length h1), 0, none⟩)), some (.int .i64 (0 : Int))] h10).bind fun q11 =>
(if q11.1 = 1 then
((sget q11.2.1 0).bind getB).bind fun b12 =>
some ((.bool b12), q11.2.2)
else
(if q11.1 = 2 then
some ((.bool true), q11.2.2)
else
none))
else none)) = some r) : run (Et base) 98 [(.agg #[(.slice v0_0 v0_0n v0_0n), (.slice v0_1 v0_1n v0_1n), (.int .i64 v0_2), (.slice v0_3 v0_3n v0_3n)]), (.int .i64 v1)] h = some r := run_i Try.func98 (by kernel_rfl) ((f98_eq base v0_0 v0_0n v0_1 v0_1n v0_2 v0_3 v0_3n v1 h).trans hx)
/-! laws.toActorS (gates 0) -/
noncomputable def B99_0 (base : Nat) : Body := fun l h => lay s99_0 l fun s => exCode (Et base) (run (Et base)) loopL a99_0 (subC [1, 1, 0, 1, 0, 0] (bodyC Try.f99)) s h (keepK s99_0 e99_0)
theorem B99_0_eq (base : Nat) (v0 : Option Addr) (v0n : Nat) (v3 : Option Addr) (v3n : Nat) (v4 : Int) (h : AH) : B99_0 base [some (.slice v0 v0n v0n), some (.slice v3 v3n v3n), some (.int .i64 v4)] h =
((if (decide (v4 < ((v0n : Nat) : Int))) = true then
(if 0 ≤ v4 ∧ v4 < ((v0n : Nat) : Int) then
((v0 : Option Addr)).bind fun a1 =>
((cell h a1.block (a1.off + Int.toNat v4 * 5)).bind (getI .i64)).bind fun n2 =>
((cell h a1.block ((a1.off + Int.toNat v4 * 5) + 1)).bind (getI .i64)).bind fun n3 =>
((cell h a1.block (((a1.off + Int.toNat v4 * 5) + 1) + 1)).bind getS).bind fun l4 =>
((cell h a1.block ((((a1.off + Int.toNat v4 * 5) + 1) + 1) + 1)).bind getS).bind fun l5 =>
((cell h a1.block (((((a1.off + Int.toNat v4 * 5) + 1) + 1) + 1) + 1)).bind getS).bind fun l6 =>
(run (Et base) 38 [(.agg #[(.int .i64 n2), (.int .i64 n3), (.slice l4.1 l4.2 l4.2), (.slice l5.1 l5.2 l5.2), (.slice l6.1 l6.2 l6.2)])] h).bind fun r7 =>
((some r7.1).bind (getAgg 5)).bind fun l8 =>
((l8[0]?).bind (getI .i64)).bind fun n9 =>
((l8[1]?).bind (getI .i64)).bind fun n10 =>
((l8[2]?).bind getS).bind fun l11 =>
((l8[3]?).bind getS).bind fun l12 =>
((l8[4]?).bind getS).bind fun l13 =>
(if 0 ≤ v4 ∧ v4 < ((v3n : Nat) : Int) then
((v3 : Option Addr)).bind fun a14 =>
(wr base r7.2 a14.block (a14.off + Int.toNat v4 * 5) [(.int .i64 n9), (.int .i64 n10), (.slice l11.1 l11.2 l11.2), (.slice l12.1 l12.2 l12.2), (.slice l13.1 l13.2 l13.2)]).bind fun h15 =>
some (0, [some (.slice v0 v0n v0n), some (.slice v3 v3n v3n), some (.int .i64 (IntKind.wrap .i64 (v4 + (1 : Int))))], h15)
else none)
else none)
else
some (2, [some (.slice v3 v3n v3n)], h)) : Option (Nat × Slots × AH)) := by kernel_rfl
theorem f99_eq (base : Nat) (v0 : Option Addr) (v0n : Nat) (h : AH) : exFun (Et base) (run (Et base)) loopL a99 Try.f99 [(.slice v0 v0n v0n)] h =
((if ((v0n : Nat) : Int) = ((v0n : Nat) : Int) ∧ 0 ≤ ((v0n : Nat) : Int) ∧ ((v0n : Nat) : Int) * 88 ≤ 140737488355328 ∧ ((v0n : Nat) : Int) ≤ 140737488355328 then
(some (h ++ [some ⟨rep [(.int .i64 0), (.int .i64 0), (.slice none 0 0), (.slice none 0 0), (.slice none 0 0)] (Int.toNat ((v0n : Nat) : Int)), 29⟩])).bind fun h1 =>
(loopL (B99_0 base) [some (.slice v0 v0n v0n), some (.slice (some ⟨(List.length h), 0, none⟩) (Int.toNat ((v0n : Nat) : Int)) (Int.toNat ((v0n : Nat) : Int))), some (.int .i64 (0 : Int))] h1).bind fun q2 =>
(if q2.1 = 2 then
((sget q2.2.1 0).bind getS).bind fun l3 =>
some ((.slice l3.1 l3.2 l3.2), q2.2.2)
else
none)
else none) : Option (Value × AH)) := by kernel_rfl
theorem r99 {base : Nat} {v0 : Option Addr} {v0n : Nat} {h : AH} {r : Value × AH} (hx :
((if ((v0n : Nat) : Int) = ((v0n : Nat) : Int) ∧ 0 ≤ ((v0n : Nat) : Int) ∧ ((v0n : Nat) : Int) * 88 ≤ 140737488355328 ∧ ((v0n : Nat) : Int) ≤ 140737488355328 then
(some (h ++ [some ⟨rep [(.int .i64 0), (.int .i64 0), (.slice none 0 0), (.slice none 0 0), (.slice none 0 0)] (Int.toNat ((v0n : Nat) : Int)), 29⟩])).bind fun h1 =>
(loopL (B99_0 base) [some (.slice v0 v0n v0n), some (.slice (some ⟨(List.length h), 0, none⟩) (Int.toNat ((v0n : Nat) : Int)) (Int.toNat ((v0n : Nat) : Int))), some (.int .i64 (0 : Int))] h1).bind fun q2 =>
(if q2.1 = 2 then
((sget q2.2.1 0).bind getS).bind fun l3 =>
some ((.slice l3.1 l3.2 l3.2), q2.2.2)
else
none)
else none)) = some r) : run (Et base) 99 [(.slice v0 v0n v0n)] h = some r := run_i Try.func99 (by kernel_rfl) ((f99_eq base v0 v0n h).trans hx)
/-! laws.toSaidS (gates 0) -/
noncomputable def B100_0 (base : Nat) : Body := fun l h => lay s100_0 l fun s => exCode (Et base) (run (Et base)) loopL a100_0 (subC [1, 1, 0, 1, 0, 0] (bodyC Try.f100)) s h (keepK s100_0 e100_0)
theorem B100_0_eq (base : Nat) (v0 : Option Addr) (v0n : Nat) (v3 : Option Addr) (v3n : Nat) (v4 : Int) (h : AH) : B100_0 base [some (.slice v0 v0n v0n), some (.slice v3 v3n v3n), some (.int .i64 v4)] h =
((if (decide (v4 < ((v0n : Nat) : Int))) = true then
(if 0 ≤ v4 ∧ v4 < ((v0n : Nat) : Int) then
((v0 : Option Addr)).bind fun a1 =>
((cell h a1.block (a1.off + Int.toNat v4 * 6)).bind (getI .i64)).bind fun n2 =>
((cell h a1.block ((a1.off + Int.toNat v4 * 6) + 1)).bind (getI .i64)).bind fun n3 =>
((cell h a1.block (((a1.off + Int.toNat v4 * 6) + 1) + 1)).bind (getI .i64)).bind fun n4 =>
((cell h a1.block ((((a1.off + Int.toNat v4 * 6) + 1) + 1) + 1)).bind (getI .i64)).bind fun n5 =>
((cell h a1.block (((((a1.off + Int.toNat v4 * 6) + 1) + 1) + 1) + 1)).bind getStr).bind fun s6 =>
((cell h a1.block ((((((a1.off + Int.toNat v4 * 6) + 1) + 1) + 1) + 1) + 1)).bind getS).bind fun l7 =>
(run (Et base) 131 [(.agg #[(.int .i64 n2), (.int .i64 n3), (.int .i64 n4), (.int .i64 n5), (.string s6), (.slice l7.1 l7.2 l7.2)])] h).bind fun r8 =>
((some r8.1).bind (getAgg 6)).bind fun l9 =>
((l9[0]?).bind (getI .i64)).bind fun n10 =>
((l9[1]?).bind (getI .i64)).bind fun n11 =>
((l9[2]?).bind (getI .i64)).bind fun n12 =>
((l9[3]?).bind (getI .i64)).bind fun n13 =>
((l9[4]?).bind getStr).bind fun s14 =>
((l9[5]?).bind getS).bind fun l15 =>
(if 0 ≤ v4 ∧ v4 < ((v3n : Nat) : Int) then
((v3 : Option Addr)).bind fun a16 =>
(wr base r8.2 a16.block (a16.off + Int.toNat v4 * 6) [(.int .i64 n10), (.int .i64 n11), (.int .i64 n12), (.int .i64 n13), (.string s14), (.slice l15.1 l15.2 l15.2)]).bind fun h17 =>
some (0, [some (.slice v0 v0n v0n), some (.slice v3 v3n v3n), some (.int .i64 (IntKind.wrap .i64 (v4 + (1 : Int))))], h17)
else none)
else none)
else
some (2, [some (.slice v3 v3n v3n)], h)) : Option (Nat × Slots × AH)) := by kernel_rfl
theorem f100_eq (base : Nat) (v0 : Option Addr) (v0n : Nat) (h : AH) : exFun (Et base) (run (Et base)) loopL a100 Try.f100 [(.slice v0 v0n v0n)] h =
((if ((v0n : Nat) : Int) = ((v0n : Nat) : Int) ∧ 0 ≤ ((v0n : Nat) : Int) ∧ ((v0n : Nat) : Int) * 72 ≤ 140737488355328 ∧ ((v0n : Nat) : Int) ≤ 140737488355328 then
(some (h ++ [some ⟨rep [(.int .i64 0), (.int .i64 0), (.int .i64 0), (.int .i64 0), (.string ⟨#[]⟩), (.slice none 0 0)] (Int.toNat ((v0n : Nat) : Int)), 174⟩])).bind fun h1 =>
(loopL (B100_0 base) [some (.slice v0 v0n v0n), some (.slice (some ⟨(List.length h), 0, none⟩) (Int.toNat ((v0n : Nat) : Int)) (Int.toNat ((v0n : Nat) : Int))), some (.int .i64 (0 : Int))] h1).bind fun q2 =>
(if q2.1 = 2 then
((sget q2.2.1 0).bind getS).bind fun l3 =>
some ((.slice l3.1 l3.2 l3.2), q2.2.2)
else
none)
else none) : Option (Value × AH)) := by kernel_rfl
theorem r100 {base : Nat} {v0 : Option Addr} {v0n : Nat} {h : AH} {r : Value × AH} (hx :
((if ((v0n : Nat) : Int) = ((v0n : Nat) : Int) ∧ 0 ≤ ((v0n : Nat) : Int) ∧ ((v0n : Nat) : Int) * 72 ≤ 140737488355328 ∧ ((v0n : Nat) : Int) ≤ 140737488355328 then
(some (h ++ [some ⟨rep [(.int .i64 0), (.int .i64 0), (.int .i64 0), (.int .i64 0), (.string ⟨#[]⟩), (.slice none 0 0)] (Int.toNat ((v0n : Nat) : Int)), 174⟩])).bind fun h1 =>
(loopL (B100_0 base) [some (.slice v0 v0n v0n), some (.slice (some ⟨(List.length h), 0, none⟩) (Int.toNat ((v0n : Nat) : Int)) (Int.toNat ((v0n : Nat) : Int))), some (.int .i64 (0 : Int))] h1).bind fun q2 =>
(if q2.1 = 2 then
((sget q2.2.1 0).bind getS).bind fun l3 =>
some ((.slice l3.1 l3.2 l3.2), q2.2.2)
else
none)
else none)) = some r) : run (Et base) 100 [(.slice v0 v0n v0n)] h = some r := run_i Try.func100 (by kernel_rfl) ((f100_eq base v0 v0n h).trans hx)
/-! impl.outOk (gates 0) -/
noncomputable def B101_0 (base : Nat) : Body := fun l h => lay s101_0 l fun s => exCode (Et base) (run (Et base)) loopL a101_0 (subC [1, 0, 1, 0, 0] (bodyC Try.f101)) s h (keepK s101_0 e101_0)
theorem B101_0_eq (base : Nat) (v0 : Option Addr) (v0n : Nat) (v5 : Option Addr) (v5n : Nat) (v6 : Int) (v7 : Int) (h : AH) : B101_0 base [some (.slice v0 v0n v0n), some (.slice v5 v5n v5n), some (.int .i64 v6), some (.int .i64 v7)] h =
((if (decide (v7 < v6)) = true then
(if 0 ≤ v7 ∧ v7 < ((v5n : Nat) : Int) then
((v5 : Option Addr)).bind fun a1 =>
((cell h a1.block (a1.off + Int.toNat v7 * 6)).bind (getI .i64)).bind fun n2 =>
((cell h a1.block ((a1.off + Int.toNat v7 * 6) + 1)).bind (getI .i64)).bind fun n3 =>
((cell h a1.block (((a1.off + Int.toNat v7 * 6) + 1) + 1)).bind (getI .i64)).bind fun n4 =>
((cell h a1.block ((((a1.off + Int.toNat v7 * 6) + 1) + 1) + 1)).bind (getI .i64)).bind fun n5 =>
((cell h a1.block (((((a1.off + Int.toNat v7 * 6) + 1) + 1) + 1) + 1)).bind getStr).bind fun s6 =>
((cell h a1.block ((((((a1.off + Int.toNat v7 * 6) + 1) + 1) + 1) + 1) + 1)).bind getS).bind fun l7 =>
(some (h ++ [some ⟨[(.int .i64 0), (.int .i64 0), (.int .i64 0), (.int .i64 0), (.string ⟨#[]⟩), (.slice none 0 0)], 174⟩])).bind fun h8 =>
(wr base h8 (List.length h) 0 [(.int .i64 n2), (.int .i64 n3), (.int .i64 n4), (.int .i64 n5), (.string s6), (.slice l7.1 l7.2 l7.2)]).bind fun h9 =>
(((cell h9 (List.length h) 0).bind (getI .i64)).bind fun n11 =>
(run (Et base) 67 [(.int .i64 n11), (.int .i64 (1 : Int)), (.int .i64 (3 : Int))] h9).bind fun r12 =>
((some r12.1).bind getB).bind fun b13 =>
(if (!b13) = true then
some (.inl ([some (.slice v0 v0n v0n), some (.slice v5 v5n v5n), some (.int .i64 v6), some (.int .i64 v7), some (.bool true)], r12.2))
else
((cell r12.2 (List.length h) 1).bind (getI .i64)).bind fun n14 =>
(run (Et base) 67 [(.int .i64 n14), (.int .i64 (1 : Int)), (.int .i64 (99999 : Int))] r12.2).bind fun r15 =>
((some r15.1).bind getB).bind fun b16 =>
(if (!b16) = true then
some (.inl ([some (.slice v0 v0n v0n), some (.slice v5 v5n v5n), some (.int .i64 v6), some (.int .i64 v7), some (.bool true)], r15.2))
else
((cell r15.2 (List.length h) 2).bind (getI .i64)).bind fun n17 =>
((cell r15.2 (List.length h) 3).bind (getI .i64)).bind fun n18 =>
((cell r15.2 (List.length h) 4).bind getStr).bind fun s19 =>
((cell r15.2 (List.length h) 5).bind getS).bind fun l20 =>
(run (Et base) 68 [(.agg #[(.int .i64 n17), (.int .i64 n18), (.string s19), (.slice l20.1 l20.2 l20.2)])] r15.2).bind fun r21 =>
((some r21.1).bind getB).bind fun b22 =>
some (.inl ([some (.slice v0 v0n v0n), some (.slice v5 v5n v5n), some (.int .i64 v6), some (.int .i64 v7), some (.bool (!b22))], r21.2))))).bind fun j10 => joinK j10 fun j10 =>
((sget j10.1 0).bind getS).bind fun l23 =>
((sget (j10.1.tail) 0).bind getS).bind fun l24 =>
((sget (j10.1.tail.tail) 0).bind (getI .i64)).bind fun n25 =>
((sget (j10.1.tail.tail.tail) 0).bind (getI .i64)).bind fun n26 =>
((sget (j10.1.tail.tail.tail.tail) 0).bind getB).bind fun b27 =>
(if b27 = true then
some (1, [some (.bool false)], j10.2)
else
some (0, [some (.slice l23.1 l23.2 l23.2), some (.slice l24.1 l24.2 l24.2), some (.int .i64 n25), some (.int .i64 (IntKind.wrap .i64 (n26 + (1 : Int))))], j10.2))
else none)
else
some (2, [some (.slice v0 v0n v0n)], h)) : Option (Nat × Slots × AH)) := by kernel_rfl
theorem f101_eq (base : Nat) (v0 : Option Addr) (v0n : Nat) (h : AH) : exFun (Et base) (run (Et base)) loopL a101 Try.f101 [(.slice v0 v0n v0n)] h =
((loopL (B101_0 base) [some (.slice v0 v0n v0n), some (.slice v0 v0n v0n), some (.int .i64 ((v0n : Nat) : Int)), some (.int .i64 (0 : Int))] h).bind fun q1 =>
(if q1.1 = 1 then
((sget q1.2.1 0).bind getB).bind fun b2 =>
some ((.bool b2), q1.2.2)
else
(if q1.1 = 2 then
((sget q1.2.1 0).bind getS).bind fun l3 =>
some ((.bool (decide (((l3.2 : Nat) : Int) ≤ (500 : Int)))), q1.2.2)
else
none)) : Option (Value × AH)) := by kernel_rfl
theorem r101 {base : Nat} {v0 : Option Addr} {v0n : Nat} {h : AH} {r : Value × AH} (hx :
((loopL (B101_0 base) [some (.slice v0 v0n v0n), some (.slice v0 v0n v0n), some (.int .i64 ((v0n : Nat) : Int)), some (.int .i64 (0 : Int))] h).bind fun q1 =>
(if q1.1 = 1 then
((sget q1.2.1 0).bind getB).bind fun b2 =>
some ((.bool b2), q1.2.2)
else
(if q1.1 = 2 then
((sget q1.2.1 0).bind getS).bind fun l3 =>
some ((.bool (decide (((l3.2 : Nat) : Int) ≤ (500 : Int)))), q1.2.2)
else
none))) = some r) : run (Et base) 101 [(.slice v0 v0n v0n)] h = some r := run_i Try.func101 (by kernel_rfl) ((f101_eq base v0 v0n h).trans hx)
/-! impl.Plain).at (gates 0) -/
noncomputable def B102_0 (base : Nat) : Body := fun l h => lay s102_0 l fun s => exCode (Et base) (run (Et base)) loopL a102_0 (subC [1, 0, 1, 0, 0] (bodyC Try.f102)) s h (keepK s102_0 e102_0)
theorem B102_0_eq (base : Nat) (v1 : Int) (v10 : Option Addr) (v10n : Nat) (v11 : Int) (v12 : Int) (h : AH) : B102_0 base [some (.int .i64 v1), some (.slice v10 v10n v10n), some (.int .i64 v11), some (.int .i64 v12)] h =
((if (decide (v12 < v11)) = true then
(if 0 ≤ v12 ∧ v12 < ((v10n : Nat) : Int) then
((v10 : Option Addr)).bind fun a1 =>
((cell h a1.block (a1.off + Int.toNat v12 * 5)).bind (getI .i64)).bind fun n2 =>
((cell h a1.block ((a1.off + Int.toNat v12 * 5) + 1)).bind (getI .i64)).bind fun n3 =>
((cell h a1.block (((a1.off + Int.toNat v12 * 5) + 1) + 1)).bind getS).bind fun l4 =>
((cell h a1.block ((((a1.off + Int.toNat v12 * 5) + 1) + 1) + 1)).bind getS).bind fun l5 =>
((cell h a1.block (((((a1.off + Int.toNat v12 * 5) + 1) + 1) + 1) + 1)).bind getS).bind fun l6 =>
(some (h ++ [some ⟨[(.int .i64 0), (.int .i64 0), (.slice none 0 0), (.slice none 0 0), (.slice none 0 0)], 29⟩])).bind fun h7 =>
(wr base h7 (List.length h) 0 [(.int .i64 n2), (.int .i64 n3), (.slice l4.1 l4.2 l4.2), (.slice l5.1 l5.2 l5.2), (.slice l6.1 l6.2 l6.2)]).bind fun h8 =>
((cell h8 (List.length h) 0).bind (getI .i64)).bind fun n9 =>
(if (n9 == v1) = true then
some (1, [some (.int .i64 v12)], h8)
else
some (0, [some (.int .i64 v1), some (.slice v10 v10n v10n), some (.int .i64 v11), some (.int .i64 (IntKind.wrap .i64 (v12 + (1 : Int))))], h8))
else none)
else
some (2, [], h)) : Option (Nat × Slots × AH)) := by kernel_rfl
theorem f102_eq (base : Nat) (v0 : Option Addr) (v1 : Int) (h : AH) : exFun (Et base) (run (Et base)) loopL a102 Try.f102 [(.pointer v0), (.int .i64 v1)] h =
((v0).bind fun a1 =>
((cell h a1.block (a1.off + 1)).bind getS).bind fun l2 =>
(loopL (B102_0 base) [some (.int .i64 v1), some (.slice l2.1 l2.2 l2.2), some (.int .i64 ((l2.2 : Nat) : Int)), some (.int .i64 (0 : Int))] h).bind fun q3 =>
(if q3.1 = 1 then
((sget q3.2.1 0).bind (getI .i64)).bind fun n4 =>
some ((.int .i64 n4), q3.2.2)
else
(if q3.1 = 2 then
some ((.int .i64 (-1 : Int)), q3.2.2)
else
none)) : Option (Value × AH)) := by kernel_rfl
theorem r102 {base : Nat} {v0 : Option Addr} {v1 : Int} {h : AH} {r : Value × AH} (hx :
((v0).bind fun a1 =>
((cell h a1.block (a1.off + 1)).bind getS).bind fun l2 =>
(loopL (B102_0 base) [some (.int .i64 v1), some (.slice l2.1 l2.2 l2.2), some (.int .i64 ((l2.2 : Nat) : Int)), some (.int .i64 (0 : Int))] h).bind fun q3 =>
(if q3.1 = 1 then
((sget q3.2.1 0).bind (getI .i64)).bind fun n4 =>
some ((.int .i64 n4), q3.2.2)
else
(if q3.1 = 2 then
some ((.int .i64 (-1 : Int)), q3.2.2)
else
none))) = some r) : run (Et base) 102 [(.pointer v0), (.int .i64 v1)] h = some r := run_i Try.func102 (by kernel_rfl) ((f102_eq base v0 v1 h).trans hx)
/-! impl.hasInt (gates 0) -/
noncomputable def B103_0 (base : Nat) : Body := fun l h => lay s103_0 l fun s => exCode (Et base) (run (Et base)) loopL a103_0 (subC [1, 0, 1, 0, 0] (bodyC Try.f103)) s h (keepK s103_0 e103_0)
theorem B103_0_eq (base : Nat) (v1 : Int) (v7 : Option Addr) (v7n : Nat) (v8 : Int) (v9 : Int) (h : AH) : B103_0 base [some (.int .i64 v1), some (.slice v7 v7n v7n), some (.int .i64 v8), some (.int .i64 v9)] h =
((if (decide (v9 < v8)) = true then
(if 0 ≤ v9 ∧ v9 < ((v7n : Nat) : Int) then
((v7 : Option Addr)).bind fun a1 =>
((cell h a1.block (a1.off + Int.toNat v9 * 1)).bind (getI .i64)).bind fun n2 =>
(if (n2 == v1) = true then
some (1, [some (.bool true)], h)
else
some (0, [some (.int .i64 v1), some (.slice v7 v7n v7n), some (.int .i64 v8), some (.int .i64 (IntKind.wrap .i64 (v9 + (1 : Int))))], h))
else none)
else
some (2, [], h)) : Option (Nat × Slots × AH)) := by kernel_rfl
theorem f103_eq (base : Nat) (v0 : Option Addr) (v0n : Nat) (v1 : Int) (h : AH) : exFun (Et base) (run (Et base)) loopL a103 Try.f103 [(.slice v0 v0n v0n), (.int .i64 v1)] h =
((loopL (B103_0 base) [some (.int .i64 v1), some (.slice v0 v0n v0n), some (.int .i64 ((v0n : Nat) : Int)), some (.int .i64 (0 : Int))] h).bind fun q1 =>
(if q1.1 = 1 then
((sget q1.2.1 0).bind getB).bind fun b2 =>
some ((.bool b2), q1.2.2)
else
(if q1.1 = 2 then
some ((.bool false), q1.2.2)
else
none)) : Option (Value × AH)) := by kernel_rfl
theorem r103 {base : Nat} {v0 : Option Addr} {v0n : Nat} {v1 : Int} {h : AH} {r : Value × AH} (hx :
((loopL (B103_0 base) [some (.int .i64 v1), some (.slice v0 v0n v0n), some (.int .i64 ((v0n : Nat) : Int)), some (.int .i64 (0 : Int))] h).bind fun q1 =>
(if q1.1 = 1 then
((sget q1.2.1 0).bind getB).bind fun b2 =>
some ((.bool b2), q1.2.2)
else
(if q1.1 = 2 then
some ((.bool false), q1.2.2)
else
none))) = some r) : run (Et base) 103 [(.slice v0 v0n v0n), (.int .i64 v1)] h = some r := run_i Try.func103 (by kernel_rfl) ((f103_eq base v0 v0n v1 h).trans hx)
/-! laws.eqActorS (gates 0) -/
noncomputable def B104_0 (base : Nat) : Body := fun l h => lay s104_0 l fun s => exCode (Et base) (run (Et base)) loopL a104_0 (subC [1, 1, 0, 1, 0, 0] (bodyC Try.f104)) s h (keepK s104_0 e104_0)
theorem B104_0_eq (base : Nat) (v0 : Option Addr) (v0n : Nat) (v1 : Option Addr) (v1n : Nat) (v5 : Int) (h : AH) : B104_0 base [some (.slice v0 v0n v0n), some (.slice v1 v1n v1n), some (.int .i64 v5)] h =
((if (decide (v5 < ((v0n : Nat) : Int))) = true then
(if 0 ≤ v5 ∧ v5 < ((v0n : Nat) : Int) then
((v0 : Option Addr)).bind fun a1 =>
((cell h a1.block (a1.off + Int.toNat v5 * 5)).bind (getI .i64)).bind fun n2 =>
((cell h a1.block ((a1.off + Int.toNat v5 * 5) + 1)).bind (getI .i64)).bind fun n3 =>
((cell h a1.block (((a1.off + Int.toNat v5 * 5) + 1) + 1)).bind getS).bind fun l4 =>
((cell h a1.block ((((a1.off + Int.toNat v5 * 5) + 1) + 1) + 1)).bind getS).bind fun l5 =>
((cell h a1.block (((((a1.off + Int.toNat v5 * 5) + 1) + 1) + 1) + 1)).bind getS).bind fun l6 =>
(if 0 ≤ v5 ∧ v5 < ((v1n : Nat) : Int) then
((v1 : Option Addr)).bind fun a7 =>
((cell h a7.block (a7.off + Int.toNat v5 * 5)).bind (getI .i64)).bind fun n8 =>
((cell h a7.block ((a7.off + Int.toNat v5 * 5) + 1)).bind (getI .i64)).bind fun n9 =>
((cell h a7.block (((a7.off + Int.toNat v5 * 5) + 1) + 1)).bind getS).bind fun l10 =>
((cell h a7.block ((((a7.off + Int.toNat v5 * 5) + 1) + 1) + 1)).bind getS).bind fun l11 =>
((cell h a7.block (((((a7.off + Int.toNat v5 * 5) + 1) + 1) + 1) + 1)).bind getS).bind fun l12 =>
(run (Et base) 15 [(.agg #[(.int .i64 n2), (.int .i64 n3), (.slice l4.1 l4.2 l4.2), (.slice l5.1 l5.2 l5.2), (.slice l6.1 l6.2 l6.2)]), (.agg #[(.int .i64 n8), (.int .i64 n9), (.slice l10.1 l10.2 l10.2), (.slice l11.1 l11.2 l11.2), (.slice l12.1 l12.2 l12.2)])] h).bind fun r13 =>
((some r13.1).bind getB).bind fun b14 =>
(if (!b14) = true then
some (1, [some (.bool false)], r13.2)
else
some (0, [some (.slice v0 v0n v0n), some (.slice v1 v1n v1n), some (.int .i64 (IntKind.wrap .i64 (v5 + (1 : Int))))], r13.2))
else none)
else none)
else
some (2, [], h)) : Option (Nat × Slots × AH)) := by kernel_rfl
theorem f104_eq (base : Nat) (v0 : Option Addr) (v0n : Nat) (v1 : Option Addr) (v1n : Nat) (h : AH) : exFun (Et base) (run (Et base)) loopL a104 Try.f104 [(.slice v0 v0n v0n), (.slice v1 v1n v1n)] h =
((if (((v0n : Nat) : Int) != ((v1n : Nat) : Int)) = true then
some ((.bool false), h)
else
(loopL (B104_0 base) [some (.slice v0 v0n v0n), some (.slice v1 v1n v1n), some (.int .i64 (0 : Int))] h).bind fun q1 =>
(if q1.1 = 1 then
((sget q1.2.1 0).bind getB).bind fun b2 =>
some ((.bool b2), q1.2.2)
else
(if q1.1 = 2 then
some ((.bool true), q1.2.2)
else
none))) : Option (Value × AH)) := by kernel_rfl
theorem r104 {base : Nat} {v0 : Option Addr} {v0n : Nat} {v1 : Option Addr} {v1n : Nat} {h : AH} {r : Value × AH} (hx :
((if (((v0n : Nat) : Int) != ((v1n : Nat) : Int)) = true then
some ((.bool false), h)
else
(loopL (B104_0 base) [some (.slice v0 v0n v0n), some (.slice v1 v1n v1n), some (.int .i64 (0 : Int))] h).bind fun q1 =>
(if q1.1 = 1 then
((sget q1.2.1 0).bind getB).bind fun b2 =>
some ((.bool b2), q1.2.2)
else
(if q1.1 = 2 then
some ((.bool true), q1.2.2)
else
none)))) = some r) : run (Et base) 104 [(.slice v0 v0n v0n), (.slice v1 v1n v1n)] h = some r := run_i Try.func104 (by kernel_rfl) ((f104_eq base v0 v0n v1 v1n h).trans hx)
end Go.Proofs.Ytnmjhhipbfngkaa.Am
