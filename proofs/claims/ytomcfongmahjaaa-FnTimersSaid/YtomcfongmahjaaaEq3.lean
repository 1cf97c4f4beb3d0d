/- What each of these functions comes to on the abstract machine, one equation a function and one a loop.
Conditions: none. -/
import Derived.Test.YtomcfongmahjaaaTb
set_option linter.unusedVariables false
namespace Go.Proofs.Ytomcfongmahjaaa.Am
open Go Go.RowKit
/-! laws.markTermS (gates 0) -/
noncomputable def B34_0 (base : Nat) : Body := fun l h => lay s34_0 l fun s => exCode (Et base) (run (Et base)) loopL a34_0 (subC [1, 0, 1, 0, 0] (bodyC Try.f34)) s h (keepK s34_0 e34_0)
theorem B34_0_eq (base : Nat) (v0 : Option Addr) (v0n : Nat) (v1 : Int) (v5 : Int) (h : AH) : B34_0 base [some (.slice v0 v0n v0n), some (.int .i64 v1), some (.int .i64 v5)] h =
((if (decide (v5 < ((v0n : Nat) : Int))) = true then
(if 0 ≤ v5 ∧ v5 < ((v0n : Nat) : Int) then
((v0 : Option Addr)).bind fun a1 =>
(wr base h a1.block ((a1.off + Int.toNat v5 * 4) + 0) [(.int .i64 v1)]).bind fun h2 =>
(if 0 ≤ v5 ∧ v5 < ((v0n : Nat) : Int) then
((v0 : Option Addr)).bind fun a3 =>
(wr base h2 a3.block ((a3.off + Int.toNat v5 * 4) + 1) [(.int .i64 (IntKind.wrap .i64 (v1 + (1 : Int))))]).bind fun h4 =>
(run (Et base) 33 [(.int .i64 (IntKind.wrap .i64 ((IntKind.wrap .i64 (v1 + (1 : Int))) + (1 : Int))))] h4).bind fun r5 =>
((some r5.1).bind getStr).bind fun s6 =>
(if 0 ≤ v5 ∧ v5 < ((v0n : Nat) : Int) then
((v0 : Option Addr)).bind fun a7 =>
(wr base r5.2 a7.block ((a7.off + Int.toNat v5 * 4) + 2) [(.string s6)]).bind fun h8 =>
(if 0 ≤ v5 ∧ v5 < ((v0n : Nat) : Int) then
((v0 : Option Addr)).bind fun a9 =>
((cell h8 a9.block ((a9.off + Int.toNat v5 * 4) + 3)).bind getS).bind fun l10 =>
(run (Et base) 34 [(.slice l10.1 l10.2 l10.2), (.int .i64 (IntKind.wrap .i64 ((IntKind.wrap .i64 ((IntKind.wrap .i64 (v1 + (1 : Int))) + (1 : Int))) + (1 : Int))))] h8).bind fun r11 =>
((some r11.1).bind (getI .i64)).bind fun n12 =>
some (0, [some (.slice v0 v0n v0n), some (.int .i64 n12), some (.int .i64 (IntKind.wrap .i64 (v5 + (1 : Int))))], r11.2)
else none)
else none)
else none)
else none)
else
some (2, [some (.int .i64 v1)], h)) : Option (Nat × Slots × AH)) := by kernel_rfl
theorem f34_eq (base : Nat) (v0 : Option Addr) (v0n : Nat) (v1 : Int) (h : AH) : exFun (Et base) (run (Et base)) loopL a34 Try.f34 [(.slice v0 v0n v0n), (.int .i64 v1)] h =
((loopL (B34_0 base) [some (.slice v0 v0n v0n), some (.int .i64 v1), some (.int .i64 (0 : Int))] h).bind fun q1 =>
(if q1.1 = 2 then
((sget q1.2.1 0).bind (getI .i64)).bind fun n2 =>
some ((.int .i64 n2), q1.2.2)
else
none) : Option (Value × AH)) := by kernel_rfl
theorem r34 {base : Nat} {v0 : Option Addr} {v0n : Nat} {v1 : Int} {h : AH} {r : Value × AH} (hx :
((loopL (B34_0 base) [some (.slice v0 v0n v0n), some (.int .i64 v1), some (.int .i64 (0 : Int))] h).bind fun q1 =>
(if q1.1 = 2 then
((sget q1.2.1 0).bind (getI .i64)).bind fun n2 =>
some ((.int .i64 n2), q1.2.2)
else
none)) = some r) : run (Et base) 34 [(.slice v0 v0n v0n), (.int .i64 v1)] h = some r := run_i Try.func34 (by kernel_rfl) ((f34_eq base v0 v0n v1 h).trans hx)
/-! laws.markTerm (gates 0) -/
theorem f35_eq (base : Nat) (v0_0 : Int) (v0_1 : Int) (v0_2 : ByteArray) (v0_3 : Option Addr) (v0_3n : Nat) (v1 : Int) (h : AH) : exFun (Et base) (run (Et base)) loopL a35 Try.f35 [(.agg #[(.int .i64 v0_0), (.int .i64 v0_1), (.string v0_2), (.slice v0_3 v0_3n v0_3n)]), (.int .i64 v1)] h =
((some (h ++ [some ⟨[(.int .i64 v0_0), (.int .i64 v0_1), (.string v0_2), (.slice v0_3 v0_3n v0_3n)], 27⟩])).bind fun h1 =>
((cell h1 (List.length h) 3).bind getS).bind fun l2 =>
(run (Et base) 34 [(.slice l2.1 l2.2 l2.2), (.int .i64 v1)] h1).bind fun r3 =>
((some r3.1).bind (getI .i64)).bind fun n4 =>
some ((.int .i64 n4), r3.2) : Option (Value × AH)) := by kernel_rfl
theorem r35 {base : Nat} {v0_0 : Int} {v0_1 : Int} {v0_2 : ByteArray} {v0_3 : Option Addr} {v0_3n : Nat} {v1 : Int} {h : AH} {r : Value × AH} (hx :
((some (h ++ [some ⟨[(.int .i64 v0_0), (.int .i64 v0_1), (.string v0_2), (.slice v0_3 v0_3n v0_3n)], 27⟩])).bind fun h1 =>
((cell h1 (List.length h) 3).bind getS).bind fun l2 =>
(run (Et base) 34 [(.slice l2.1 l2.2 l2.2), (.int .i64 v1)] h1).bind fun r3 =>
((some r3.1).bind (getI .i64)).bind fun n4 =>
some ((.int .i64 n4), r3.2)) = some r) : run (Et base) 35 [(.agg #[(.int .i64 v0_0), (.int .i64 v0_1), (.string v0_2), (.slice v0_3 v0_3n v0_3n)]), (.int .i64 v1)] h = some r := run_i Try.func35 (by kernel_rfl) ((f35_eq base v0_0 v0_1 v0_2 v0_3 v0_3n v1 h).trans hx)
/-! laws.heldTermS (gates 0) -/
noncomputable def B36_0 (base : Nat) : Body := fun l h => lay s36_0 l fun s => exCode (Et base) (run (Et base)) loopL a36_0 (subC [1, 0, 1, 0, 0] (bodyC Try.f36)) s h (keepK s36_0 e36_0)
theorem B36_0_eq (base : Nat) (v0 : Option Addr) (v0n : Nat) (v1 : Int) (v5 : Int) (h : AH) : B36_0 base [some (.slice v0 v0n v0n), some (.int .i64 v1), some (.int .i64 v5)] h =
((if (decide (v5 < ((v0n : Nat) : Int))) = true then
(if 0 ≤ v5 ∧ v5 < ((v0n : Nat) : Int) then
((v0 : Option Addr)).bind fun a1 =>
((cell h a1.block ((a1.off + Int.toNat v5 * 4) + 0)).bind (getI .i64)).bind fun n2 =>
(if (n2 != v1) = true then
some (1, [some (.int .i64 (-1 : Int))], h)
else
(if 0 ≤ v5 ∧ v5 < ((v0n : Nat) : Int) then
((v0 : Option Addr)).bind fun a3 =>
((cell h a3.block ((a3.off + Int.toNat v5 * 4) + 1)).bind (getI .i64)).bind fun n4 =>
(if (n4 != (IntKind.wrap .i64 (v1 + (1 : Int)))) = true then
some (1, [some (.int .i64 (-1 : Int))], h)
else
(if 0 ≤ v5 ∧ v5 < ((v0n : Nat) : Int) then
((v0 : Option Addr)).bind fun a5 =>
((cell h a5.block ((a5.off + Int.toNat v5 * 4) + 2)).bind getStr).bind fun s6 =>
(run (Et base) 33 [(.int .i64 (IntKind.wrap .i64 ((IntKind.wrap .i64 (v1 + (1 : Int))) + (1 : Int))))] h).bind fun r7 =>
((some r7.1).bind getStr).bind fun s8 =>
(gate (sameA h r7.2 (some ⟨a5.block, ((a5.off + Int.toNat v5 * 4) + 2), none⟩) 1)
((if (!(s6.toList == s8.toList)) = true then
some (1, [some (.int .i64 (-1 : Int))], r7.2)
else
(if 0 ≤ v5 ∧ v5 < ((v0n : Nat) : Int) then
((v0 : Option Addr)).bind fun a9 =>
((cell r7.2 a9.block ((a9.off + Int.toNat v5 * 4) + 3)).bind getS).bind fun l10 =>
(run (Et base) 36 [(.slice l10.1 l10.2 l10.2), (.int .i64 (IntKind.wrap .i64 ((IntKind.wrap .i64 ((IntKind.wrap .i64 (v1 + (1 : Int))) + (1 : Int))) + (1 : Int))))] r7.2).bind fun r11 =>
((some r11.1).bind (getI .i64)).bind fun n12 =>
(if (decide (n12 < (0 : Int))) = true then
some (1, [some (.int .i64 (-1 : Int))], r11.2)
else
some (0, [some (.slice v0 v0n v0n), some (.int .i64 n12), some (.int .i64 (IntKind.wrap .i64 (v5 + (1 : Int))))], r11.2))
else none))))
else none))
else none))
else none)
else
some (2, [some (.int .i64 v1)], h)) : Option (Nat × Slots × AH)) := by kernel_rfl
theorem f36_eq (base : Nat) (v0 : Option Addr) (v0n : Nat) (v1 : Int) (h : AH) : exFun (Et base) (run (Et base)) loopL a36 Try.f36 [(.slice v0 v0n v0n), (.int .i64 v1)] h =
((loopL (B36_0 base) [some (.slice v0 v0n v0n), some (.int .i64 v1), some (.int .i64 (0 : Int))] h).bind fun q1 =>
(if q1.1 = 1 then
((sget q1.2.1 0).bind (getI .i64)).bind fun n2 =>
some ((.int .i64 n2), q1.2.2)
else
(if q1.1 = 2 then
((sget q1.2.1 0).bind (getI .i64)).bind fun n3 =>
some ((.int .i64 n3), q1.2.2)
else
none)) : Option (Value × AH)) := by kernel_rfl
theorem r36 {base : Nat} {v0 : Option Addr} {v0n : Nat} {v1 : Int} {h : AH} {r : Value × AH} (hx :
((loopL (B36_0 base) [some (.slice v0 v0n v0n), some (.int .i64 v1), some (.int .i64 (0 : Int))] h).bind fun q1 =>
(if q1.1 = 1 then
((sget q1.2.1 0).bind (getI .i64)).bind fun n2 =>
some ((.int .i64 n2), q1.2.2)
else
(if q1.1 = 2 then
((sget q1.2.1 0).bind (getI .i64)).bind fun n3 =>
some ((.int .i64 n3), q1.2.2)
else
none))) = some r) : run (Et base) 36 [(.slice v0 v0n v0n), (.int .i64 v1)] h = some r := run_i Try.func36 (by kernel_rfl) ((f36_eq base v0 v0n v1 h).trans hx)
/-! spec.l14Draw (gates 0) -/
noncomputable def B37_0 (base : Nat) : Body := fun l h => lay s37_0 l fun s => exCode (Et base) (run (Et base)) loopL a37_0 (subC [1, 1, 0, 1, 0, 0] (bodyC Try.f37)) s h (keepK s37_0 e37_0)
theorem B37_0_eq (base : Nat) (v0 : Option Addr) (v3 : Option Addr) (v3n : Nat) (v4 : Int) (h : AH) : B37_0 base [some (.pointer v0), some (.slice v3 v3n v3n), some (.int .i64 v4)] h =
((if (decide (v4 > (0 : Int))) = true then
(run (Et base) 39 [(.pointer v0)] h).bind fun r1 =>
((some r1.1).bind (getAgg 6)).bind fun l2 =>
((l2[0]?).bind (getI .i64)).bind fun n3 =>
((l2[1]?).bind (getI .i64)).bind fun n4 =>
((l2[2]?).bind (getI .i64)).bind fun n5 =>
((l2[3]?).bind (getI .i64)).bind fun n6 =>
((l2[4]?).bind getStr).bind fun s7 =>
((l2[5]?).bind getS).bind fun l8 =>
(run (Et base) 8 [(.slice v3 v3n v3n), (.agg #[(.int .i64 n3), (.int .i64 n4), (.int .i64 n5), (.int .i64 n6), (.string s7), (.slice l8.1 l8.2 l8.2)])] r1.2).bind fun r9 =>
(getTup 2 r9.1).bind fun l10 =>
((l10[0]?).bind getS).bind fun l11 =>
((l10[1]?).bind getB).bind fun b12 =>
some (0, [some (.pointer v0), some (.slice l11.1 l11.2 l11.2), some (.int .i64 (IntKind.wrap .i64 (v4 - (1 : Int))))], r9.2)
else
some (2, [some (.slice v3 v3n v3n)], h)) : Option (Nat × Slots × AH)) := by kernel_rfl
theorem f37_eq (base : Nat) (v0 : Option Addr) (h : AH) : exFun (Et base) (run (Et base)) loopL a37 Try.f37 [(.pointer v0)] h =
((some (h ++ [some ⟨[], 29⟩])).bind fun h1 =>
(run (Et base) 40 [(.pointer v0), (.int .i64 (7 : Int))] h1).bind fun r2 =>
((some r2.1).bind (getI .i64)).bind fun n3 =>
(loopL (B37_0 base) [some (.pointer v0), some (.slice (some ⟨(List.length h), 0, none⟩) 0 0), some (.int .i64 n3)] r2.2).bind fun q4 =>
(if q4.1 = 2 then
((sget q4.2.1 0).bind getS).bind fun l5 =>
some ((.slice l5.1 l5.2 l5.2), q4.2.2)
else
none) : Option (Value × AH)) := by kernel_rfl
theorem r37 {base : Nat} {v0 : Option Addr} {h : AH} {r : Value × AH} (hx :
((some (h ++ [some ⟨[], 29⟩])).bind fun h1 =>
(run (Et base) 40 [(.pointer v0), (.int .i64 (7 : Int))] h1).bind fun r2 =>
((some r2.1).bind (getI .i64)).bind fun n3 =>
(loopL (B37_0 base) [some (.pointer v0), some (.slice (some ⟨(List.length h), 0, none⟩) 0 0), some (.int .i64 n3)] r2.2).bind fun q4 =>
(if q4.1 = 2 then
((sget q4.2.1 0).bind getS).bind fun l5 =>
some ((.slice l5.1 l5.2 l5.2), q4.2.2)
else
none)) = some r) : run (Et base) 37 [(.pointer v0)] h = some r := run_i Try.func37 (by kernel_rfl) ((f37_eq base v0 h).trans hx)
/-! spec.l1Once (gates 0) -/
theorem f38_eq (base : Nat) (v0 : Option Addr) (v1 : Int) (h : AH) : exFun (Et base) (run (Et base)) loopL a38 Try.f38 [(.pointer v0), (.int .i64 v1)] h =
((run (Et base) 40 [(.pointer v0), (.int .i64 v1)] h).bind fun r1 =>
((some r1.1).bind (getI .i64)).bind fun n2 =>
some ((.bool (n2 == (0 : Int))), r1.2) : Option (Value × AH)) := by kernel_rfl
theorem r38 {base : Nat} {v0 : Option Addr} {v1 : Int} {h : AH} {r : Value × AH} (hx :
((run (Et base) 40 [(.pointer v0), (.int .i64 v1)] h).bind fun r1 =>
((some r1.1).bind (getI .i64)).bind fun n2 =>
some ((.bool (n2 == (0 : Int))), r1.2)) = some r) : run (Et base) 38 [(.pointer v0), (.int .i64 v1)] h = some r := run_i Try.func38 (by kernel_rfl) ((f38_eq base v0 v1 h).trans hx)
/-! spec.l14One (gates 0) -/
theorem f39_eq (base : Nat) (v0 : Option Addr) (h : AH) : exFun (Et base) (run (Et base)) loopL a39 Try.f39 [(.pointer v0)] h =
((some (h ++ [some ⟨[(.int .i64 0), (.int .i64 0), (.int .i64 0), (.int .i64 0), (.string ⟨#[]⟩), (.slice none 0 0)], 29⟩])).bind fun h1 =>
(some (h1 ++ [some ⟨[(.int .i64 (0 : Int)), (.int .i64 (1 : Int)), (.int .i64 (2 : Int)), (.int .i64 (3 : Int)), (.int .i64 (9 : Int)), (.int .i64 (1000000000 : Int))], 3⟩])).bind fun h2 =>
(run (Et base) 42 [(.pointer v0), (.slice (some ⟨(List.length h1), 0, none⟩) 6 6)] h2).bind fun r3 =>
((some r3.1).bind (getI .i64)).bind fun n4 =>
(run (Et base) 40 [(.pointer v0), (.int .i64 (3 : Int))] r3.2).bind fun r5 =>
((some r5.1).bind (getI .i64)).bind fun n6 =>
(run (Et base) 52 [(.pointer v0), (.int .i64 (1 : Int))] r5.2).bind fun r7 =>
((some r7.1).bind (getAgg 4)).bind fun l8 =>
((l8[0]?).bind (getI .i64)).bind fun n9 =>
((l8[1]?).bind (getI .i64)).bind fun n10 =>
((l8[2]?).bind getStr).bind fun s11 =>
((l8[3]?).bind getS).bind fun l12 =>
(wr base r7.2 (List.length h) 0 [(.int .i64 n4), (.int .i64 (IntKind.wrap .i64 ((1 : Int) + n6))), (.int .i64 n9), (.int .i64 n10), (.string s11), (.slice l12.1 l12.2 l12.2)]).bind fun h13 =>
((cell h13 (List.length h) 0).bind (getI .i64)).bind fun n14 =>
((cell h13 (List.length h) 1).bind (getI .i64)).bind fun n15 =>
((cell h13 (List.length h) 2).bind (getI .i64)).bind fun n16 =>
((cell h13 (List.length h) 3).bind (getI .i64)).bind fun n17 =>
((cell h13 (List.length h) 4).bind getStr).bind fun s18 =>
((cell h13 (List.length h) 5).bind getS).bind fun l19 =>
some ((.agg #[(.int .i64 n14), (.int .i64 n15), (.int .i64 n16), (.int .i64 n17), (.string s18), (.slice l19.1 l19.2 l19.2)]), h13) : Option (Value × AH)) := by kernel_rfl
theorem r39 {base : Nat} {v0 : Option Addr} {h : AH} {r : Value × AH} (hx :
((some (h ++ [some ⟨[(.int .i64 0), (.int .i64 0), (.int .i64 0), (.int .i64 0), (.string ⟨#[]⟩), (.slice none 0 0)], 29⟩])).bind fun h1 =>
(some (h1 ++ [some ⟨[(.int .i64 (0 : Int)), (.int .i64 (1 : Int)), (.int .i64 (2 : Int)), (.int .i64 (3 : Int)), (.int .i64 (9 : Int)), (.int .i64 (1000000000 : Int))], 3⟩])).bind fun h2 =>
(run (Et base) 42 [(.pointer v0), (.slice (some ⟨(List.length h1), 0, none⟩) 6 6)] h2).bind fun r3 =>
((some r3.1).bind (getI .i64)).bind fun n4 =>
(run (Et base) 40 [(.pointer v0), (.int .i64 (3 : Int))] r3.2).bind fun r5 =>
((some r5.1).bind (getI .i64)).bind fun n6 =>
(run (Et base) 52 [(.pointer v0), (.int .i64 (1 : Int))] r5.2).bind fun r7 =>
((some r7.1).bind (getAgg 4)).bind fun l8 =>
((l8[0]?).bind (getI .i64)).bind fun n9 =>
((l8[1]?).bind (getI .i64)).bind fun n10 =>
((l8[2]?).bind getStr).bind fun s11 =>
((l8[3]?).bind getS).bind fun l12 =>
(wr base r7.2 (List.length h) 0 [(.int .i64 n4), (.int .i64 (IntKind.wrap .i64 ((1 : Int) + n6))), (.int .i64 n9), (.int .i64 n10), (.string s11), (.slice l12.1 l12.2 l12.2)]).bind fun h13 =>
((cell h13 (List.length h) 0).bind (getI .i64)).bind fun n14 =>
((cell h13 (List.length h) 1).bind (getI .i64)).bind fun n15 =>
((cell h13 (List.length h) 2).bind (getI .i64)).bind fun n16 =>
((cell h13 (List.length h) 3).bind (getI .i64)).bind fun n17 =>
((cell h13 (List.length h) 4).bind getStr).bind fun s18 =>
((cell h13 (List.length h) 5).bind getS).bind fun l19 =>
some ((.agg #[(.int .i64 n14), (.int .i64 n15), (.int .i64 n16), (.int .i64 n17), (.string s18), (.slice l19.1 l19.2 l19.2)]), h13)) = some r) : run (Et base) 39 [(.pointer v0)] h = some r := run_i Try.func39 (by kernel_rfl) ((f39_eq base v0 h).trans hx)
/-! spec.l1Below (gates 0) -/
theorem f40_eq (base : Nat) (v0 : Option Addr) (v1 : Int) (h : AH) : exFun (Et base) (run (Et base)) loopL a40 Try.f40 [(.pointer v0), (.int .i64 v1)] h =
((if (decide (v1 ≤ (0 : Int))) = true then
some ((.int .i64 (0 : Int)), h)
else
(if (decide (v1 ≤ (256 : Int))) = true then
(run (Et base) 53 [(.pointer v0)] h).bind fun r1 =>
((some r1.1).bind (getI .i64)).bind fun n2 =>
(if v1 = 0 then none else
some ((.int .i64 (Int.tmod n2 v1)), r1.2))
else
(run (Et base) 53 [(.pointer v0)] h).bind fun r3 =>
((some r3.1).bind (getI .i64)).bind fun n4 =>
(run (Et base) 53 [(.pointer v0)] r3.2).bind fun r5 =>
((some r5.1).bind (getI .i64)).bind fun n6 =>
(run (Et base) 53 [(.pointer v0)] r5.2).bind fun r7 =>
((some r7.1).bind (getI .i64)).bind fun n8 =>
(if v1 = 0 then none else
some ((.int .i64 (Int.tmod (IntKind.wrap .i64 ((IntKind.wrap .i64 ((IntKind.wrap .i64 (n4 * (65536 : Int))) + (IntKind.wrap .i64 (n6 * (256 : Int))))) + n8)) v1)), r7.2)))) : Option (Value × AH)) := by kernel_rfl
theorem r40 {base : Nat} {v0 : Option Addr} {v1 : Int} {h : AH} {r : Value × AH} (hx :
((if (decide (v1 ≤ (0 : Int))) = true then
some ((.int .i64 (0 : Int)), h)
else
(if (decide (v1 ≤ (256 : Int))) = true then
(run (Et base) 53 [(.pointer v0)] h).bind fun r1 =>
((some r1.1).bind (getI .i64)).bind fun n2 =>
(if v1 = 0 then none else
some ((.int .i64 (Int.tmod n2 v1)), r1.2))
else
(run (Et base) 53 [(.pointer v0)] h).bind fun r3 =>
((some r3.1).bind (getI .i64)).bind fun n4 =>
(run (Et base) 53 [(.pointer v0)] r3.2).bind fun r5 =>
((some r5.1).bind (getI .i64)).bind fun n6 =>
(run (Et base) 53 [(.pointer v0)] r5.2).bind fun r7 =>
((some r7.1).bind (getI .i64)).bind fun n8 =>
(if v1 = 0 then none else
some ((.int .i64 (Int.tmod (IntKind.wrap .i64 ((IntKind.wrap .i64 ((IntKind.wrap .i64 (n4 * (65536 : Int))) + (IntKind.wrap .i64 (n6 * (256 : Int))))) + n8)) v1)), r7.2))))) = some r) : run (Et base) 40 [(.pointer v0), (.int .i64 v1)] h = some r := run_i Try.func40 (by kernel_rfl) ((f40_eq base v0 v1 h).trans hx)
/-! spec.l9Int (gates 0) -/
theorem f41_eq (base : Nat) (v0 : Int) (h : AH) : exFun (Et base) (run (Et base)) loopL a41 Try.f41 [(.int .i64 v0)] h =
((some (h ++ [some ⟨[(.int .i64 0), (.int .i64 0), (.string ⟨#[]⟩), (.slice none 0 0)], 27⟩])).bind fun h1 =>
(wr base h1 (List.length h) 0 [(.int .i64 (1 : Int)), (.int .i64 v0), (.string (⟨#[]⟩ : ByteArray)), (.slice none 0 0)]).bind fun h2 =>
((cell h2 (List.length h) 0).bind (getI .i64)).bind fun n3 =>
((cell h2 (List.length h) 1).bind (getI .i64)).bind fun n4 =>
((cell h2 (List.length h) 2).bind getStr).bind fun s5 =>
((cell h2 (List.length h) 3).bind getS).bind fun l6 =>
some ((.agg #[(.int .i64 n3), (.int .i64 n4), (.string s5), (.slice l6.1 l6.2 l6.2)]), h2) : Option (Value × AH)) := by kernel_rfl
theorem r41 {base : Nat} {v0 : Int} {h : AH} {r : Value × AH} (hx :
((some (h ++ [some ⟨[(.int .i64 0), (.int .i64 0), (.string ⟨#[]⟩), (.slice none 0 0)], 27⟩])).bind fun h1 =>
(wr base h1 (List.length h) 0 [(.int .i64 (1 : Int)), (.int .i64 v0), (.string (⟨#[]⟩ : ByteArray)), (.slice none 0 0)]).bind fun h2 =>
((cell h2 (List.length h) 0).bind (getI .i64)).bind fun n3 =>
((cell h2 (List.length h) 1).bind (getI .i64)).bind fun n4 =>
((cell h2 (List.length h) 2).bind getStr).bind fun s5 =>
((cell h2 (List.length h) 3).bind getS).bind fun l6 =>
some ((.agg #[(.int .i64 n3), (.int .i64 n4), (.string s5), (.slice l6.1 l6.2 l6.2)]), h2)) = some r) : run (Et base) 41 [(.int .i64 v0)] h = some r := run_i Try.func41 (by kernel_rfl) ((f41_eq base v0 h).trans hx)
/-! spec.l1Int (gates 0) -/
theorem f42_eq (base : Nat) (v0 : Option Addr) (v1 : Option Addr) (v1n : Nat) (h : AH) : exFun (Et base) (run (Et base)) loopL a42 Try.f42 [(.pointer v0), (.slice v1 v1n v1n)] h =
((run (Et base) 40 [(.pointer v0), (.int .i64 ((v1n : Nat) : Int))] h).bind fun r1 =>
((some r1.1).bind (getI .i64)).bind fun n2 =>
(if 0 ≤ n2 ∧ n2 < ((v1n : Nat) : Int) then
((v1 : Option Addr)).bind fun a3 =>
((cell r1.2 a3.block (a3.off + Int.toNat n2 * 1)).bind (getI .i64)).bind fun n4 =>
some ((.int .i64 n4), r1.2)
else none) : Option (Value × AH)) := by kernel_rfl
theorem r42 {base : Nat} {v0 : Option Addr} {v1 : Option Addr} {v1n : Nat} {h : AH} {r : Value × AH} (hx :
((run (Et base) 40 [(.pointer v0), (.int .i64 ((v1n : Nat) : Int))] h).bind fun r1 =>
((some r1.1).bind (getI .i64)).bind fun n2 =>
(if 0 ≤ n2 ∧ n2 < ((v1n : Nat) : Int) then
((v1 : Option Addr)).bind fun a3 =>
((cell r1.2 a3.block (a3.off + Int.toNat n2 * 1)).bind (getI .i64)).bind fun n4 =>
some ((.int .i64 n4), r1.2)
else none)) = some r) : run (Et base) 42 [(.pointer v0), (.slice v1 v1n v1n)] h = some r := run_i Try.func42 (by kernel_rfl) ((f42_eq base v0 v1 v1n h).trans hx)
/-! spec.l1Any (gates 0) -/
theorem f43_eq (base : Nat) (v0 : Option Addr) (h : AH) : exFun (Et base) (run (Et base)) loopL a43 Try.f43 [(.pointer v0)] h =
((some (h ++ [some ⟨[(.int .i64 0), (.int .i64 0), (.string ⟨#[]⟩), (.slice none 0 0)], 27⟩])).bind fun h1 =>
(run (Et base) 52 [(.pointer v0), (.int .i64 (3 : Int))] h1).bind fun r2 =>
((some r2.1).bind (getAgg 4)).bind fun l3 =>
((l3[0]?).bind (getI .i64)).bind fun n4 =>
((l3[1]?).bind (getI .i64)).bind fun n5 =>
((l3[2]?).bind getStr).bind fun s6 =>
((l3[3]?).bind getS).bind fun l7 =>
(some (r2.2 ++ [some ⟨[(.int .i64 0), (.int .i64 0), (.string ⟨#[]⟩), (.slice none 0 0)], 27⟩])).bind fun h8 =>
(wr base h8 (List.length r2.2) 0 [(.int .i64 n4), (.int .i64 n5), (.string s6), (.slice l7.1 l7.2 l7.2)]).bind fun h9 =>
((run (Et base) 38 [(.pointer v0), (.int .i64 (5 : Int))] h9).bind fun r11 =>
((some r11.1).bind getB).bind fun b12 =>
(if b12 = true then
((cell r11.2 (List.length r2.2) 0).bind (getI .i64)).bind fun n13 =>
((cell r11.2 (List.length r2.2) 1).bind (getI .i64)).bind fun n14 =>
((cell r11.2 (List.length r2.2) 2).bind getStr).bind fun s15 =>
((cell r11.2 (List.length r2.2) 3).bind getS).bind fun l16 =>
(run (Et base) 54 [(.pointer v0), (.agg #[(.int .i64 n13), (.int .i64 n14), (.string s15), (.slice l16.1 l16.2 l16.2)])] r11.2).bind fun r17 =>
((some r17.1).bind (getAgg 4)).bind fun l18 =>
((l18[0]?).bind (getI .i64)).bind fun n19 =>
((l18[1]?).bind (getI .i64)).bind fun n20 =>
((l18[2]?).bind getStr).bind fun s21 =>
((l18[3]?).bind getS).bind fun l22 =>
(wr base r17.2 (List.length r2.2) 0 [(.int .i64 n19), (.int .i64 n20), (.string s21), (.slice l22.1 l22.2 l22.2)]).bind fun h23 =>
some (.inl ([some (.pointer (some ⟨(List.length h), 0, none⟩)), some (.pointer (some ⟨(List.length r2.2), 0, none⟩))], h23))
else
some (.inl ([some (.pointer (some ⟨(List.length h), 0, none⟩)), some (.pointer (some ⟨(List.length r2.2), 0, none⟩))], r11.2)))).bind fun j10 => joinK j10 fun j10 =>
((sget j10.1 0).bind getA).bind fun d24 =>
((sget (j10.1.tail) 0).bind getA).bind fun d25 =>
((cell j10.2 d25.block d25.off).bind (getI .i64)).bind fun n26 =>
((cell j10.2 d25.block (d25.off + 1)).bind (getI .i64)).bind fun n27 =>
((cell j10.2 d25.block ((d25.off + 1) + 1)).bind getStr).bind fun s28 =>
((cell j10.2 d25.block (((d25.off + 1) + 1) + 1)).bind getS).bind fun l29 =>
(wr base j10.2 d24.block d24.off [(.int .i64 n26), (.int .i64 n27), (.string s28), (.slice l29.1 l29.2 l29.2)]).bind fun h30 =>
((cell h30 d24.block d24.off).bind (getI .i64)).bind fun n31 =>
((cell h30 d24.block (d24.off + 1)).bind (getI .i64)).bind fun n32 =>
((cell h30 d24.block ((d24.off + 1) + 1)).bind getStr).bind fun s33 =>
((cell h30 d24.block (((d24.off + 1) + 1) + 1)).bind getS).bind fun l34 =>
some ((.agg #[(.int .i64 n31), (.int .i64 n32), (.string s33), (.slice l34.1 l34.2 l34.2)]), h30) : Option (Value × AH)) := by kernel_rfl
theorem r43 {base : Nat} {v0 : Option Addr} {h : AH} {r : Value × AH} (hx :
((some (h ++ [some ⟨[(.int .i64 0), (.int .i64 0), (.string ⟨#[]⟩), (.slice none 0 0)], 27⟩])).bind fun h1 =>
(run (Et base) 52 [(.pointer v0), (.int .i64 (3 : Int))] h1).bind fun r2 =>
((some r2.1).bind (getAgg 4)).bind fun l3 =>
((l3[0]?).bind (getI .i64)).bind fun n4 =>
((l3[1]?).bind (getI .i64)).bind fun n5 =>
((l3[2]?).bind getStr).bind fun s6 =>
((l3[3]?).bind getS).bind fun l7 =>
(some (r2.2 ++ [some ⟨[(.int .i64 0), (.int .i64 0), (.string ⟨#[]⟩), (.slice none 0 0)], 27⟩])).bind fun h8 =>
(wr base h8 (List.length r2.2) 0 [(.int .i64 n4), (.int .i64 n5), (.string s6), (.slice l7.1 l7.2 l7.2)]).bind fun h9 =>
((run (Et base) 38 [(.pointer v0), (.int .i64 (5 : Int))] h9).bind fun r11 =>
((some r11.1).bind getB).bind fun b12 =>
(if b12 = true then
((cell r11.2 (List.length r2.2) 0).bind (getI .i64)).bind fun n13 =>
((cell r11.2 (List.length r2.2) 1).bind (getI .i64)).bind fun n14 =>
((cell r11.2 (List.length r2.2) 2).bind getStr).bind fun s15 =>
((cell r11.2 (List.length r2.2) 3).bind getS).bind fun l16 =>
(run (Et base) 54 [(.pointer v0), (.agg #[(.int .i64 n13), (.int .i64 n14), (.string s15), (.slice l16.1 l16.2 l16.2)])] r11.2).bind fun r17 =>
((some r17.1).bind (getAgg 4)).bind fun l18 =>
((l18[0]?).bind (getI .i64)).bind fun n19 =>
((l18[1]?).bind (getI .i64)).bind fun n20 =>
((l18[2]?).bind getStr).bind fun s21 =>
((l18[3]?).bind getS).bind fun l22 =>
(wr base r17.2 (List.length r2.2) 0 [(.int .i64 n19), (.int .i64 n20), (.string s21), (.slice l22.1 l22.2 l22.2)]).bind fun h23 =>
some (.inl ([some (.pointer (some ⟨(List.length h), 0, none⟩)), some (.pointer (some ⟨(List.length r2.2), 0, none⟩))], h23))
else
some (.inl ([some (.pointer (some ⟨(List.length h), 0, none⟩)), some (.pointer (some ⟨(List.length r2.2), 0, none⟩))], r11.2)))).bind fun j10 => joinK j10 fun j10 =>
((sget j10.1 0).bind getA).bind fun d24 =>
((sget (j10.1.tail) 0).bind getA).bind fun d25 =>
((cell j10.2 d25.block d25.off).bind (getI .i64)).bind fun n26 =>
((cell j10.2 d25.block (d25.off + 1)).bind (getI .i64)).bind fun n27 =>
((cell j10.2 d25.block ((d25.off + 1) + 1)).bind getStr).bind fun s28 =>
((cell j10.2 d25.block (((d25.off + 1) + 1) + 1)).bind getS).bind fun l29 =>
(wr base j10.2 d24.block d24.off [(.int .i64 n26), (.int .i64 n27), (.string s28), (.slice l29.1 l29.2 l29.2)]).bind fun h30 =>
((cell h30 d24.block d24.off).bind (getI .i64)).bind fun n31 =>
((cell h30 d24.block (d24.off + 1)).bind (getI .i64)).bind fun n32 =>
((cell h30 d24.block ((d24.off + 1) + 1)).bind getStr).bind fun s33 =>
((cell h30 d24.block (((d24.off + 1) + 1) + 1)).bind getS).bind fun l34 =>
some ((.agg #[(.int .i64 n31), (.int .i64 n32), (.string s33), (.slice l34.1 l34.2 l34.2)]), h30)) = some r) : run (Et base) 43 [(.pointer v0)] h = some r := run_i Try.func43 (by kernel_rfl) ((f43_eq base v0 h).trans hx)
/-! impl.in (gates 0) -/
theorem f44_eq (base : Nat) (v0 : Int) (v1 : Int) (v2 : Int) (h : AH) : exFun (Et base) (run (Et base)) loopL a44 Try.f44 [(.int .i64 v0), (.int .i64 v1), (.int .i64 v2)] h =
((if (decide (v0 ≥ v1)) = true then
some ((.bool (decide (v0 ≤ v2))), h)
else
some ((.bool false), h)) : Option (Value × AH)) := by kernel_rfl
theorem r44 {base : Nat} {v0 : Int} {v1 : Int} {v2 : Int} {h : AH} {r : Value × AH} (hx :
((if (decide (v0 ≥ v1)) = true then
some ((.bool (decide (v0 ≤ v2))), h)
else
some ((.bool false), h))) = some r) : run (Et base) 44 [(.int .i64 v0), (.int .i64 v1), (.int .i64 v2)] h = some r := run_i Try.func44 (by kernel_rfl) ((f44_eq base v0 v1 v2 h).trans hx)
/-! impl.TermOk (gates 0) -/
theorem f45_eq (base : Nat) (v0_0 : Int) (v0_1 : Int) (v0_2 : ByteArray) (v0_3 : Option Addr) (v0_3n : Nat) (h : AH) : exFun (Et base) (run (Et base)) loopL a45 Try.f45 [(.agg #[(.int .i64 v0_0), (.int .i64 v0_1), (.string v0_2), (.slice v0_3 v0_3n v0_3n)])] h =
((some (h ++ [some ⟨[(.int .i64 v0_0), (.int .i64 v0_1), (.string v0_2), (.slice v0_3 v0_3n v0_3n)], 27⟩])).bind fun h1 =>
((cell h1 (List.length h) 0).bind (getI .i64)).bind fun n2 =>
((cell h1 (List.length h) 1).bind (getI .i64)).bind fun n3 =>
((cell h1 (List.length h) 2).bind getStr).bind fun s4 =>
((cell h1 (List.length h) 3).bind getS).bind fun l5 =>
(run (Et base) 55 [(.agg #[(.int .i64 n2), (.int .i64 n3), (.string s4), (.slice l5.1 l5.2 l5.2)]), (.int .i64 (1 : Int)), (.int .i64 (0 : Int))] h1).bind fun r6 =>
(getTup 2 r6.1).bind fun l7 =>
((l7[0]?).bind (getI .i64)).bind fun n8 =>
((l7[1]?).bind getB).bind fun b9 =>
some ((.bool b9), r6.2) : Option (Value × AH)) := by kernel_rfl
theorem r45 {base : Nat} {v0_0 : Int} {v0_1 : Int} {v0_2 : ByteArray} {v0_3 : Option Addr} {v0_3n : Nat} {h : AH} {r : Value × AH} (hx :
((some (h ++ [some ⟨[(.int .i64 v0_0), (.int .i64 v0_1), (.string v0_2), (.slice v0_3 v0_3n v0_3n)], 27⟩])).bind fun h1 =>
((cell h1 (List.length h) 0).bind (getI .i64)).bind fun n2 =>
((cell h1 (List.length h) 1).bind (getI .i64)).bind fun n3 =>
((cell h1 (List.length h) 2).bind getStr).bind fun s4 =>
((cell h1 (List.length h) 3).bind getS).bind fun l5 =>
(run (Et base) 55 [(.agg #[(.int .i64 n2), (.int .i64 n3), (.string s4), (.slice l5.1 l5.2 l5.2)]), (.int .i64 (1 : Int)), (.int .i64 (0 : Int))] h1).bind fun r6 =>
(getTup 2 r6.1).bind fun l7 =>
((l7[0]?).bind (getI .i64)).bind fun n8 =>
((l7[1]?).bind getB).bind fun b9 =>
some ((.bool b9), r6.2)) = some r) : run (Et base) 45 [(.agg #[(.int .i64 v0_0), (.int .i64 v0_1), (.string v0_2), (.slice v0_3 v0_3n v0_3n)])] h = some r := run_i Try.func45 (by kernel_rfl) ((f45_eq base v0_0 v0_1 v0_2 v0_3 v0_3n h).trans hx)
/-! impl.copyTerm (gates 0) -/
theorem f46_eq (base : Nat) (v0_0 : Int) (v0_1 : Int) (v0_2 : ByteArray) (v0_3 : Option Addr) (v0_3n : Nat) (h : AH) : exFun (Et base) (run (Et base)) loopL a46 Try.f46 [(.agg #[(.int .i64 v0_0), (.int .i64 v0_1), (.string v0_2), (.slice v0_3 v0_3n v0_3n)])] h =
((some (h ++ [some ⟨[(.int .i64 v0_0), (.int .i64 v0_1), (.string v0_2), (.slice v0_3 v0_3n v0_3n)], 27⟩])).bind fun h1 =>
(some (h1 ++ [some ⟨[(.int .i64 0), (.int .i64 0), (.string ⟨#[]⟩), (.slice none 0 0)], 27⟩])).bind fun h2 =>
((cell h2 (List.length h) 3).bind getS).bind fun l3 =>
(run (Et base) 56 [(.slice l3.1 l3.2 l3.2)] h2).bind fun r4 =>
((some r4.1).bind getS).bind fun l5 =>
(wr base r4.2 (List.length h) 3 [(.slice l5.1 l5.2 l5.2)]).bind fun h6 =>
((cell h6 (List.length h) 0).bind (getI .i64)).bind fun n7 =>
((cell h6 (List.length h) 1).bind (getI .i64)).bind fun n8 =>
((cell h6 (List.length h) 2).bind getStr).bind fun s9 =>
((cell h6 (List.length h) 3).bind getS).bind fun l10 =>
(wr base h6 (List.length h1) 0 [(.int .i64 n7), (.int .i64 n8), (.string s9), (.slice l10.1 l10.2 l10.2)]).bind fun h11 =>
((cell h11 (List.length h1) 0).bind (getI .i64)).bind fun n12 =>
((cell h11 (List.length h1) 1).bind (getI .i64)).bind fun n13 =>
((cell h11 (List.length h1) 2).bind getStr).bind fun s14 =>
((cell h11 (List.length h1) 3).bind getS).bind fun l15 =>
some ((.agg #[(.int .i64 n12), (.int .i64 n13), (.string s14), (.slice l15.1 l15.2 l15.2)]), h11) : Option (Value × AH)) := by kernel_rfl
theorem r46 {base : Nat} {v0_0 : Int} {v0_1 : Int} {v0_2 : ByteArray} {v0_3 : Option Addr} {v0_3n : Nat} {h : AH} {r : Value × AH} (hx :
((some (h ++ [some ⟨[(.int .i64 v0_0), (.int .i64 v0_1), (.string v0_2), (.slice v0_3 v0_3n v0_3n)], 27⟩])).bind fun h1 =>
(some (h1 ++ [some ⟨[(.int .i64 0), (.int .i64 0), (.string ⟨#[]⟩), (.slice none 0 0)], 27⟩])).bind fun h2 =>
((cell h2 (List.length h) 3).bind getS).bind fun l3 =>
(run (Et base) 56 [(.slice l3.1 l3.2 l3.2)] h2).bind fun r4 =>
((some r4.1).bind getS).bind fun l5 =>
(wr base r4.2 (List.length h) 3 [(.slice l5.1 l5.2 l5.2)]).bind fun h6 =>
((cell h6 (List.length h) 0).bind (getI .i64)).bind fun n7 =>
((cell h6 (List.length h) 1).bind (getI .i64)).bind fun n8 =>
((cell h6 (List.length h) 2).bind getStr).bind fun s9 =>
((cell h6 (List.length h) 3).bind getS).bind fun l10 =>
(wr base h6 (List.length h1) 0 [(.int .i64 n7), (.int .i64 n8), (.string s9), (.slice l10.1 l10.2 l10.2)]).bind fun h11 =>
((cell h11 (List.length h1) 0).bind (getI .i64)).bind fun n12 =>
((cell h11 (List.length h1) 1).bind (getI .i64)).bind fun n13 =>
((cell h11 (List.length h1) 2).bind getStr).bind fun s14 =>
((cell h11 (List.length h1) 3).bind getS).bind fun l15 =>
some ((.agg #[(.int .i64 n12), (.int .i64 n13), (.string s14), (.slice l15.1 l15.2 l15.2)]), h11)) = some r) : run (Et base) 46 [(.agg #[(.int .i64 v0_0), (.int .i64 v0_1), (.string v0_2), (.slice v0_3 v0_3n v0_3n)])] h = some r := run_i Try.func46 (by kernel_rfl) ((f46_eq base v0_0 v0_1 v0_2 v0_3 v0_3n h).trans hx)
/-! spec.l1In (gates 0) -/
theorem f47_eq (base : Nat) (v0 : Int) (v1 : Int) (v2 : Int) (h : AH) : exFun (Et base) (run (Et base)) loopL a47 Try.f47 [(.int .i64 v0), (.int .i64 v1), (.int .i64 v2)] h =
((if (decide (v0 ≥ v1)) = true then
some ((.bool (decide (v0 ≤ v2))), h)
else
some ((.bool false), h)) : Option (Value × AH)) := by kernel_rfl
theorem r47 {base : Nat} {v0 : Int} {v1 : Int} {v2 : Int} {h : AH} {r : Value × AH} (hx :
((if (decide (v0 ≥ v1)) = true then
some ((.bool (decide (v0 ≤ v2))), h)
else
some ((.bool false), h))) = some r) : run (Et base) 47 [(.int .i64 v0), (.int .i64 v1), (.int .i64 v2)] h = some r := run_i Try.func47 (by kernel_rfl) ((f47_eq base v0 v1 v2 h).trans hx)
/-! spec.TermOk (gates 0) -/
theorem f48_eq (base : Nat) (v0_0 : Int) (v0_1 : Int) (v0_2 : ByteArray) (v0_3 : Option Addr) (v0_3n : Nat) (h : AH) : exFun (Et base) (run (Et base)) loopL a48 Try.f48 [(.agg #[(.int .i64 v0_0), (.int .i64 v0_1), (.string v0_2), (.slice v0_3 v0_3n v0_3n)])] h =
((some (h ++ [some ⟨[(.int .i64 v0_0), (.int .i64 v0_1), (.string v0_2), (.slice v0_3 v0_3n v0_3n)], 27⟩])).bind fun h1 =>
((cell h1 (List.length h) 0).bind (getI .i64)).bind fun n2 =>
((cell h1 (List.length h) 1).bind (getI .i64)).bind fun n3 =>
((cell h1 (List.length h) 2).bind getStr).bind fun s4 =>
((cell h1 (List.length h) 3).bind getS).bind fun l5 =>
(run (Et base) 57 [(.agg #[(.int .i64 n2), (.int .i64 n3), (.string s4), (.slice l5.1 l5.2 l5.2)]), (.int .i64 (6 : Int)), (.int .i64 (100 : Int))] h1).bind fun r6 =>
((some r6.1).bind (getI .i64)).bind fun n7 =>
some ((.bool (decide (n7 ≥ (0 : Int)))), r6.2) : Option (Value × AH)) := by kernel_rfl
theorem r48 {base : Nat} {v0_0 : Int} {v0_1 : Int} {v0_2 : ByteArray} {v0_3 : Option Addr} {v0_3n : Nat} {h : AH} {r : Value × AH} (hx :
((some (h ++ [some ⟨[(.int .i64 v0_0), (.int .i64 v0_1), (.string v0_2), (.slice v0_3 v0_3n v0_3n)], 27⟩])).bind fun h1 =>
((cell h1 (List.length h) 0).bind (getI .i64)).bind fun n2 =>
((cell h1 (List.length h) 1).bind (getI .i64)).bind fun n3 =>
((cell h1 (List.length h) 2).bind getStr).bind fun s4 =>
((cell h1 (List.length h) 3).bind getS).bind fun l5 =>
(run (Et base) 57 [(.agg #[(.int .i64 n2), (.int .i64 n3), (.string s4), (.slice l5.1 l5.2 l5.2)]), (.int .i64 (6 : Int)), (.int .i64 (100 : Int))] h1).bind fun r6 =>
((some r6.1).bind (getI .i64)).bind fun n7 =>
some ((.bool (decide (n7 ≥ (0 : Int)))), r6.2)) = some r) : run (Et base) 48 [(.agg #[(.int .i64 v0_0), (.int .i64 v0_1), (.string v0_2), (.slice v0_3 v0_3n v0_3n)])] h = some r := run_i Try.func48 (by kernel_rfl) ((f48_eq base v0_0 v0_1 v0_2 v0_3 v0_3n h).trans hx)
/-! laws.szTermS (gates 0) -/
noncomputable def B49_0 (base : Nat) : Body := fun l h => lay s49_0 l fun s => exCode (Et base) (run (Et base)) loopL a49_0 (subC [1, 1, 1, 0, 1, 0, 0] (bodyC Try.f49)) s h (keepK s49_0 e49_0)
theorem B49_0_eq (base : Nat) (v0 : Option Addr) (v0n : Nat) (v1 : Int) (v5 : Int) (h : AH) : B49_0 base [some (.slice v0 v0n v0n), some (.int .i64 v1), some (.int .i64 v5)] h =
((if (decide (v5 < ((v0n : Nat) : Int))) = true then
(if 0 ≤ v5 ∧ v5 < ((v0n : Nat) : Int) then
((v0 : Option Addr)).bind fun a1 =>
((cell h a1.block (a1.off + Int.toNat v5 * 4)).bind (getI .i64)).bind fun n2 =>
((cell h a1.block ((a1.off + Int.toNat v5 * 4) + 1)).bind (getI .i64)).bind fun n3 =>
((cell h a1.block (((a1.off + Int.toNat v5 * 4) + 1) + 1)).bind getStr).bind fun s4 =>
((cell h a1.block ((((a1.off + Int.toNat v5 * 4) + 1) + 1) + 1)).bind getS).bind fun l5 =>
(run (Et base) 30 [(.agg #[(.int .i64 n2), (.int .i64 n3), (.string s4), (.slice l5.1 l5.2 l5.2)]), (.int .i64 v1)] h).bind fun r6 =>
((some r6.1).bind (getI .i64)).bind fun n7 =>
(if (decide (n7 < (0 : Int))) = true then
some (1, [some (.int .i64 (-1 : Int))], r6.2)
else
some (0, [some (.slice v0 v0n v0n), some (.int .i64 n7), some (.int .i64 (IntKind.wrap .i64 (v5 + (1 : Int))))], r6.2))
else none)
else
some (2, [some (.int .i64 v1)], h)) : Option (Nat × Slots × AH)) := by kernel_rfl
theorem f49_eq (base : Nat) (v0 : Option Addr) (v0n : Nat) (v1 : Int) (h : AH) : exFun (Et base) (run (Et base)) loopL a49 Try.f49 [(.slice v0 v0n v0n), (.int .i64 v1)] h =
((if (decide ((IntKind.wrap .i64 (v1 - ((v0n : Nat) : Int))) < (0 : Int))) = true then
some ((.int .i64 (-1 : Int)), h)
else
(loopL (B49_0 base) [some (.slice v0 v0n v0n), some (.int .i64 (IntKind.wrap .i64 (v1 - ((v0n : Nat) : Int)))), some (.int .i64 (0 : Int))] h).bind fun q1 =>
(if q1.1 = 1 then
((sget q1.2.1 0).bind (getI .i64)).bind fun n2 =>
some ((.int .i64 n2), q1.2.2)
else
(if q1.1 = 2 then
((sget q1.2.1 0).bind (getI .i64)).bind fun n3 =>
some ((.int .i64 n3), q1.2.2)
else
none))) : Option (Value × AH)) := by kernel_rfl
theorem r49 {base : Nat} {v0 : Option Addr} {v0n : Nat} {v1 : Int} {h : AH} {r : Value × AH} (hx :
((if (decide ((IntKind.wrap .i64 (v1 - ((v0n : Nat) : Int))) < (0 : Int))) = true then
some ((.int .i64 (-1 : Int)), h)
else
(loopL (B49_0 base) [some (.slice v0 v0n v0n), some (.int .i64 (IntKind.wrap .i64 (v1 - ((v0n : Nat) : Int)))), some (.int .i64 (0 : Int))] h).bind fun q1 =>
(if q1.1 = 1 then
((sget q1.2.1 0).bind (getI .i64)).bind fun n2 =>
some ((.int .i64 n2), q1.2.2)
else
(if q1.1 = 2 then
((sget q1.2.1 0).bind (getI .i64)).bind fun n3 =>
some ((.int .i64 n3), q1.2.2)
else
none)))) = some r) : run (Et base) 49 [(.slice v0 v0n v0n), (.int .i64 v1)] h = some r := run_i Try.func49 (by kernel_rfl) ((f49_eq base v0 v0n v1 h).trans hx)
/-! laws.toTermS (gates 0) -/
noncomputable def B50_0 (base : Nat) : Body := fun l h => lay s50_0 l fun s => exCode (Et base) (run (Et base)) loopL a50_0 (subC [1, 1, 0, 1, 0, 0] (bodyC Try.f50)) s h (keepK s50_0 e50_0)
theorem B50_0_eq (base : Nat) (v0 : Option Addr) (v0n : Nat) (v3 : Option Addr) (v3n : Nat) (v4 : Int) (h : AH) : B50_0 base [some (.slice v0 v0n v0n), some (.slice v3 v3n v3n), some (.int .i64 v4)] h =
((if (decide (v4 < ((v0n : Nat) : Int))) = true then
(if 0 ≤ v4 ∧ v4 < ((v0n : Nat) : Int) then
((v0 : Option Addr)).bind fun a1 =>
((cell h a1.block (a1.off + Int.toNat v4 * 4)).bind (getI .i64)).bind fun n2 =>
((cell h a1.block ((a1.off + Int.toNat v4 * 4) + 1)).bind (getI .i64)).bind fun n3 =>
((cell h a1.block (((a1.off + Int.toNat v4 * 4) + 1) + 1)).bind getStr).bind fun s4 =>
((cell h a1.block ((((a1.off + Int.toNat v4 * 4) + 1) + 1) + 1)).bind getS).bind fun l5 =>
(run (Et base) 31 [(.agg #[(.int .i64 n2), (.int .i64 n3), (.string s4), (.slice l5.1 l5.2 l5.2)])] h).bind fun r6 =>
((some r6.1).bind (getAgg 4)).bind fun l7 =>
((l7[0]?).bind (getI .i64)).bind fun n8 =>
((l7[1]?).bind (getI .i64)).bind fun n9 =>
((l7[2]?).bind getStr).bind fun s10 =>
((l7[3]?).bind getS).bind fun l11 =>
(if 0 ≤ v4 ∧ v4 < ((v3n : Nat) : Int) then
((v3 : Option Addr)).bind fun a12 =>
(wr base r6.2 a12.block (a12.off + Int.toNat v4 * 4) [(.int .i64 n8), (.int .i64 n9), (.string s10), (.slice l11.1 l11.2 l11.2)]).bind fun h13 =>
some (0, [some (.slice v0 v0n v0n), some (.slice v3 v3n v3n), some (.int .i64 (IntKind.wrap .i64 (v4 + (1 : Int))))], h13)
else none)
else none)
else
some (2, [some (.slice v3 v3n v3n)], h)) : Option (Nat × Slots × AH)) := by kernel_rfl
theorem f50_eq (base : Nat) (v0 : Option Addr) (v0n : Nat) (h : AH) : exFun (Et base) (run (Et base)) loopL a50 Try.f50 [(.slice v0 v0n v0n)] h =
((if ((v0n : Nat) : Int) = ((v0n : Nat) : Int) ∧ 0 ≤ ((v0n : Nat) : Int) ∧ ((v0n : Nat) : Int) * 56 ≤ 140737488355328 ∧ ((v0n : Nat) : Int) ≤ 140737488355328 then
(some (h ++ [some ⟨rep [(.int .i64 0), (.int .i64 0), (.string ⟨#[]⟩), (.slice none 0 0)] (Int.toNat ((v0n : Nat) : Int)), 27⟩])).bind fun h1 =>
(loopL (B50_0 base) [some (.slice v0 v0n v0n), some (.slice (some ⟨(List.length h), 0, none⟩) (Int.toNat ((v0n : Nat) : Int)) (Int.toNat ((v0n : Nat) : Int))), some (.int .i64 (0 : Int))] h1).bind fun q2 =>
(if q2.1 = 2 then
((sget q2.2.1 0).bind getS).bind fun l3 =>
some ((.slice l3.1 l3.2 l3.2), q2.2.2)
else
none)
else none) : Option (Value × AH)) := by kernel_rfl
theorem r50 {base : Nat} {v0 : Option Addr} {v0n : Nat} {h : AH} {r : Value × AH} (hx :
((if ((v0n : Nat) : Int) = ((v0n : Nat) : Int) ∧ 0 ≤ ((v0n : Nat) : Int) ∧ ((v0n : Nat) : Int) * 56 ≤ 140737488355328 ∧ ((v0n : Nat) : Int) ≤ 140737488355328 then
(some (h ++ [some ⟨rep [(.int .i64 0), (.int .i64 0), (.string ⟨#[]⟩), (.slice none 0 0)] (Int.toNat ((v0n : Nat) : Int)), 27⟩])).bind fun h1 =>
(loopL (B50_0 base) [some (.slice v0 v0n v0n), some (.slice (some ⟨(List.length h), 0, none⟩) (Int.toNat ((v0n : Nat) : Int)) (Int.toNat ((v0n : Nat) : Int))), some (.int .i64 (0 : Int))] h1).bind fun q2 =>
(if q2.1 = 2 then
((sget q2.2.1 0).bind getS).bind fun l3 =>
some ((.slice l3.1 l3.2 l3.2), q2.2.2)
else
none)
else none)) = some r) : run (Et base) 50 [(.slice v0 v0n v0n)] h = some r := run_i Try.func50 (by kernel_rfl) ((f50_eq base v0 v0n h).trans hx)
/-! laws.eqTermS (gates 0) -/
noncomputable def B51_0 (base : Nat) : Body := fun l h => lay s51_0 l fun s => exCode (Et base) (run (Et base)) loopL a51_0 (subC [1, 1, 0, 1, 0, 0] (bodyC Try.f51)) s h (keepK s51_0 e51_0)
theorem B51_0_eq (base : Nat) (v0 : Option Addr) (v0n : Nat) (v1 : Option Addr) (v1n : Nat) (v5 : Int) (h : AH) : B51_0 base [some (.slice v0 v0n v0n), some (.slice v1 v1n v1n), some (.int .i64 v5)] h =
((if (decide (v5 < ((v0n : Nat) : Int))) = true then
(if 0 ≤ v5 ∧ v5 < ((v0n : Nat) : Int) then
((v0 : Option Addr)).bind fun a1 =>
((cell h a1.block (a1.off + Int.toNat v5 * 4)).bind (getI .i64)).bind fun n2 =>
((cell h a1.block ((a1.off + Int.toNat v5 * 4) + 1)).bind (getI .i64)).bind fun n3 =>
((cell h a1.block (((a1.off + Int.toNat v5 * 4) + 1) + 1)).bind getStr).bind fun s4 =>
((cell h a1.block ((((a1.off + Int.toNat v5 * 4) + 1) + 1) + 1)).bind getS).bind fun l5 =>
(if 0 ≤ v5 ∧ v5 < ((v1n : Nat) : Int) then
((v1 : Option Addr)).bind fun a6 =>
((cell h a6.block (a6.off + Int.toNat v5 * 4)).bind (getI .i64)).bind fun n7 =>
((cell h a6.block ((a6.off + Int.toNat v5 * 4) + 1)).bind (getI .i64)).bind fun n8 =>
((cell h a6.block (((a6.off + Int.toNat v5 * 4) + 1) + 1)).bind getStr).bind fun s9 =>
((cell h a6.block ((((a6.off + Int.toNat v5 * 4) + 1) + 1) + 1)).bind getS).bind fun l10 =>
(run (Et base) 32 [(.agg #[(.int .i64 n2), (.int .i64 n3), (.string s4), (.slice l5.1 l5.2 l5.2)]), (.agg #[(.int .i64 n7), (.int .i64 n8), (.string s9), (.slice l10.1 l10.2 l10.2)])] h).bind fun r11 =>
((some r11.1).bind getB).bind fun b12 =>
(if (!b12) = true then
some (1, [some (.bool false)], r11.2)
else
some (0, [some (.slice v0 v0n v0n), some (.slice v1 v1n v1n), some (.int .i64 (IntKind.wrap .i64 (v5 + (1 : Int))))], r11.2))
else none)
else none)
else
some (2, [], h)) : Option (Nat × Slots × AH)) := by kernel_rfl
theorem f51_eq (base : Nat) (v0 : Option Addr) (v0n : Nat) (v1 : Option Addr) (v1n : Nat) (h : AH) : exFun (Et base) (run (Et base)) loopL a51 Try.f51 [(.slice v0 v0n v0n), (.slice v1 v1n v1n)] h =
((if (((v0n : Nat) : Int) != ((v1n : Nat) : Int)) = true then
some ((.bool false), h)
else
(loopL (B51_0 base) [some (.slice v0 v0n v0n), some (.slice v1 v1n v1n), some (.int .i64 (0 : Int))] h).bind fun q1 =>
(if q1.1 = 1 then
((sget q1.2.1 0).bind getB).bind fun b2 =>
some ((.bool b2), q1.2.2)
else
(if q1.1 = 2 then
some ((.bool true), q1.2.2)
else
none))) : Option (Value × AH)) := by kernel_rfl
theorem r51 {base : Nat} {v0 : Option Addr} {v0n : Nat} {v1 : Option Addr} {v1n : Nat} {h : AH} {r : Value × AH} (hx :
((if (((v0n : Nat) : Int) != ((v1n : Nat) : Int)) = true then
some ((.bool false), h)
else
(loopL (B51_0 base) [some (.slice v0 v0n v0n), some (.slice v1 v1n v1n), some (.int .i64 (0 : Int))] h).bind fun q1 =>
(if q1.1 = 1 then
((sget q1.2.1 0).bind getB).bind fun b2 =>
some ((.bool b2), q1.2.2)
else
(if q1.1 = 2 then
some ((.bool true), q1.2.2)
else
none)))) = some r) : run (Et base) 51 [(.slice v0 v0n v0n), (.slice v1 v1n v1n)] h = some r := run_i Try.func51 (by kernel_rfl) ((f51_eq base v0 v0n v1 v1n h).trans hx)
/-! spec.l1Draw (gates 0) -/
noncomputable def B52_0 (base : Nat) : Body := fun l h => lay s52_0 l fun s => exCode (Et base) (run (Et base)) loopL a52_0 (subC [1, 1, 1, 0, 1, 0, 0] (bodyC Try.f52)) s h (keepK s52_0 e52_0)
theorem B52_0_eq (base : Nat) (v0 : Option Addr) (v1 : Int) (v4 : Addr) (v5 : Addr) (v6 : Int) (h : AH) : B52_0 base [some (.pointer v0), some (.int .i64 v1), some (.pointer (some v4)), some (.pointer (some v5)), some (.int .i64 v6)] h =
(((if (decide (v6 > (0 : Int))) = true then
some (.inl ([some (.pointer v0), some (.int .i64 v1), some (.pointer (some v4)), some (.pointer (some v5)), some (.int .i64 v6), some (.bool (decide (v1 > (0 : Int))))], h))
else
some (.inl ([some (.pointer v0), some (.int .i64 v1), some (.pointer (some v4)), some (.pointer (some v5)), some (.int .i64 v6), some (.bool false)], h)))).bind fun j1 => joinK j1 fun j1 =>
((sget j1.1 0).bind getP).bind fun p2 =>
((sget (j1.1.tail) 0).bind (getI .i64)).bind fun n3 =>
((sget (j1.1.tail.tail) 0).bind getA).bind fun d4 =>
((sget (j1.1.tail.tail.tail) 0).bind getA).bind fun d5 =>
((sget (j1.1.tail.tail.tail.tail) 0).bind (getI .i64)).bind fun n6 =>
((sget (j1.1.tail.tail.tail.tail.tail) 0).bind getB).bind fun b7 =>
(if b7 = true then
((cell j1.2 d5.block (d5.off + 3)).bind getS).bind fun l8 =>
(run (Et base) 52 [(.pointer p2), (.int .i64 (IntKind.wrap .i64 (n3 - (1 : Int))))] j1.2).bind fun r9 =>
((some r9.1).bind (getAgg 4)).bind fun l10 =>
((l10[0]?).bind (getI .i64)).bind fun n11 =>
((l10[1]?).bind (getI .i64)).bind fun n12 =>
((l10[2]?).bind getStr).bind fun s13 =>
((l10[3]?).bind getS).bind fun l14 =>
(gate (sameA j1.2 r9.2 (some ⟨d5.block, (d5.off + 3), none⟩) 1)
((gate (neA (some ⟨d5.block, (d5.off + 3), none⟩) (List.length r9.2))
((some (r9.2 ++ [some ⟨[(.int .i64 n11), (.int .i64 n12), (.string s13), (.slice l14.1 l14.2 l14.2)], 27⟩])).bind fun h15 =>
(app base h15 27 4 56 l8.1 l8.2 (rawAt h15 (some ⟨(List.length r9.2), 0, none⟩) (1 * 4)) 1).bind fun p16 =>
((some p16.1).bind getS).bind fun l17 =>
(wr base p16.2 d5.block (d5.off + 3) [(.slice l17.1 l17.2 l17.2)]).bind fun h18 =>
some (0, [some (.pointer p2), some (.int .i64 n3), some (.pointer (some d4)), some (.pointer (some d5)), some (.int .i64 (IntKind.wrap .i64 (n6 - (1 : Int))))], h18)))))
else
some (3, [some (.pointer (some d4)), some (.pointer (some d5))], j1.2)) : Option (Nat × Slots × AH)) := by kernel_rfl
theorem f52_eq (base : Nat) (v0 : Option Addr) (v1 : Int) (h : AH) : exFun (Et base) (run (Et base)) loopL a52 Try.f52 [(.pointer v0), (.int .i64 v1)] h =
((some (h ++ [some ⟨[(.int .i64 0), (.int .i64 0), (.string ⟨#[]⟩), (.slice none 0 0)], 27⟩])).bind fun h1 =>
(run (Et base) 40 [(.pointer v0), (.int .i64 (9 : Int))] h1).bind fun r2 =>
((some r2.1).bind (getI .i64)).bind fun n3 =>
((if (n3 == (0 : Int)) = true then
some (.inl ([some (.pointer v0), some (.int .i64 v1), some (.pointer (some ⟨(List.length h), 0, none⟩)), some (.int .i64 n3), some (.bool (n3 == (0 : Int)))], r2.2))
else
(if (n3 == (1 : Int)) = true then
some (.inl ([some (.pointer v0), some (.int .i64 v1), some (.pointer (some ⟨(List.length h), 0, none⟩)), some (.int .i64 n3), some (.bool (n3 == (1 : Int)))], r2.2))
else
some (.inl ([some (.pointer v0), some (.int .i64 v1), some (.pointer (some ⟨(List.length h), 0, none⟩)), some (.int .i64 n3), some (.bool (n3 == (2 : Int)))], r2.2))))).bind fun j4 => joinK j4 fun j4 =>
((sget j4.1 0).bind getP).bind fun p5 =>
((sget (j4.1.tail) 0).bind (getI .i64)).bind fun n6 =>
((sget (j4.1.tail.tail) 0).bind getA).bind fun d7 =>
((sget (j4.1.tail.tail.tail) 0).bind (getI .i64)).bind fun n8 =>
((sget (j4.1.tail.tail.tail.tail) 0).bind getB).bind fun b9 =>
(if b9 = true then
(run (Et base) 40 [(.pointer p5), (.int .i64 (100 : Int))] j4.2).bind fun r10 =>
((some r10.1).bind (getI .i64)).bind fun n11 =>
(some (r10.2 ++ [some ⟨[(.int .i64 (0 : Int)), (.int .i64 (1 : Int)), (.int .i64 (-1 : Int)), (.int .i64 (7 : Int)), (.int .i64 (1000000 : Int)), (.int .i64 (-1000000 : Int)), (.int .i64 n11)], 3⟩])).bind fun h12 =>
(run (Et base) 42 [(.pointer p5), (.slice (some ⟨(List.length r10.2), 0, none⟩) 7 7)] h12).bind fun r13 =>
((some r13.1).bind (getI .i64)).bind fun n14 =>
(wr base r13.2 d7.block d7.off [(.int .i64 (1 : Int)), (.int .i64 n14), (.string (⟨#[]⟩ : ByteArray)), (.slice none 0 0)]).bind fun h15 =>
((cell h15 d7.block d7.off).bind (getI .i64)).bind fun n16 =>
((cell h15 d7.block (d7.off + 1)).bind (getI .i64)).bind fun n17 =>
((cell h15 d7.block ((d7.off + 1) + 1)).bind getStr).bind fun s18 =>
((cell h15 d7.block (((d7.off + 1) + 1) + 1)).bind getS).bind fun l19 =>
some ((.agg #[(.int .i64 n16), (.int .i64 n17), (.string s18), (.slice l19.1 l19.2 l19.2)]), h15)
else
((if (n8 == (3 : Int)) = true then
some (.inl ([some (.pointer p5), some (.int .i64 n6), some (.pointer (some d7)), some (.int .i64 n8), some (.bool (n8 == (3 : Int)))], j4.2))
else
some (.inl ([some (.pointer p5), some (.int .i64 n6), some (.pointer (some d7)), some (.int .i64 n8), some (.bool (n8 == (4 : Int)))], j4.2)))).bind fun j20 => joinK j20 fun j20 =>
((sget j20.1 0).bind getP).bind fun p21 =>
((sget (j20.1.tail) 0).bind (getI .i64)).bind fun n22 =>
((sget (j20.1.tail.tail) 0).bind getA).bind fun d23 =>
((sget (j20.1.tail.tail.tail) 0).bind (getI .i64)).bind fun n24 =>
((sget (j20.1.tail.tail.tail.tail) 0).bind getB).bind fun b25 =>
(if b25 = true then
(some (j20.2 ++ [some ⟨[(.string (⟨#[111, 107]⟩ : ByteArray)), (.string (⟨#[97]⟩ : ByteArray)), (.string (⟨#[115, 116, 111, 112]⟩ : ByteArray)), (.string (⟨#[104, 105, 50]⟩ : ByteArray))], 9⟩])).bind fun h26 =>
(run (Et base) 58 [(.pointer p21), (.slice (some ⟨(List.length j20.2), 0, none⟩) 4 4)] h26).bind fun r27 =>
((some r27.1).bind getStr).bind fun s28 =>
(wr base r27.2 d23.block d23.off [(.int .i64 (2 : Int)), (.int .i64 (0 : Int)), (.string s28), (.slice none 0 0)]).bind fun h29 =>
((cell h29 d23.block d23.off).bind (getI .i64)).bind fun n30 =>
((cell h29 d23.block (d23.off + 1)).bind (getI .i64)).bind fun n31 =>
((cell h29 d23.block ((d23.off + 1) + 1)).bind getStr).bind fun s32 =>
((cell h29 d23.block (((d23.off + 1) + 1) + 1)).bind getS).bind fun l33 =>
some ((.agg #[(.int .i64 n30), (.int .i64 n31), (.string s32), (.slice l33.1 l33.2 l33.2)]), h29)
else
(if (n24 == (5 : Int)) = true then
(run (Et base) 40 [(.pointer p21), (.int .i64 (4 : Int))] j20.2).bind fun r34 =>
((some r34.1).bind (getI .i64)).bind fun n35 =>
(wr base r34.2 d23.block d23.off [(.int .i64 (3 : Int)), (.int .i64 n35), (.string (⟨#[]⟩ : ByteArray)), (.slice none 0 0)]).bind fun h36 =>
((cell h36 d23.block d23.off).bind (getI .i64)).bind fun n37 =>
((cell h36 d23.block (d23.off + 1)).bind (getI .i64)).bind fun n38 =>
((cell h36 d23.block ((d23.off + 1) + 1)).bind getStr).bind fun s39 =>
((cell h36 d23.block (((d23.off + 1) + 1) + 1)).bind getS).bind fun l40 =>
some ((.agg #[(.int .i64 n37), (.int .i64 n38), (.string s39), (.slice l40.1 l40.2 l40.2)]), h36)
else
(if (n24 == (6 : Int)) = true then
(some (j20.2 ++ [some ⟨[(.string (⟨#[]⟩ : ByteArray)), (.string (⟨#[120]⟩ : ByteArray)), (.string (⟨#[0, 255]⟩ : ByteArray)), (.string (⟨#[104, 101, 108, 108, 111]⟩ : ByteArray))], 9⟩])).bind fun h41 =>
(run (Et base) 58 [(.pointer p21), (.slice (some ⟨(List.length j20.2), 0, none⟩) 4 4)] h41).bind fun r42 =>
((some r42.1).bind getStr).bind fun s43 =>
(wr base r42.2 d23.block d23.off [(.int .i64 (6 : Int)), (.int .i64 (0 : Int)), (.string s43), (.slice none 0 0)]).bind fun h44 =>
((cell h44 d23.block d23.off).bind (getI .i64)).bind fun n45 =>
((cell h44 d23.block (d23.off + 1)).bind (getI .i64)).bind fun n46 =>
((cell h44 d23.block ((d23.off + 1) + 1)).bind getStr).bind fun s47 =>
((cell h44 d23.block (((d23.off + 1) + 1) + 1)).bind getS).bind fun l48 =>
some ((.agg #[(.int .i64 n45), (.int .i64 n46), (.string s47), (.slice l48.1 l48.2 l48.2)]), h44)
else
(some (j20.2 ++ [some ⟨[(.int .i64 (4 : Int)), (.int .i64 (5 : Int))], 3⟩])).bind fun h49 =>
(run (Et base) 42 [(.pointer p21), (.slice (some ⟨(List.length j20.2), 0, none⟩) 2 2)] h49).bind fun r50 =>
((some r50.1).bind (getI .i64)).bind fun n51 =>
(some (r50.2 ++ [some ⟨[(.int .i64 0), (.int .i64 0), (.string ⟨#[]⟩), (.slice none 0 0)], 27⟩])).bind fun h52 =>
(wr base h52 (List.length r50.2) 0 [(.int .i64 n51), (.int .i64 (0 : Int)), (.string (⟨#[]⟩ : ByteArray)), (.slice none 0 0)]).bind fun h53 =>
(run (Et base) 40 [(.pointer p21), (.int .i64 (4 : Int))] h53).bind fun r54 =>
((some r54.1).bind (getI .i64)).bind fun n55 =>
(loopL (B52_0 base) [some (.pointer p21), some (.int .i64 n22), some (.pointer (some d23)), some (.pointer (some ⟨(List.length r50.2), 0, none⟩)), some (.int .i64 n55)] r54.2).bind fun q56 =>
(if q56.1 = 3 then
((sget q56.2.1 0).bind getA).bind fun d57 =>
((sget (q56.2.1.tail) 0).bind getA).bind fun d58 =>
((cell q56.2.2 d58.block d58.off).bind (getI .i64)).bind fun n59 =>
((cell q56.2.2 d58.block (d58.off + 1)).bind (getI .i64)).bind fun n60 =>
((cell q56.2.2 d58.block ((d58.off + 1) + 1)).bind getStr).bind fun s61 =>
((cell q56.2.2 d58.block (((d58.off + 1) + 1) + 1)).bind getS).bind fun l62 =>
(wr base q56.2.2 d57.block d57.off [(.int .i64 n59), (.int .i64 n60), (.string s61), (.slice l62.1 l62.2 l62.2)]).bind fun h63 =>
((cell h63 d57.block d57.off).bind (getI .i64)).bind fun n64 =>
((cell h63 d57.block (d57.off + 1)).bind (getI .i64)).bind fun n65 =>
((cell h63 d57.block ((d57.off + 1) + 1)).bind getStr).bind fun s66 =>
((cell h63 d57.block (((d57.off + 1) + 1) + 1)).bind getS).bind fun l67 =>
some ((.agg #[(.int .i64 n64), (.int .i64 n65), (.string s66), (.slice l67.1 l67.2 l67.2)]), h63)
else
none))))) : Option (Value × AH)) := by kernel_rfl
theorem r52 {base : Nat} {v0 : Option Addr} {v1 : Int} {h : AH} {r : Value × AH} (hx :
((some (h ++ [some ⟨[(.int .i64 0), (.int .i64 0), (.string ⟨#[]⟩), (.slice none 0 0)], 27⟩])).bind fun h1 =>
(run (Et base) 40 [(.pointer v0), (.int .i64 (9 : Int))] h1).bind fun r2 =>
((some r2.1).bind (getI .i64)).bind fun n3 =>
((if (n3 == (0 : Int)) = true then
some (.inl ([some (.pointer v0), some (.int .i64 v1), some (.pointer (some ⟨(List.length h), 0, none⟩)), some (.int .i64 n3), some (.bool (n3 == (0 : Int)))], r2.2))
else
(if (n3 == (1 : Int)) = true then
some (.inl ([some (.pointer v0), some (.int .i64 v1), some (.pointer (some ⟨(List.length h), 0, none⟩)), some (.int .i64 n3), some (.bool (n3 == (1 : Int)))], r2.2))
else
some (.inl ([some (.pointer v0), some (.int .i64 v1), some (.pointer (some ⟨(List.length h), 0, none⟩)), some (.int .i64 n3), some (.bool (n3 == (2 : Int)))], r2.2))))).bind fun j4 => joinK j4 fun j4 =>
((sget j4.1 0).bind getP).bind fun p5 =>
((sget (j4.1.tail) 0).bind (getI .i64)).bind fun n6 =>
((sget (j4.1.tail.tail) 0).bind getA).bind fun d7 =>
((sget (j4.1.tail.tail.tail) 0).bind (getI .i64)).bind fun n8 =>
((sget (j4.1.tail.tail.tail.tail) 0).bind getB).bind fun b9 =>
(if b9 = true then
(run (Et base) 40 [(.pointer p5), (.int .i64 (100 : Int))] j4.2).bind fun r10 =>
((some r10.1).bind (getI .i64)).bind fun n11 =>
(some (r10.2 ++ [some ⟨[(.int .i64 (0 : Int)), (.int .i64 (1 : Int)), (.int .i64 (-1 : Int)), (.int .i64 (7 : Int)), (.int .i64 (1000000 : Int)), (.int .i64 (-1000000 : Int)), (.int .i64 n11)], 3⟩])).bind fun h12 =>
(run (Et base) 42 [(.pointer p5), (.slice (some ⟨(List.length r10.2), 0, none⟩) 7 7)] h12).bind fun r13 =>
((some r13.1).bind (getI .i64)).bind fun n14 =>
(wr base r13.2 d7.block d7.off [(.int .i64 (1 : Int)), (.int .i64 n14), (.string (⟨#[]⟩ : ByteArray)), (.slice none 0 0)]).bind fun h15 =>
((cell h15 d7.block d7.off).bind (getI .i64)).bind fun n16 =>
((cell h15 d7.block (d7.off + 1)).bind (getI .i64)).bind fun n17 =>
((cell h15 d7.block ((d7.off + 1) + 1)).bind getStr).bind fun s18 =>
((cell h15 d7.block (((d7.off + 1) + 1) + 1)).bind getS).bind fun l19 =>
some ((.agg #[(.int .i64 n16), (.int .i64 n17), (.string s18), (.slice l19.1 l19.2 l19.2)]), h15)
else
((if (n8 == (3 : Int)) = true then
some (.inl ([some (.pointer p5), some (.int .i64 n6), some (.pointer (some d7)), some (.int .i64 n8), some (.bool (n8 == (3 : Int)))], j4.2))
else
some (.inl ([some (.pointer p5), some (.int .i64 n6), some (.pointer (some d7)), some (.int .i64 n8), some (.bool (n8 == (4 : Int)))], j4.2)))).bind fun j20 => joinK j20 fun j20 =>
((sget j20.1 0).bind getP).bind fun p21 =>
((sget (j20.1.tail) 0).bind (getI .i64)).bind fun n22 =>
((sget (j20.1.tail.tail) 0).bind getA).bind fun d23 =>
((sget (j20.1.tail.tail.tail) 0).bind (getI .i64)).bind fun n24 =>
((sget (j20.1.tail.tail.tail.tail) 0).bind getB).bind fun b25 =>
(if b25 = true then
(some (j20.2 ++ [some ⟨[(.string (⟨#[111, 107]⟩ : ByteArray)), (.string (⟨#[97]⟩ : ByteArray)), (.string (⟨#[115, 116, 111, 112]⟩ : ByteArray)), (.string (⟨#[104, 105, 50]⟩ : ByteArray))], 9⟩])).bind fun h26 =>
(run (Et base) 58 [(.pointer p21), (.slice (some ⟨(List.length j20.2), 0, none⟩) 4 4)] h26).bind fun r27 =>
((some r27.1).bind getStr).bind fun s28 =>
(wr base r27.2 d23.block d23.off [(.int .i64 (2 : Int)), (.int .i64 (0 : Int)), (.string s28), (.slice none 0 0)]).bind fun h29 =>
((cell h29 d23.block d23.off).bind (getI .i64)).bind fun n30 =>
((cell h29 d23.block (d23.off + 1)).bind (getI .i64)).bind fun n31 =>
((cell h29 d23.block ((d23.off + 1) + 1)).bind getStr).bind fun s32 =>
((cell h29 d23.block (((d23.off + 1) + 1) + 1)).bind getS).bind fun l33 =>
some ((.agg #[(.int .i64 n30), (.int .i64 n31), (.string s32), (.slice l33.1 l33.2 l33.2)]), h29)
else
(if (n24 == (5 : Int)) = true then
(run (Et base) 40 [(.pointer p21), (.int .i64 (4 : Int))] j20.2).bind fun r34 =>
((some r34.1).bind (getI .i64)).bind fun n35 =>
(wr base r34.2 d23.block d23.off [(.int .i64 (3 : Int)), (.int .i64 n35), (.string (⟨#[]⟩ : ByteArray)), (.slice none 0 0)]).bind fun h36 =>
((cell h36 d23.block d23.off).bind (getI .i64)).bind fun n37 =>
((cell h36 d23.block (d23.off + 1)).bind (getI .i64)).bind fun n38 =>
((cell h36 d23.block ((d23.off + 1) + 1)).bind getStr).bind fun s39 =>
((cell h36 d23.block (((d23.off + 1) + 1) + 1)).bind getS).bind fun l40 =>
some ((.agg #[(.int .i64 n37), (.int .i64 n38), (.string s39), (.slice l40.1 l40.2 l40.2)]), h36)
else
(if (n24 == (6 : Int)) = true then
(some (j20.2 ++ [some ⟨[(.string (⟨#[]⟩ : ByteArray)), (.string (⟨#[120]⟩ : ByteArray)), (.string (⟨#[0, 255]⟩ : ByteArray)), (.string (⟨#[104, 101, 108, 108, 111]⟩ : ByteArray))], 9⟩])).bind fun h41 =>
(run (Et base) 58 [(.pointer p21), (.slice (some ⟨(List.length j20.2), 0, none⟩) 4 4)] h41).bind fun r42 =>
((some r42.1).bind getStr).bind fun s43 =>
(wr base r42.2 d23.block d23.off [(.int .i64 (6 : Int)), (.int .i64 (0 : Int)), (.string s43), (.slice none 0 0)]).bind fun h44 =>
((cell h44 d23.block d23.off).bind (getI .i64)).bind fun n45 =>
((cell h44 d23.block (d23.off + 1)).bind (getI .i64)).bind fun n46 =>
((cell h44 d23.block ((d23.off + 1) + 1)).bind getStr).bind fun s47 =>
((cell h44 d23.block (((d23.off + 1) + 1) + 1)).bind getS).bind fun l48 =>
some ((.agg #[(.int .i64 n45), (.int .i64 n46), (.string s47), (.slice l48.1 l48.2 l48.2)]), h44)
else
(some (j20.2 ++ [some ⟨[(.int .i64 (4 : Int)), (.int .i64 (5 : Int))], 3⟩])).bind fun h49 =>
(run (Et base) 42 [(.pointer p21), (.slice (some ⟨(List.length j20.2), 0, none⟩) 2 2)] h49).bind fun r50 =>
((some r50.1).bind (getI .i64)).bind fun n51 =>
(some (r50.2 ++ [some ⟨[(.int .i64 0), (.int .i64 0), (.string ⟨#[]⟩), (.slice none 0 0)], 27⟩])).bind fun h52 =>
(wr base h52 (List.length r50.2) 0 [(.int .i64 n51), (.int .i64 (0 : Int)), (.string (⟨#[]⟩ : ByteArray)), (.slice none 0 0)]).bind fun h53 =>
(run (Et base) 40 [(.pointer p21), (.int .i64 (4 : Int))] h53).bind fun r54 =>
((some r54.1).bind (getI .i64)).bind fun n55 =>
(loopL (B52_0 base) [some (.pointer p21), some (.int .i64 n22), some (.pointer (some d23)), some (.pointer (some ⟨(List.length r50.2), 0, none⟩)), some (.int .i64 n55)] r54.2).bind fun q56 =>
(if q56.1 = 3 then
((sget q56.2.1 0).bind getA).bind fun d57 =>
((sget (q56.2.1.tail) 0).bind getA).bind fun d58 =>
((cell q56.2.2 d58.block d58.off).bind (getI .i64)).bind fun n59 =>
((cell q56.2.2 d58.block (d58.off + 1)).bind (getI .i64)).bind fun n60 =>
((cell q56.2.2 d58.block ((d58.off + 1) + 1)).bind getStr).bind fun s61 =>
((cell q56.2.2 d58.block (((d58.off + 1) + 1) + 1)).bind getS).bind fun l62 =>
(wr base q56.2.2 d57.block d57.off [(.int .i64 n59), (.int .i64 n60), (.string s61), (.slice l62.1 l62.2 l62.2)]).bind fun h63 =>
((cell h63 d57.block d57.off).bind (getI .i64)).bind fun n64 =>
((cell h63 d57.block (d57.off + 1)).bind (getI .i64)).bind fun n65 =>
((cell h63 d57.block ((d57.off + 1) + 1)).bind getStr).bind fun s66 =>
((cell h63 d57.block (((d57.off + 1) + 1) + 1)).bind getS).bind fun l67 =>
some ((.agg #[(.int .i64 n64), (.int .i64 n65), (.string s66), (.slice l67.1 l67.2 l67.2)]), h63)
else
none)))))) = some r) : run (Et base) 52 [(.pointer v0), (.int .i64 v1)] h = some r := run_i Try.func52 (by kernel_rfl) ((f52_eq base v0 v1 h).trans hx)
/-! spec.l1Byte (gates 0) -/
theorem f53_eq (base : Nat) (v0 : Option Addr) (h : AH) : exFun (Et base) (run (Et base)) loopL a53 Try.f53 [(.pointer v0)] h =
((v0).bind fun a1 =>
((cell h a1.block (a1.off + 2)).bind (getI .i64)).bind fun n2 =>
(v0).bind fun a3 =>
(wr base h a3.block (a3.off + 2) [(.int .i64 (IntKind.wrap .i64 ((IntKind.wrap .i64 (n2 * (6364136223846793005 : Int))) + (1442695040888963407 : Int))))]).bind fun h4 =>
(v0).bind fun a5 =>
((cell h4 a5.block (a5.off + 2)).bind (getI .i64)).bind fun n6 =>
(v0).bind fun a7 =>
((cell h4 a7.block (a7.off + 2)).bind (getI .i64)).bind fun n8 =>
((v0).bind fun a10 =>
((cell h4 a10.block (a10.off + 1)).bind (getI .i64)).bind fun n11 =>
(v0).bind fun a12 =>
((cell h4 a12.block (a12.off + 0)).bind getS).bind fun l13 =>
(if (decide (n11 < ((l13.2 : Nat) : Int))) = true then
(v0).bind fun a14 =>
((cell h4 a14.block (a14.off + 0)).bind getS).bind fun l15 =>
(v0).bind fun a16 =>
((cell h4 a16.block (a16.off + 1)).bind (getI .i64)).bind fun n17 =>
(if 0 ≤ n17 ∧ n17 < ((l15.2 : Nat) : Int) then
((l15.1 : Option Addr)).bind fun a18 =>
((cell h4 a18.block (a18.off + Int.toNat n17 * 1)).bind (getI .u8)).bind fun n19 =>
(v0).bind fun a20 =>
((cell h4 a20.block (a20.off + 1)).bind (getI .i64)).bind fun n21 =>
(v0).bind fun a22 =>
(wr base h4 a22.block (a22.off + 1) [(.int .i64 (IntKind.wrap .i64 (n21 + (1 : Int))))]).bind fun h23 =>
some (.inl ([some (.int .i64 (Go.bits .and .i64 (IntKind.wrap .i64 ((Go.bits .and .i64 (Go.bits .xor .i64 (Int.fdiv n6 (2 ^ min ((33 : Int)).toNat 64)) (Int.fdiv n8 (2 ^ min ((47 : Int)).toNat 64))) (255 : Int)) + (IntKind.wrap .i64 n19))) (255 : Int)))], h23))
else none)
else
some (.inl ([some (.int .i64 (Go.bits .and .i64 (Go.bits .xor .i64 (Int.fdiv n6 (2 ^ min ((33 : Int)).toNat 64)) (Int.fdiv n8 (2 ^ min ((47 : Int)).toNat 64))) (255 : Int)))], h4)))).bind fun j9 => joinK j9 fun j9 =>
((sget j9.1 0).bind (getI .i64)).bind fun n24 =>
some ((.int .i64 n24), j9.2) : Option (Value × AH)) := by kernel_rfl
theorem r53 {base : Nat} {v0 : Option Addr} {h : AH} {r : Value × AH} (hx :
((v0).bind fun a1 =>
((cell h a1.block (a1.off + 2)).bind (getI .i64)).bind fun n2 =>
(v0).bind fun a3 =>
(wr base h a3.block (a3.off + 2) [(.int .i64 (IntKind.wrap .i64 ((IntKind.wrap .i64 (n2 * (6364136223846793005 : Int))) + (1442695040888963407 : Int))))]).bind fun h4 =>
(v0).bind fun a5 =>
((cell h4 a5.block (a5.off + 2)).bind (getI .i64)).bind fun n6 =>
(v0).bind fun a7 =>
((cell h4 a7.block (a7.off + 2)).bind (getI .i64)).bind fun n8 =>
((v0).bind fun a10 =>
((cell h4 a10.block (a10.off + 1)).bind (getI .i64)).bind fun n11 =>
(v0).bind fun a12 =>
((cell h4 a12.block (a12.off + 0)).bind getS).bind fun l13 =>
(if (decide (n11 < ((l13.2 : Nat) : Int))) = true then
(v0).bind fun a14 =>
((cell h4 a14.block (a14.off + 0)).bind getS).bind fun l15 =>
(v0).bind fun a16 =>
((cell h4 a16.block (a16.off + 1)).bind (getI .i64)).bind fun n17 =>
(if 0 ≤ n17 ∧ n17 < ((l15.2 : Nat) : Int) then
((l15.1 : Option Addr)).bind fun a18 =>
((cell h4 a18.block (a18.off + Int.toNat n17 * 1)).bind (getI .u8)).bind fun n19 =>
(v0).bind fun a20 =>
((cell h4 a20.block (a20.off + 1)).bind (getI .i64)).bind fun n21 =>
(v0).bind fun a22 =>
(wr base h4 a22.block (a22.off + 1) [(.int .i64 (IntKind.wrap .i64 (n21 + (1 : Int))))]).bind fun h23 =>
some (.inl ([some (.int .i64 (Go.bits .and .i64 (IntKind.wrap .i64 ((Go.bits .and .i64 (Go.bits .xor .i64 (Int.fdiv n6 (2 ^ min ((33 : Int)).toNat 64)) (Int.fdiv n8 (2 ^ min ((47 : Int)).toNat 64))) (255 : Int)) + (IntKind.wrap .i64 n19))) (255 : Int)))], h23))
else none)
else
some (.inl ([some (.int .i64 (Go.bits .and .i64 (Go.bits .xor .i64 (Int.fdiv n6 (2 ^ min ((33 : Int)).toNat 64)) (Int.fdiv n8 (2 ^ min ((47 : Int)).toNat 64))) (255 : Int)))], h4)))).bind fun j9 => joinK j9 fun j9 =>
((sget j9.1 0).bind (getI .i64)).bind fun n24 =>
some ((.int .i64 n24), j9.2)) = some r) : run (Et base) 53 [(.pointer v0)] h = some r := run_i Try.func53 (by kernel_rfl) ((f53_eq base v0 h).trans hx)
/-! spec.l1Bend (gates 0) -/
noncomputable def B54_0 (base : Nat) : Body := fun l h => lay s54_0 l fun s => exCode (Et base) (run (Et base)) loopL a54_0 (subC [1, 1, 0, 1, 0, 1, 1, 1, 1, 1, 1, 1, 1, 1, 0, 1, 0, 0] (bodyC Try.f54)) s h (keepK s54_0 e54_0)
theorem B54_0_eq (base : Nat) (v3 : Addr) (v4 : Addr) (v5 : Int) (h : AH) : B54_0 base [some (.pointer (some v3)), some (.pointer (some v4)), some (.int .i64 v5)] h =
((if (decide (v5 < (6 : Int))) = true then
((cell h v3.block v3.off).bind (getI .i64)).bind fun n1 =>
((cell h v3.block (v3.off + 1)).bind (getI .i64)).bind fun n2 =>
((cell h v3.block ((v3.off + 1) + 1)).bind getStr).bind fun s3 =>
((cell h v3.block (((v3.off + 1) + 1) + 1)).bind getS).bind fun l4 =>
(some (h ++ [some ⟨[(.int .i64 0), (.int .i64 0), (.string ⟨#[]⟩), (.slice none 0 0)], 27⟩])).bind fun h5 =>
(wr base h5 (List.length h) 0 [(.int .i64 n1), (.int .i64 n2), (.string s3), (.slice l4.1 l4.2 l4.2)]).bind fun h6 =>
((cell h6 (List.length h) 0).bind (getI .i64)).bind fun n7 =>
((cell h6 (List.length h) 1).bind (getI .i64)).bind fun n8 =>
((cell h6 (List.length h) 2).bind getStr).bind fun s9 =>
((cell h6 (List.length h) 3).bind getS).bind fun l10 =>
(some (h6 ++ [some ⟨[(.int .i64 n7), (.int .i64 n8), (.string s9), (.slice l10.1 l10.2 l10.2)], 27⟩])).bind fun h11 =>
(wr base h11 v3.block v3.off [(.int .i64 (4 : Int)), (.int .i64 (0 : Int)), (.string (⟨#[]⟩ : ByteArray)), (.slice (some ⟨(List.length h6), 0, none⟩) 1 1)]).bind fun h12 =>
some (0, [some (.pointer (some v3)), some (.pointer (some v4)), some (.int .i64 (IntKind.wrap .i64 (v5 + (1 : Int))))], h12)
else
some (3, [some (.pointer (some v3)), some (.pointer (some v4))], h)) : Option (Nat × Slots × AH)) := by kernel_rfl
theorem f54_eq (base : Nat) (v0 : Option Addr) (v1_0 : Int) (v1_1 : Int) (v1_2 : ByteArray) (v1_3 : Option Addr) (v1_3n : Nat) (h : AH) : exFun (Et base) (run (Et base)) loopL a54 Try.f54 [(.pointer v0), (.agg #[(.int .i64 v1_0), (.int .i64 v1_1), (.string v1_2), (.slice v1_3 v1_3n v1_3n)])] h =
((some (h ++ [some ⟨[(.int .i64 v1_0), (.int .i64 v1_1), (.string v1_2), (.slice v1_3 v1_3n v1_3n)], 27⟩])).bind fun h1 =>
(some (h1 ++ [some ⟨[(.int .i64 0), (.int .i64 0), (.string ⟨#[]⟩), (.slice none 0 0)], 27⟩])).bind fun h2 =>
((cell h2 (List.length h) 0).bind (getI .i64)).bind fun n3 =>
((cell h2 (List.length h) 1).bind (getI .i64)).bind fun n4 =>
((cell h2 (List.length h) 2).bind getStr).bind fun s5 =>
((cell h2 (List.length h) 3).bind getS).bind fun l6 =>
(run (Et base) 29 [(.agg #[(.int .i64 n3), (.int .i64 n4), (.string s5), (.slice l6.1 l6.2 l6.2)])] h2).bind fun r7 =>
((some r7.1).bind (getAgg 4)).bind fun l8 =>
((l8[0]?).bind (getI .i64)).bind fun n9 =>
((l8[1]?).bind (getI .i64)).bind fun n10 =>
((l8[2]?).bind getStr).bind fun s11 =>
((l8[3]?).bind getS).bind fun l12 =>
(wr base r7.2 (List.length h) 0 [(.int .i64 n9), (.int .i64 n10), (.string s11), (.slice l12.1 l12.2 l12.2)]).bind fun h13 =>
((run (Et base) 40 [(.pointer v0), (.int .i64 (6 : Int))] h13).bind fun r15 =>
((some r15.1).bind (getI .i64)).bind fun n16 =>
(if (n16 == (0 : Int)) = true then
(run (Et base) 40 [(.pointer v0), (.int .i64 (8 : Int))] r15.2).bind fun r17 =>
((some r17.1).bind (getI .i64)).bind fun n18 =>
(wr base r17.2 (List.length h) 0 [(.int .i64 n18)]).bind fun h19 =>
some (.inl ([some (.pointer (some ⟨(List.length h), 0, none⟩)), some (.pointer (some ⟨(List.length h1), 0, none⟩))], h19))
else
(if (n16 == (1 : Int)) = true then
(some (r15.2 ++ [some ⟨[(.int .i64 (-1 : Int)), (.int .i64 (1000001 : Int)), (.int .i64 (100000 : Int)), (.int .i64 (3 : Int))], 3⟩])).bind fun h20 =>
(run (Et base) 42 [(.pointer v0), (.slice (some ⟨(List.length r15.2), 0, none⟩) 4 4)] h20).bind fun r21 =>
((some r21.1).bind (getI .i64)).bind fun n22 =>
(wr base r21.2 (List.length h) 1 [(.int .i64 n22)]).bind fun h23 =>
some (.inl ([some (.pointer (some ⟨(List.length h), 0, none⟩)), some (.pointer (some ⟨(List.length h1), 0, none⟩))], h23))
else
(if (n16 == (2 : Int)) = true then
(some (r15.2 ++ [some ⟨[(.string (⟨#[]⟩ : ByteArray)), (.string (⟨#[65]⟩ : ByteArray)), (.string (⟨#[120]⟩ : ByteArray)), (.string (⟨#[116, 104, 105, 114, 116, 101, 101, 110, 98, 121, 116, 101, 115]⟩ : ByteArray))], 9⟩])).bind fun h24 =>
(run (Et base) 58 [(.pointer v0), (.slice (some ⟨(List.length r15.2), 0, none⟩) 4 4)] h24).bind fun r25 =>
((some r25.1).bind getStr).bind fun s26 =>
(wr base r25.2 (List.length h) 2 [(.string s26)]).bind fun h27 =>
some (.inl ([some (.pointer (some ⟨(List.length h), 0, none⟩)), some (.pointer (some ⟨(List.length h1), 0, none⟩))], h27))
else
(if (n16 == (3 : Int)) = true then
((cell r15.2 (List.length h) 3).bind getS).bind fun l28 =>
(some (r15.2 ++ [some ⟨[(.int .i64 (1 : Int)), (.int .i64 (4 : Int)), (.string (⟨#[]⟩ : ByteArray)), (.slice none 0 0)], 27⟩])).bind fun h29 =>
(app base h29 27 4 56 l28.1 l28.2 (rawAt h29 (some ⟨(List.length r15.2), 0, none⟩) (1 * 4)) 1).bind fun p30 =>
((some p30.1).bind getS).bind fun l31 =>
(wr base p30.2 (List.length h) 3 [(.slice l31.1 l31.2 l31.2)]).bind fun h32 =>
some (.inl ([some (.pointer (some ⟨(List.length h), 0, none⟩)), some (.pointer (some ⟨(List.length h1), 0, none⟩))], h32))
else
(if (n16 == (4 : Int)) = true then
(loopL (B54_0 base) [some (.pointer (some ⟨(List.length h), 0, none⟩)), some (.pointer (some ⟨(List.length h1), 0, none⟩)), some (.int .i64 (0 : Int))] r15.2).bind fun q33 =>
(if q33.1 = 3 then
((sget q33.2.1 0).bind getA).bind fun d34 =>
((sget (q33.2.1.tail) 0).bind getA).bind fun d35 =>
some (.inl ([some (.pointer (some d34)), some (.pointer (some d35))], q33.2.2))
else
none)
else
some (.inl ([some (.pointer (some ⟨(List.length h), 0, none⟩)), some (.pointer (some ⟨(List.length h1), 0, none⟩))], r15.2)))))))).bind fun j14 => joinK j14 fun j14 =>
((sget j14.1 0).bind getA).bind fun d36 =>
((sget (j14.1.tail) 0).bind getA).bind fun d37 =>
((cell j14.2 d36.block d36.off).bind (getI .i64)).bind fun n38 =>
((cell j14.2 d36.block (d36.off + 1)).bind (getI .i64)).bind fun n39 =>
((cell j14.2 d36.block ((d36.off + 1) + 1)).bind getStr).bind fun s40 =>
((cell j14.2 d36.block (((d36.off + 1) + 1) + 1)).bind getS).bind fun l41 =>
(wr base j14.2 d37.block d37.off [(.int .i64 n38), (.int .i64 n39), (.string s40), (.slice l41.1 l41.2 l41.2)]).bind fun h42 =>
((cell h42 d37.block d37.off).bind (getI .i64)).bind fun n43 =>
((cell h42 d37.block (d37.off + 1)).bind (getI .i64)).bind fun n44 =>
((cell h42 d37.block ((d37.off + 1) + 1)).bind getStr).bind fun s45 =>
((cell h42 d37.block (((d37.off + 1) + 1) + 1)).bind getS).bind fun l46 =>
some ((.agg #[(.int .i64 n43), (.int .i64 n44), (.string s45), (.slice l46.1 l46.2 l46.2)]), h42) : Option (Value × AH)) := by kernel_rfl
theorem r54 {base : Nat} {v0 : Option Addr} {v1_0 : Int} {v1_1 : Int} {v1_2 : ByteArray} {v1_3 : Option Addr} {v1_3n : Nat} {h : AH} {r : Value × AH} (hx :
((some (h ++ [some ⟨[(.int .i64 v1_0), (.int .i64 v1_1), (.string v1_2), (.slice v1_3 v1_3n v1_3n)], 27⟩])).bind fun h1 =>
(some (h1 ++ [some ⟨[(.int .i64 0), (.int .i64 0), (.string ⟨#[]⟩), (.slice none 0 0)], 27⟩])).bind fun h2 =>
((cell h2 (List.length h) 0).bind (getI .i64)).bind fun n3 =>
((cell h2 (List.length h) 1).bind (getI .i64)).bind fun n4 =>
((cell h2 (List.length h) 2).bind getStr).bind fun s5 =>
((cell h2 (List.length h) 3).bind getS).bind fun l6 =>
(run (Et base) 29 [(.agg #[(.int .i64 n3), (.int .i64 n4), (.string s5), (.slice l6.1 l6.2 l6.2)])] h2).bind fun r7 =>
((some r7.1).bind (getAgg 4)).bind fun l8 =>
((l8[0]?).bind (getI .i64)).bind fun n9 =>
((l8[1]?).bind (getI .i64)).bind fun n10 =>
((l8[2]?).bind getStr).bind fun s11 =>
((l8[3]?).bind getS).bind fun l12 =>
(wr base r7.2 (List.length h) 0 [(.int .i64 n9), (.int .i64 n10), (.string s11), (.slice l12.1 l12.2 l12.2)]).bind fun h13 =>
((run (Et base) 40 [(.pointer v0), (.int .i64 (6 : Int))] h13).bind fun r15 =>
((some r15.1).bind (getI .i64)).bind fun n16 =>
(if (n16 == (0 : Int)) = true then
(run (Et base) 40 [(.pointer v0), (.int .i64 (8 : Int))] r15.2).bind fun r17 =>
((some r17.1).bind (getI .i64)).bind fun n18 =>
(wr base r17.2 (List.length h) 0 [(.int .i64 n18)]).bind fun h19 =>
some (.inl ([some (.pointer (some ⟨(List.length h), 0, none⟩)), some (.pointer (some ⟨(List.length h1), 0, none⟩))], h19))
else
(if (n16 == (1 : Int)) = true then
(some (r15.2 ++ [some ⟨[(.int .i64 (-1 : Int)), (.int .i64 (1000001 : Int)), (.int .i64 (100000 : Int)), (.int .i64 (3 : Int))], 3⟩])).bind fun h20 =>
(run (Et base) 42 [(.pointer v0), (.slice (some ⟨(List.length r15.2), 0, none⟩) 4 4)] h20).bind fun r21 =>
((some r21.1).bind (getI .i64)).bind fun n22 =>
(wr base r21.2 (List.length h) 1 [(.int .i64 n22)]).bind fun h23 =>
some (.inl ([some (.pointer (some ⟨(List.length h), 0, none⟩)), some (.pointer (some ⟨(List.length h1), 0, none⟩))], h23))
else
(if (n16 == (2 : Int)) = true then
(some (r15.2 ++ [some ⟨[(.string (⟨#[]⟩ : ByteArray)), (.string (⟨#[65]⟩ : ByteArray)), (.string (⟨#[120]⟩ : ByteArray)), (.string (⟨#[116, 104, 105, 114, 116, 101, 101, 110, 98, 121, 116, 101, 115]⟩ : ByteArray))], 9⟩])).bind fun h24 =>
(run (Et base) 58 [(.pointer v0), (.slice (some ⟨(List.length r15.2), 0, none⟩) 4 4)] h24).bind fun r25 =>
((some r25.1).bind getStr).bind fun s26 =>
(wr base r25.2 (List.length h) 2 [(.string s26)]).bind fun h27 =>
some (.inl ([some (.pointer (some ⟨(List.length h), 0, none⟩)), some (.pointer (some ⟨(List.length h1), 0, none⟩))], h27))
else
(if (n16 == (3 : Int)) = true then
((cell r15.2 (List.length h) 3).bind getS).bind fun l28 =>
(some (r15.2 ++ [some ⟨[(.int .i64 (1 : Int)), (.int .i64 (4 : Int)), (.string (⟨#[]⟩ : ByteArray)), (.slice none 0 0)], 27⟩])).bind fun h29 =>
(app base h29 27 4 56 l28.1 l28.2 (rawAt h29 (some ⟨(List.length r15.2), 0, none⟩) (1 * 4)) 1).bind fun p30 =>
((some p30.1).bind getS).bind fun l31 =>
(wr base p30.2 (List.length h) 3 [(.slice l31.1 l31.2 l31.2)]).bind fun h32 =>
some (.inl ([some (.pointer (some ⟨(List.length h), 0, none⟩)), some (.pointer (some ⟨(List.length h1), 0, none⟩))], h32))
else
(if (n16 == (4 : Int)) = true then
(loopL (B54_0 base) [some (.pointer (some ⟨(List.length h), 0, none⟩)), some (.pointer (some ⟨(List.length h1), 0, none⟩)), some (.int .i64 (0 : Int))] r15.2).bind fun q33 =>
(if q33.1 = 3 then
((sget q33.2.1 0).bind getA).bind fun d34 =>
((sget (q33.2.1.tail) 0).bind getA).bind fun d35 =>
some (.inl ([some (.pointer (some d34)), some (.pointer (some d35))], q33.2.2))
else
none)
else
some (.inl ([some (.pointer (some ⟨(List.length h), 0, none⟩)), some (.pointer (some ⟨(List.length h1), 0, none⟩))], r15.2)))))))).bind fun j14 => joinK j14 fun j14 =>
((sget j14.1 0).bind getA).bind fun d36 =>
((sget (j14.1.tail) 0).bind getA).bind fun d37 =>
((cell j14.2 d36.block d36.off).bind (getI .i64)).bind fun n38 =>
((cell j14.2 d36.block (d36.off + 1)).bind (getI .i64)).bind fun n39 =>
((cell j14.2 d36.block ((d36.off + 1) + 1)).bind getStr).bind fun s40 =>
((cell j14.2 d36.block (((d36.off + 1) + 1) + 1)).bind getS).bind fun l41 =>
(wr base j14.2 d37.block d37.off [(.int .i64 n38), (.int .i64 n39), (.string s40), (.slice l41.1 l41.2 l41.2)]).bind fun h42 =>
((cell h42 d37.block d37.off).bind (getI .i64)).bind fun n43 =>
((cell h42 d37.block (d37.off + 1)).bind (getI .i64)).bind fun n44 =>
((cell h42 d37.block ((d37.off + 1) + 1)).bind getStr).bind fun s45 =>
((cell h42 d37.block (((d37.off + 1) + 1) + 1)).bind getS).bind fun l46 =>
some ((.agg #[(.int .i64 n43), (.int .i64 n44), (.string s45), (.slice l46.1 l46.2 l46.2)]), h42)) = some r) : run (Et base) 54 [(.pointer v0), (.agg #[(.int .i64 v1_0), (.int .i64 v1_1), (.string v1_2), (.slice v1_3 v1_3n v1_3n)])] h = some r := run_i Try.func54 (by kernel_rfl) ((f54_eq base v0 v1_0 v1_1 v1_2 v1_3 v1_3n h).trans hx)
/-! impl.counted (gates 0) -/
noncomputable def B55_0 (base : Nat) : Body := fun l h => lay s55_0 l fun s => exCode (Et base) (run (Et base)) loopL a55_0 (subC [1, 1, 1, 0, 1, 0, 0] (bodyC Try.f55)) s h (keepK s55_0 e55_0)
theorem B55_0_eq (base : Nat) (v1 : Int) (v2 : Int) (v27 : Option Addr) (v27n : Nat) (v28 : Int) (v29 : Int) (h : AH) : B55_0 base [some (.int .i64 v1), some (.int .i64 v2), some (.slice v27 v27n v27n), some (.int .i64 v28), some (.int .i64 v29)] h =
((if (decide (v29 < v28)) = true then
(if 0 ≤ v29 ∧ v29 < ((v27n : Nat) : Int) then
((v27 : Option Addr)).bind fun a1 =>
((cell h a1.block (a1.off + Int.toNat v29 * 4)).bind (getI .i64)).bind fun n2 =>
((cell h a1.block ((a1.off + Int.toNat v29 * 4) + 1)).bind (getI .i64)).bind fun n3 =>
((cell h a1.block (((a1.off + Int.toNat v29 * 4) + 1) + 1)).bind getStr).bind fun s4 =>
((cell h a1.block ((((a1.off + Int.toNat v29 * 4) + 1) + 1) + 1)).bind getS).bind fun l5 =>
(some (h ++ [some ⟨[(.int .i64 0), (.int .i64 0), (.string ⟨#[]⟩), (.slice none 0 0)], 27⟩])).bind fun h6 =>
(wr base h6 (List.length h) 0 [(.int .i64 n2), (.int .i64 n3), (.string s4), (.slice l5.1 l5.2 l5.2)]).bind fun h7 =>
((cell h7 (List.length h) 0).bind (getI .i64)).bind fun n8 =>
((cell h7 (List.length h) 1).bind (getI .i64)).bind fun n9 =>
((cell h7 (List.length h) 2).bind getStr).bind fun s10 =>
((cell h7 (List.length h) 3).bind getS).bind fun l11 =>
(run (Et base) 55 [(.agg #[(.int .i64 n8), (.int .i64 n9), (.string s10), (.slice l11.1 l11.2 l11.2)]), (.int .i64 (IntKind.wrap .i64 (v1 + (1 : Int)))), (.int .i64 v2)] h7).bind fun r12 =>
(getTup 2 r12.1).bind fun l13 =>
((l13[0]?).bind (getI .i64)).bind fun n14 =>
((l13[1]?).bind getB).bind fun b15 =>
(if (!b15) = true then
some (1, [some (.int .i64 n14), some (.bool false)], r12.2)
else
some (0, [some (.int .i64 v1), some (.int .i64 n14), some (.slice v27 v27n v27n), some (.int .i64 v28), some (.int .i64 (IntKind.wrap .i64 (v29 + (1 : Int))))], r12.2))
else none)
else
some (2, [some (.int .i64 v2)], h)) : Option (Nat × Slots × AH)) := by kernel_rfl
theorem f55_eq (base : Nat) (v0_0 : Int) (v0_1 : Int) (v0_2 : ByteArray) (v0_3 : Option Addr) (v0_3n : Nat) (v1 : Int) (v2 : Int) (h : AH) : exFun (Et base) (run (Et base)) loopL a55 Try.f55 [(.agg #[(.int .i64 v0_0), (.int .i64 v0_1), (.string v0_2), (.slice v0_3 v0_3n v0_3n)]), (.int .i64 v1), (.int .i64 v2)] h =
((some (h ++ [some ⟨[(.int .i64 v0_0), (.int .i64 v0_1), (.string v0_2), (.slice v0_3 v0_3n v0_3n)], 27⟩])).bind fun h1 =>
((if (decide (v1 > (6 : Int))) = true then
some (.inl ([some (.int .i64 v1), some (.int .i64 (IntKind.wrap .i64 (v2 + (1 : Int)))), some (.pointer (some ⟨(List.length h), 0, none⟩)), some (.bool true)], h1))
else
(if (decide ((IntKind.wrap .i64 (v2 + (1 : Int))) > (100 : Int))) = true then
some (.inl ([some (.int .i64 v1), some (.int .i64 (IntKind.wrap .i64 (v2 + (1 : Int)))), some (.pointer (some ⟨(List.length h), 0, none⟩)), some (.bool true)], h1))
else
((cell h1 (List.length h) 0).bind (getI .i64)).bind fun n3 =>
((cell h1 (List.length h) 1).bind (getI .i64)).bind fun n4 =>
((cell h1 (List.length h) 2).bind getStr).bind fun s5 =>
((cell h1 (List.length h) 3).bind getS).bind fun l6 =>
(run (Et base) 59 [(.agg #[(.int .i64 n3), (.int .i64 n4), (.string s5), (.slice l6.1 l6.2 l6.2)])] h1).bind fun r7 =>
((some r7.1).bind getB).bind fun b8 =>
some (.inl ([some (.int .i64 v1), some (.int .i64 (IntKind.wrap .i64 (v2 + (1 : Int)))), some (.pointer (some ⟨(List.length h), 0, none⟩)), some (.bool (!b8))], r7.2))))).bind fun j2 => joinK j2 fun j2 =>
((sget j2.1 0).bind (getI .i64)).bind fun n9 =>
((sget (j2.1.tail) 0).bind (getI .i64)).bind fun n10 =>
((sget (j2.1.tail.tail) 0).bind getA).bind fun d11 =>
((sget (j2.1.tail.tail.tail) 0).bind getB).bind fun b12 =>
(if b12 = true then
some ((.tuple #[(.int .i64 n10), (.bool false)]), j2.2)
else
((cell j2.2 d11.block (d11.off + 3)).bind getS).bind fun l13 =>
(loopL (B55_0 base) [some (.int .i64 n9), some (.int .i64 n10), some (.slice l13.1 l13.2 l13.2), some (.int .i64 ((l13.2 : Nat) : Int)), some (.int .i64 (0 : Int))] j2.2).bind fun q14 =>
(if q14.1 = 1 then
((sget q14.2.1 0).bind (getI .i64)).bind fun n15 =>
((sget (q14.2.1.tail) 0).bind getB).bind fun b16 =>
some ((.tuple #[(.int .i64 n15), (.bool b16)]), q14.2.2)
else
(if q14.1 = 2 then
((sget q14.2.1 0).bind (getI .i64)).bind fun n17 =>
some ((.tuple #[(.int .i64 n17), (.bool true)]), q14.2.2)
else
none))) : Option (Value × AH)) := by kernel_rfl
theorem r55 {base : Nat} {v0_0 : Int} {v0_1 : Int} {v0_2 : ByteArray} {v0_3 : Option Addr} {v0_3n : Nat} {v1 : Int} {v2 : Int} {h : AH} {r : Value × AH} (hx :
((some (h ++ [some ⟨[(.int .i64 v0_0), (.int .i64 v0_1), (.string v0_2), (.slice v0_3 v0_3n v0_3n)], 27⟩])).bind fun h1 =>
((if (decide (v1 > (6 : Int))) = true then
some (.inl ([some (.int .i64 v1), some (.int .i64 (IntKind.wrap .i64 (v2 + (1 : Int)))), some (.pointer (some ⟨(List.length h), 0, none⟩)), some (.bool true)], h1))
else
(if (decide ((IntKind.wrap .i64 (v2 + (1 : Int))) > (100 : Int))) = true then
some (.inl ([some (.int .i64 v1), some (.int .i64 (IntKind.wrap .i64 (v2 + (1 : Int)))), some (.pointer (some ⟨(List.length h), 0, none⟩)), some (.bool true)], h1))
else
((cell h1 (List.length h) 0).bind (getI .i64)).bind fun n3 =>
((cell h1 (List.length h) 1).bind (getI .i64)).bind fun n4 =>
((cell h1 (List.length h) 2).bind getStr).bind fun s5 =>
((cell h1 (List.length h) 3).bind getS).bind fun l6 =>
(run (Et base) 59 [(.agg #[(.int .i64 n3), (.int .i64 n4), (.string s5), (.slice l6.1 l6.2 l6.2)])] h1).bind fun r7 =>
((some r7.1).bind getB).bind fun b8 =>
some (.inl ([some (.int .i64 v1), some (.int .i64 (IntKind.wrap .i64 (v2 + (1 : Int)))), some (.pointer (some ⟨(List.length h), 0, none⟩)), some (.bool (!b8))], r7.2))))).bind fun j2 => joinK j2 fun j2 =>
((sget j2.1 0).bind (getI .i64)).bind fun n9 =>
((sget (j2.1.tail) 0).bind (getI .i64)).bind fun n10 =>
((sget (j2.1.tail.tail) 0).bind getA).bind fun d11 =>
((sget (j2.1.tail.tail.tail) 0).bind getB).bind fun b12 =>
(if b12 = true then
some ((.tuple #[(.int .i64 n10), (.bool false)]), j2.2)
else
((cell j2.2 d11.block (d11.off + 3)).bind getS).bind fun l13 =>
(loopL (B55_0 base) [some (.int .i64 n9), some (.int .i64 n10), some (.slice l13.1 l13.2 l13.2), some (.int .i64 ((l13.2 : Nat) : Int)), some (.int .i64 (0 : Int))] j2.2).bind fun q14 =>
(if q14.1 = 1 then
((sget q14.2.1 0).bind (getI .i64)).bind fun n15 =>
((sget (q14.2.1.tail) 0).bind getB).bind fun b16 =>
some ((.tuple #[(.int .i64 n15), (.bool b16)]), q14.2.2)
else
(if q14.1 = 2 then
((sget q14.2.1 0).bind (getI .i64)).bind fun n17 =>
some ((.tuple #[(.int .i64 n17), (.bool true)]), q14.2.2)
else
none)))) = some r) : run (Et base) 55 [(.agg #[(.int .i64 v0_0), (.int .i64 v0_1), (.string v0_2), (.slice v0_3 v0_3n v0_3n)]), (.int .i64 v1), (.int .i64 v2)] h = some r := run_i Try.func55 (by kernel_rfl) ((f55_eq base v0_0 v0_1 v0_2 v0_3 v0_3n v1 v2 h).trans hx)
/-! impl.copyTerms (gates 0) -/
noncomputable def B56_0 (base : Nat) : Body := fun l h => lay s56_0 l fun s => exCode (Et base) (run (Et base)) loopL a56_0 (subC [1, 1, 0, 1, 0, 0] (bodyC Try.f56)) s h (keepK s56_0 e56_0)
theorem B56_0_eq (base : Nat) (v3 : Option Addr) (v3n : Nat) (v6 : Option Addr) (v6n : Nat) (v7 : Int) (v8 : Int) (h : AH) : B56_0 base [some (.slice v3 v3n v3n), some (.slice v6 v6n v6n), some (.int .i64 v7), some (.int .i64 v8)] h =
((if (decide (v8 < v7)) = true then
(if 0 ≤ v8 ∧ v8 < ((v6n : Nat) : Int) then
((v6 : Option Addr)).bind fun a1 =>
((cell h a1.block (a1.off + Int.toNat v8 * 4)).bind (getI .i64)).bind fun n2 =>
((cell h a1.block ((a1.off + Int.toNat v8 * 4) + 1)).bind (getI .i64)).bind fun n3 =>
((cell h a1.block (((a1.off + Int.toNat v8 * 4) + 1) + 1)).bind getStr).bind fun s4 =>
((cell h a1.block ((((a1.off + Int.toNat v8 * 4) + 1) + 1) + 1)).bind getS).bind fun l5 =>
(some (h ++ [some ⟨[(.int .i64 0), (.int .i64 0), (.string ⟨#[]⟩), (.slice none 0 0)], 27⟩])).bind fun h6 =>
(wr base h6 (List.length h) 0 [(.int .i64 n2), (.int .i64 n3), (.string s4), (.slice l5.1 l5.2 l5.2)]).bind fun h7 =>
((cell h7 (List.length h) 0).bind (getI .i64)).bind fun n8 =>
((cell h7 (List.length h) 1).bind (getI .i64)).bind fun n9 =>
((cell h7 (List.length h) 2).bind getStr).bind fun s10 =>
((cell h7 (List.length h) 3).bind getS).bind fun l11 =>
(run (Et base) 46 [(.agg #[(.int .i64 n8), (.int .i64 n9), (.string s10), (.slice l11.1 l11.2 l11.2)])] h7).bind fun r12 =>
((some r12.1).bind (getAgg 4)).bind fun l13 =>
((l13[0]?).bind (getI .i64)).bind fun n14 =>
((l13[1]?).bind (getI .i64)).bind fun n15 =>
((l13[2]?).bind getStr).bind fun s16 =>
((l13[3]?).bind getS).bind fun l17 =>
(some (r12.2 ++ [some ⟨[(.int .i64 n14), (.int .i64 n15), (.string s16), (.slice l17.1 l17.2 l17.2)], 27⟩])).bind fun h18 =>
(app base h18 27 4 56 v3 v3n (rawAt h18 (some ⟨(List.length r12.2), 0, none⟩) (1 * 4)) 1).bind fun p19 =>
((some p19.1).bind getS).bind fun l20 =>
some (0, [some (.slice l20.1 l20.2 l20.2), some (.slice v6 v6n v6n), some (.int .i64 v7), some (.int .i64 (IntKind.wrap .i64 (v8 + (1 : Int))))], p19.2)
else none)
else
some (2, [some (.slice v3 v3n v3n)], h)) : Option (Nat × Slots × AH)) := by kernel_rfl
theorem f56_eq (base : Nat) (v0 : Option Addr) (v0n : Nat) (h : AH) : exFun (Et base) (run (Et base)) loopL a56 Try.f56 [(.slice v0 v0n v0n)] h =
((loopL (B56_0 base) [some (.slice none 0 0), some (.slice v0 v0n v0n), some (.int .i64 ((v0n : Nat) : Int)), some (.int .i64 (0 : Int))] h).bind fun q1 =>
(if q1.1 = 2 then
((sget q1.2.1 0).bind getS).bind fun l2 =>
some ((.slice l2.1 l2.2 l2.2), q1.2.2)
else
none) : Option (Value × AH)) := by kernel_rfl
theorem r56 {base : Nat} {v0 : Option Addr} {v0n : Nat} {h : AH} {r : Value × AH} (hx :
((loopL (B56_0 base) [some (.slice none 0 0), some (.slice v0 v0n v0n), some (.int .i64 ((v0n : Nat) : Int)), some (.int .i64 (0 : Int))] h).bind fun q1 =>
(if q1.1 = 2 then
((sget q1.2.1 0).bind getS).bind fun l2 =>
some ((.slice l2.1 l2.2 l2.2), q1.2.2)
else
none)) = some r) : run (Et base) 56 [(.slice v0 v0n v0n)] h = some r := run_i Try.func56 (by kernel_rfl) ((f56_eq base v0 v0n h).trans hx)
end Go.Proofs.Ytomcfongmahjaaa.Am
