/- What each of these functions comes to on the abstract machine, one equation a function and one a loop.
Conditions: none. -/
import Derived.Test.YtnmjhhipbfngkaaTb
set_option linter.unusedVariables false
namespace Go.Proofs.Ytnmjhhipbfngkaa.Am
open Go Go.RowKit
/-! spec.l1Copy (gates 0) -/
noncomputable def B64_0 (base : Nat) : Body := fun l h => lay s64_0 l fun s => exCode (Et base) (run (Et base)) loopL a64_0 (subC [1, 1, 1, 0, 1, 0, 0] (bodyC Try.f64)) s h (keepK s64_0 e64_0)
theorem B64_0_eq (base : Nat) (v1 : Addr) (v2 : Addr) (v3 : Addr) (v4 : Int) (h : AH) : B64_0 base [some (.pointer (some v1)), some (.pointer (some v2)), some (.pointer (some v3)), some (.int .i64 v4)] h =
(((cell h v1.block (v1.off + 3)).bind getS).bind fun l1 =>
(if (decide (v4 < ((l1.2 : Nat) : Int))) = true then
((cell h v3.block (v3.off + 3)).bind getS).bind fun l2 =>
((cell h v1.block (v1.off + 3)).bind getS).bind fun l3 =>
(if 0 ≤ v4 ∧ v4 < ((l3.2 : Nat) : Int) then
((l3.1 : Option Addr)).bind fun a4 =>
((cell h a4.block (a4.off + Int.toNat v4 * 4)).bind (getI .i64)).bind fun n5 =>
((cell h a4.block ((a4.off + Int.toNat v4 * 4) + 1)).bind (getI .i64)).bind fun n6 =>
((cell h a4.block (((a4.off + Int.toNat v4 * 4) + 1) + 1)).bind getStr).bind fun s7 =>
((cell h a4.block ((((a4.off + Int.toNat v4 * 4) + 1) + 1) + 1)).bind getS).bind fun l8 =>
(run (Et base) 64 [(.agg #[(.int .i64 n5), (.int .i64 n6), (.string s7), (.slice l8.1 l8.2 l8.2)])] h).bind fun r9 =>
((some r9.1).bind (getAgg 4)).bind fun l10 =>
((l10[0]?).bind (getI .i64)).bind fun n11 =>
((l10[1]?).bind (getI .i64)).bind fun n12 =>
((l10[2]?).bind getStr).bind fun s13 =>
((l10[3]?).bind getS).bind fun l14 =>
(gate (sameA h r9.2 (some ⟨v3.block, (v3.off + 3), none⟩) 1)
((gate (neA (some ⟨v3.block, (v3.off + 3), none⟩) (List.length r9.2))
((some (r9.2 ++ [some ⟨[(.int .i64 n11), (.int .i64 n12), (.string s13), (.slice l14.1 l14.2 l14.2)], 32⟩])).bind fun h15 =>
(app base h15 32 4 56 l2.1 l2.2 (rawAt h15 (some ⟨(List.length r9.2), 0, none⟩) (1 * 4)) 1).bind fun p16 =>
((some p16.1).bind getS).bind fun l17 =>
(wr base p16.2 v3.block (v3.off + 3) [(.slice l17.1 l17.2 l17.2)]).bind fun h18 =>
some (0, [some (.pointer (some v1)), some (.pointer (some v2)), some (.pointer (some v3)), some (.int .i64 (IntKind.wrap .i64 (v4 + (1 : Int))))], h18)))))
else none)
else
some (2, [some (.pointer (some v2)), some (.pointer (some v3))], h)) : Option (Nat × Slots × AH)) := by kernel_rfl
theorem f64_eq (base : Nat) (v0_0 : Int) (v0_1 : Int) (v0_2 : ByteArray) (v0_3 : Option Addr) (v0_3n : Nat) (h : AH) : exFun (Et base) (run (Et base)) loopL a64 Try.f64 [(.agg #[(.int .i64 v0_0), (.int .i64 v0_1), (.string v0_2), (.slice v0_3 v0_3n v0_3n)])] h =
((some (h ++ [some ⟨[(.int .i64 v0_0), (.int .i64 v0_1), (.string v0_2), (.slice v0_3 v0_3n v0_3n)], 32⟩])).bind fun h1 =>
(some (h1 ++ [some ⟨[(.int .i64 0), (.int .i64 0), (.string ⟨#[]⟩), (.slice none 0 0)], 32⟩])).bind fun h2 =>
((cell h2 (List.length h) 0).bind (getI .i64)).bind fun n3 =>
((cell h2 (List.length h) 1).bind (getI .i64)).bind fun n4 =>
((cell h2 (List.length h) 2).bind getStr).bind fun s5 =>
((cell h2 (List.length h) 3).bind getS).bind fun l6 =>
(some (h2 ++ [some ⟨[(.int .i64 0), (.int .i64 0), (.string ⟨#[]⟩), (.slice none 0 0)], 32⟩])).bind fun h7 =>
(wr base h7 (List.length h2) 0 [(.int .i64 n3), (.int .i64 n4), (.string s5), (.slice l6.1 l6.2 l6.2)]).bind fun h8 =>
(some (h8 ++ [some ⟨[], 32⟩])).bind fun h9 =>
(wr base h9 (List.length h2) 3 [(.slice (some ⟨(List.length h8), 0, none⟩) 0 0)]).bind fun h10 =>
(loopL (B64_0 base) [some (.pointer (some ⟨(List.length h), 0, none⟩)), some (.pointer (some ⟨(List.length h1), 0, none⟩)), some (.pointer (some ⟨(List.length h2), 0, none⟩)), some (.int .i64 (0 : Int))] h10).bind fun q11 =>
(if q11.1 = 2 then
((sget q11.2.1 0).bind getA).bind fun d12 =>
((sget (q11.2.1.tail) 0).bind getA).bind fun d13 =>
((cell q11.2.2 d13.block d13.off).bind (getI .i64)).bind fun n14 =>
((cell q11.2.2 d13.block (d13.off + 1)).bind (getI .i64)).bind fun n15 =>
((cell q11.2.2 d13.block ((d13.off + 1) + 1)).bind getStr).bind fun s16 =>
((cell q11.2.2 d13.block (((d13.off + 1) + 1) + 1)).bind getS).bind fun l17 =>
(wr base q11.2.2 d12.block d12.off [(.int .i64 n14), (.int .i64 n15), (.string s16), (.slice l17.1 l17.2 l17.2)]).bind fun h18 =>
((cell h18 d12.block d12.off).bind (getI .i64)).bind fun n19 =>
((cell h18 d12.block (d12.off + 1)).bind (getI .i64)).bind fun n20 =>
((cell h18 d12.block ((d12.off + 1) + 1)).bind getStr).bind fun s21 =>
((cell h18 d12.block (((d12.off + 1) + 1) + 1)).bind getS).bind fun l22 =>
some ((.agg #[(.int .i64 n19), (.int .i64 n20), (.string s21), (.slice l22.1 l22.2 l22.2)]), h18)
else
none) : Option (Value × AH)) := by kernel_rfl
theorem r64 {base : Nat} {v0_0 : Int} {v0_1 : Int} {v0_2 : ByteArray} {v0_3 : Option Addr} {v0_3n : Nat} {h : AH} {r : Value × AH} (hx :
((some (h ++ [some ⟨[(.int .i64 v0_0), (.int .i64 v0_1), (.string v0_2), (.slice v0_3 v0_3n v0_3n)], 32⟩])).bind fun h1 =>
(some (h1 ++ [some ⟨[(.int .i64 0), (.int .i64 0), (.string ⟨#[]⟩), (.slice none 0 0)], 32⟩])).bind fun h2 =>
((cell h2 (List.length h) 0).bind (getI .i64)).bind fun n3 =>
((cell h2 (List.length h) 1).bind (getI .i64)).bind fun n4 =>
((cell h2 (List.length h) 2).bind getStr).bind fun s5 =>
((cell h2 (List.length h) 3).bind getS).bind fun l6 =>
(some (h2 ++ [some ⟨[(.int .i64 0), (.int .i64 0), (.string ⟨#[]⟩), (.slice none 0 0)], 32⟩])).bind fun h7 =>
(wr base h7 (List.length h2) 0 [(.int .i64 n3), (.int .i64 n4), (.string s5), (.slice l6.1 l6.2 l6.2)]).bind fun h8 =>
(some (h8 ++ [some ⟨[], 32⟩])).bind fun h9 =>
(wr base h9 (List.length h2) 3 [(.slice (some ⟨(List.length h8), 0, none⟩) 0 0)]).bind fun h10 =>
(loopL (B64_0 base) [some (.pointer (some ⟨(List.length h), 0, none⟩)), some (.pointer (some ⟨(List.length h1), 0, none⟩)), some (.pointer (some ⟨(List.length h2), 0, none⟩)), some (.int .i64 (0 : Int))] h10).bind fun q11 =>
(if q11.1 = 2 then
((sget q11.2.1 0).bind getA).bind fun d12 =>
((sget (q11.2.1.tail) 0).bind getA).bind fun d13 =>
((cell q11.2.2 d13.block d13.off).bind (getI .i64)).bind fun n14 =>
((cell q11.2.2 d13.block (d13.off + 1)).bind (getI .i64)).bind fun n15 =>
((cell q11.2.2 d13.block ((d13.off + 1) + 1)).bind getStr).bind fun s16 =>
((cell q11.2.2 d13.block (((d13.off + 1) + 1) + 1)).bind getS).bind fun l17 =>
(wr base q11.2.2 d12.block d12.off [(.int .i64 n14), (.int .i64 n15), (.string s16), (.slice l17.1 l17.2 l17.2)]).bind fun h18 =>
((cell h18 d12.block d12.off).bind (getI .i64)).bind fun n19 =>
((cell h18 d12.block (d12.off + 1)).bind (getI .i64)).bind fun n20 =>
((cell h18 d12.block ((d12.off + 1) + 1)).bind getStr).bind fun s21 =>
((cell h18 d12.block (((d12.off + 1) + 1) + 1)).bind getS).bind fun l22 =>
some ((.agg #[(.int .i64 n19), (.int .i64 n20), (.string s21), (.slice l22.1 l22.2 l22.2)]), h18)
else
none)) = some r) : run (Et base) 64 [(.agg #[(.int .i64 v0_0), (.int .i64 v0_1), (.string v0_2), (.slice v0_3 v0_3n v0_3n)])] h = some r := run_i Try.func64 (by kernel_rfl) ((f64_eq base v0_0 v0_1 v0_2 v0_3 v0_3n h).trans hx)
/-! spec.l9Int (gates 0) -/
theorem f65_eq (base : Nat) (v0 : Int) (h : AH) : exFun (Et base) (run (Et base)) loopL a65 Try.f65 [(.int .i64 v0)] h =
((some (h ++ [some ⟨[(.int .i64 0), (.int .i64 0), (.string ⟨#[]⟩), (.slice none 0 0)], 32⟩])).bind fun h1 =>
(wr base h1 (List.length h) 0 [(.int .i64 (1 : Int)), (.int .i64 v0), (.string (⟨#[]⟩ : ByteArray)), (.slice none 0 0)]).bind fun h2 =>
((cell h2 (List.length h) 0).bind (getI .i64)).bind fun n3 =>
((cell h2 (List.length h) 1).bind (getI .i64)).bind fun n4 =>
((cell h2 (List.length h) 2).bind getStr).bind fun s5 =>
((cell h2 (List.length h) 3).bind getS).bind fun l6 =>
some ((.agg #[(.int .i64 n3), (.int .i64 n4), (.string s5), (.slice l6.1 l6.2 l6.2)]), h2) : Option (Value × AH)) := by kernel_rfl
theorem r65 {base : Nat} {v0 : Int} {h : AH} {r : Value × AH} (hx :
((some (h ++ [some ⟨[(.int .i64 0), (.int .i64 0), (.string ⟨#[]⟩), (.slice none 0 0)], 32⟩])).bind fun h1 =>
(wr base h1 (List.length h) 0 [(.int .i64 (1 : Int)), (.int .i64 v0), (.string (⟨#[]⟩ : ByteArray)), (.slice none 0 0)]).bind fun h2 =>
((cell h2 (List.length h) 0).bind (getI .i64)).bind fun n3 =>
((cell h2 (List.length h) 1).bind (getI .i64)).bind fun n4 =>
((cell h2 (List.length h) 2).bind getStr).bind fun s5 =>
((cell h2 (List.length h) 3).bind getS).bind fun l6 =>
some ((.agg #[(.int .i64 n3), (.int .i64 n4), (.string s5), (.slice l6.1 l6.2 l6.2)]), h2)) = some r) : run (Et base) 65 [(.int .i64 v0)] h = some r := run_i Try.func65 (by kernel_rfl) ((f65_eq base v0 h).trans hx)
end Go.Proofs.Ytnmjhhipbfngkaa.Am
