/- What each of these functions comes to on the abstract machine, one equation a function and one a loop.
Conditions: none. -/
import Derived.Test.YtnmjhhipbfngkaaTb
set_option linter.unusedVariables false
namespace Go.Proofs.Ytnmjhhipbfngkaa.Am
open Go Go.RowKit
/-! laws.szTerm (gates 0) -/
theorem f11_eq (base : Nat) (v0_0 : Int) (v0_1 : Int) (v0_2 : ByteArray) (v0_3 : Option Addr) (v0_3n : Nat) (v1 : Int) (h : AH) : exFun (Et base) (run (Et base)) loopL a11 Try.f11 [(.agg #[(.int .i64 v0_0), (.int .i64 v0_1), (.string v0_2), (.slice v0_3 v0_3n v0_3n)]), (.int .i64 v1)] h =
((some (h ++ [some ⟨[(.int .i64 v0_0), (.int .i64 v0_1), (.string v0_2), (.slice v0_3 v0_3n v0_3n)], 24⟩])).bind fun h1 =>
((cell h1 (List.length h) 2).bind getStr).bind fun s2 =>
(if (decide ((IntKind.wrap .i64 (v1 - (s2.size : Int))) < (0 : Int))) = true then
some ((.int .i64 (-1 : Int)), h1)
else
((cell h1 (List.length h) 3).bind getS).bind fun l3 =>
(run (Et base) 61 [(.slice l3.1 l3.2 l3.2), (.int .i64 (IntKind.wrap .i64 (v1 - (s2.size : Int))))] h1).bind fun r4 =>
((some r4.1).bind (getI .i64)).bind fun n5 =>
(if (decide (n5 < (0 : Int))) = true then
some ((.int .i64 (-1 : Int)), r4.2)
else
some ((.int .i64 n5), r4.2))) : Option (Value × AH)) := by kernel_rfl
theorem r11 {base : Nat} {v0_0 : Int} {v0_1 : Int} {v0_2 : ByteArray} {v0_3 : Option Addr} {v0_3n : Nat} {v1 : Int} {h : AH} {r : Value × AH} (hx :
((some (h ++ [some ⟨[(.int .i64 v0_0), (.int .i64 v0_1), (.string v0_2), (.slice v0_3 v0_3n v0_3n)], 24⟩])).bind fun h1 =>
((cell h1 (List.length h) 2).bind getStr).bind fun s2 =>
(if (decide ((IntKind.wrap .i64 (v1 - (s2.size : Int))) < (0 : Int))) = true then
some ((.int .i64 (-1 : Int)), h1)
else
((cell h1 (List.length h) 3).bind getS).bind fun l3 =>
(run (Et base) 61 [(.slice l3.1 l3.2 l3.2), (.int .i64 (IntKind.wrap .i64 (v1 - (s2.size : Int))))] h1).bind fun r4 =>
((some r4.1).bind (getI .i64)).bind fun n5 =>
(if (decide (n5 < (0 : Int))) = true then
some ((.int .i64 (-1 : Int)), r4.2)
else
some ((.int .i64 n5), r4.2)))) = some r) : run (Et base) 11 [(.agg #[(.int .i64 v0_0), (.int .i64 v0_1), (.string v0_2), (.slice v0_3 v0_3n v0_3n)]), (.int .i64 v1)] h = some r := run_i Try.func11 (by kernel_rfl) ((f11_eq base v0_0 v0_1 v0_2 v0_3 v0_3n v1 h).trans hx)
/-! laws.szTermS (gates 0) -/
noncomputable def B61_0 (base : Nat) : Body := fun l h => lay s61_0 l fun s => exCode (Et base) (run (Et base)) loopL a61_0 (subC [1, 1, 1, 0, 1, 0, 0] (bodyC Try.f61)) s h (keepK s61_0 e61_0)
theorem B61_0_eq (base : Nat) (v0 : Option Addr) (v0n : Nat) (v1 : Int) (v5 : Int) (h : AH) : B61_0 base [some (.slice v0 v0n v0n), some (.int .i64 v1), some (.int .i64 v5)] h =
((if (decide (v5 < ((v0n : Nat) : Int))) = true then
(if 0 ≤ v5 ∧ v5 < ((v0n : Nat) : Int) then
((v0 : Option Addr)).bind fun a1 =>
((cell h a1.block (a1.off + Int.toNat v5 * 4)).bind (getI .i64)).bind fun n2 =>
((cell h a1.block ((a1.off + Int.toNat v5 * 4) + 1)).bind (getI .i64)).bind fun n3 =>
((cell h a1.block (((a1.off + Int.toNat v5 * 4) + 1) + 1)).bind getStr).bind fun s4 =>
((cell h a1.block ((((a1.off + Int.toNat v5 * 4) + 1) + 1) + 1)).bind getS).bind fun l5 =>
(run (Et base) 11 [(.agg #[(.int .i64 n2), (.int .i64 n3), (.string s4), (.slice l5.1 l5.2 l5.2)]), (.int .i64 v1)] h).bind fun r6 =>
((some r6.1).bind (getI .i64)).bind fun n7 =>
(if (decide (n7 < (0 : Int))) = true then
some (1, [some (.int .i64 (-1 : Int))], r6.2)
else
some (0, [some (.slice v0 v0n v0n), some (.int .i64 n7), some (.int .i64 (IntKind.wrap .i64 (v5 + (1 : Int))))], r6.2))
else none)
else
some (2, [some (.int .i64 v1)], h)) : Option (Nat × Slots × AH)) := by kernel_rfl
theorem f61_eq (base : Nat) (v0 : Option Addr) (v0n : Nat) (v1 : Int) (h : AH) : exFun (Et base) (run (Et base)) loopL a61 Try.f61 [(.slice v0 v0n v0n), (.int .i64 v1)] h =
((if (decide ((IntKind.wrap .i64 (v1 - ((v0n : Nat) : Int))) < (0 : Int))) = true then
some ((.int .i64 (-1 : Int)), h)
else
(loopL (B61_0 base) [some (.slice v0 v0n v0n), some (.int .i64 (IntKind.wrap .i64 (v1 - ((v0n : Nat) : Int)))), some (.int .i64 (0 : Int))] h).bind fun q1 =>
(if q1.1 = 1 then
((sget q1.2.1 0).bind (getI .i64)).bind fun n2 =>
some ((.int .i64 n2), q1.2.2)
else
(if q1.1 = 2 then
((sget q1.2.1 0).bind (getI .i64)).bind fun n3 =>
some ((.int .i64 n3), q1.2.2)
else
none))) : Option (Value × AH)) := by kernel_rfl
theorem r61 {base : Nat} {v0 : Option Addr} {v0n : Nat} {v1 : Int} {h : AH} {r : Value × AH} (hx :
((if (decide ((IntKind.wrap .i64 (v1 - ((v0n : Nat) : Int))) < (0 : Int))) = true then
some ((.int .i64 (-1 : Int)), h)
else
(loopL (B61_0 base) [some (.slice v0 v0n v0n), some (.int .i64 (IntKind.wrap .i64 (v1 - ((v0n : Nat) : Int)))), some (.int .i64 (0 : Int))] h).bind fun q1 =>
(if q1.1 = 1 then
((sget q1.2.1 0).bind (getI .i64)).bind fun n2 =>
some ((.int .i64 n2), q1.2.2)
else
(if q1.1 = 2 then
((sget q1.2.1 0).bind (getI .i64)).bind fun n3 =>
some ((.int .i64 n3), q1.2.2)
else
none)))) = some r) : run (Et base) 61 [(.slice v0 v0n v0n), (.int .i64 v1)] h = some r := run_i Try.func61 (by kernel_rfl) ((f61_eq base v0 v0n v1 h).trans hx)
/-! laws.toTerm (gates 0) -/
theorem f13_eq (base : Nat) (v0_0 : Int) (v0_1 : Int) (v0_2 : ByteArray) (v0_3 : Option Addr) (v0_3n : Nat) (h : AH) : exFun (Et base) (run (Et base)) loopL a13 Try.f13 [(.agg #[(.int .i64 v0_0), (.int .i64 v0_1), (.string v0_2), (.slice v0_3 v0_3n v0_3n)])] h =
((some (h ++ [some ⟨[(.int .i64 v0_0), (.int .i64 v0_1), (.string v0_2), (.slice v0_3 v0_3n v0_3n)], 24⟩])).bind fun h1 =>
(some (h1 ++ [some ⟨[(.int .i64 0), (.int .i64 0), (.string ⟨#[]⟩), (.slice none 0 0)], 32⟩])).bind fun h2 =>
(some (h2 ++ [some ⟨[(.int .i64 0), (.int .i64 0), (.string ⟨#[]⟩), (.slice none 0 0)], 32⟩])).bind fun h3 =>
((cell h3 (List.length h) 0).bind (getI .i64)).bind fun n4 =>
(wr base h3 (List.length h2) 0 [(.int .i64 n4)]).bind fun h5 =>
((cell h5 (List.length h) 1).bind (getI .i64)).bind fun n6 =>
(wr base h5 (List.length h2) 1 [(.int .i64 n6)]).bind fun h7 =>
((cell h7 (List.length h) 2).bind getStr).bind fun s8 =>
(wr base h7 (List.length h2) 2 [(.string s8)]).bind fun h9 =>
((cell h9 (List.length h) 3).bind getS).bind fun l10 =>
(run (Et base) 66 [(.slice l10.1 l10.2 l10.2)] h9).bind fun r11 =>
((some r11.1).bind getS).bind fun l12 =>
(wr base r11.2 (List.length h2) 3 [(.slice l12.1 l12.2 l12.2)]).bind fun h13 =>
((cell h13 (List.length h2) 0).bind (getI .i64)).bind fun n14 =>
((cell h13 (List.length h2) 1).bind (getI .i64)).bind fun n15 =>
((cell h13 (List.length h2) 2).bind getStr).bind fun s16 =>
((cell h13 (List.length h2) 3).bind getS).bind fun l17 =>
(wr base h13 (List.length h1) 0 [(.int .i64 n14), (.int .i64 n15), (.string s16), (.slice l17.1 l17.2 l17.2)]).bind fun h18 =>
((cell h18 (List.length h1) 0).bind (getI .i64)).bind fun n19 =>
((cell h18 (List.length h1) 1).bind (getI .i64)).bind fun n20 =>
((cell h18 (List.length h1) 2).bind getStr).bind fun s21 =>
((cell h18 (List.length h1) 3).bind getS).bind fun l22 =>
some ((.agg #[(.int .i64 n19), (.int .i64 n20), (.string s21), (.slice l22.1 l22.2 l22.2)]), h18) : Option (Value × AH)) := by kernel_rfl
theorem r13 {base : Nat} {v0_0 : Int} {v0_1 : Int} {v0_2 : ByteArray} {v0_3 : Option Addr} {v0_3n : Nat} {h : AH} {r : Value × AH} (hx :
((some (h ++ [some ⟨[(.int .i64 v0_0), (.int .i64 v0_1), (.string v0_2), (.slice v0_3 v0_3n v0_3n)], 24⟩])).bind fun h1 =>
(some (h1 ++ [some ⟨[(.int .i64 0), (.int .i64 0), (.string ⟨#[]⟩), (.slice none 0 0)], 32⟩])).bind fun h2 =>
(some (h2 ++ [some ⟨[(.int .i64 0), (.int .i64 0), (.string ⟨#[]⟩), (.slice none 0 0)], 32⟩])).bind fun h3 =>
((cell h3 (List.length h) 0).bind (getI .i64)).bind fun n4 =>
(wr base h3 (List.length h2) 0 [(.int .i64 n4)]).bind fun h5 =>
((cell h5 (List.length h) 1).bind (getI .i64)).bind fun n6 =>
(wr base h5 (List.length h2) 1 [(.int .i64 n6)]).bind fun h7 =>
((cell h7 (List.length h) 2).bind getStr).bind fun s8 =>
(wr base h7 (List.length h2) 2 [(.string s8)]).bind fun h9 =>
((cell h9 (List.length h) 3).bind getS).bind fun l10 =>
(run (Et base) 66 [(.slice l10.1 l10.2 l10.2)] h9).bind fun r11 =>
((some r11.1).bind getS).bind fun l12 =>
(wr base r11.2 (List.length h2) 3 [(.slice l12.1 l12.2 l12.2)]).bind fun h13 =>
((cell h13 (List.length h2) 0).bind (getI .i64)).bind fun n14 =>
((cell h13 (List.length h2) 1).bind (getI .i64)).bind fun n15 =>
((cell h13 (List.length h2) 2).bind getStr).bind fun s16 =>
((cell h13 (List.length h2) 3).bind getS).bind fun l17 =>
(wr base h13 (List.length h1) 0 [(.int .i64 n14), (.int .i64 n15), (.string s16), (.slice l17.1 l17.2 l17.2)]).bind fun h18 =>
((cell h18 (List.length h1) 0).bind (getI .i64)).bind fun n19 =>
((cell h18 (List.length h1) 1).bind (getI .i64)).bind fun n20 =>
((cell h18 (List.length h1) 2).bind getStr).bind fun s21 =>
((cell h18 (List.length h1) 3).bind getS).bind fun l22 =>
some ((.agg #[(.int .i64 n19), (.int .i64 n20), (.string s21), (.slice l22.1 l22.2 l22.2)]), h18)) = some r) : run (Et base) 13 [(.agg #[(.int .i64 v0_0), (.int .i64 v0_1), (.string v0_2), (.slice v0_3 v0_3n v0_3n)])] h = some r := run_i Try.func13 (by kernel_rfl) ((f13_eq base v0_0 v0_1 v0_2 v0_3 v0_3n h).trans hx)
/-! laws.toTermS (gates 0) -/
noncomputable def B66_0 (base : Nat) : Body := fun l h => lay s66_0 l fun s => exCode (Et base) (run (Et base)) loopL a66_0 (subC [1, 1, 0, 1, 0, 0] (bodyC Try.f66)) s h (keepK s66_0 e66_0)
theorem B66_0_eq (base : Nat) (v0 : Option Addr) (v0n : Nat) (v3 : Option Addr) (v3n : Nat) (v4 : Int) (h : AH) : B66_0 base [some (.slice v0 v0n v0n), some (.slice v3 v3n v3n), some (.int .i64 v4)] h =
((if (decide (v4 < ((v0n : Nat) : Int))) = true then
(if 0 ≤ v4 ∧ v4 < ((v0n : Nat) : Int) then
((v0 : Option Addr)).bind fun a1 =>
((cell h a1.block (a1.off + Int.toNat v4 * 4)).bind (getI .i64)).bind fun n2 =>
((cell h a1.block ((a1.off + Int.toNat v4 * 4) + 1)).bind (getI .i64)).bind fun n3 =>
((cell h a1.block (((a1.off + Int.toNat v4 * 4) + 1) + 1)).bind getStr).bind fun s4 =>
((cell h a1.block ((((a1.off + Int.toNat v4 * 4) + 1) + 1) + 1)).bind getS).bind fun l5 =>
(run (Et base) 13 [(.agg #[(.int .i64 n2), (.int .i64 n3), (.string s4), (.slice l5.1 l5.2 l5.2)])] h).bind fun r6 =>
((some r6.1).bind (getAgg 4)).bind fun l7 =>
((l7[0]?).bind (getI .i64)).bind fun n8 =>
((l7[1]?).bind (getI .i64)).bind fun n9 =>
((l7[2]?).bind getStr).bind fun s10 =>
((l7[3]?).bind getS).bind fun l11 =>
(if 0 ≤ v4 ∧ v4 < ((v3n : Nat) : Int) then
((v3 : Option Addr)).bind fun a12 =>
(wr base r6.2 a12.block (a12.off + Int.toNat v4 * 4) [(.int .i64 n8), (.int .i64 n9), (.string s10), (.slice l11.1 l11.2 l11.2)]).bind fun h13 =>
some (0, [some (.slice v0 v0n v0n), some (.slice v3 v3n v3n), some (.int .i64 (IntKind.wrap .i64 (v4 + (1 : Int))))], h13)
else none)
else none)
else
some (2, [some (.slice v3 v3n v3n)], h)) : Option (Nat × Slots × AH)) := by kernel_rfl
theorem f66_eq (base : Nat) (v0 : Option Addr) (v0n : Nat) (h : AH) : exFun (Et base) (run (Et base)) loopL a66 Try.f66 [(.slice v0 v0n v0n)] h =
((if ((v0n : Nat) : Int) = ((v0n : Nat) : Int) ∧ 0 ≤ ((v0n : Nat) : Int) ∧ ((v0n : Nat) : Int) * 56 ≤ 140737488355328 ∧ ((v0n : Nat) : Int) ≤ 140737488355328 then
(some (h ++ [some ⟨rep [(.int .i64 0), (.int .i64 0), (.string ⟨#[]⟩), (.slice none 0 0)] (Int.toNat ((v0n : Nat) : Int)), 32⟩])).bind fun h1 =>
(loopL (B66_0 base) [some (.slice v0 v0n v0n), some (.slice (some ⟨(List.length h), 0, none⟩) (Int.toNat ((v0n : Nat) : Int)) (Int.toNat ((v0n : Nat) : Int))), some (.int .i64 (0 : Int))] h1).bind fun q2 =>
(if q2.1 = 2 then
((sget q2.2.1 0).bind getS).bind fun l3 =>
some ((.slice l3.1 l3.2 l3.2), q2.2.2)
else
none)
else none) : Option (Value × AH)) := by kernel_rfl
theorem r66 {base : Nat} {v0 : Option Addr} {v0n : Nat} {h : AH} {r : Value × AH} (hx :
((if ((v0n : Nat) : Int) = ((v0n : Nat) : Int) ∧ 0 ≤ ((v0n : Nat) : Int) ∧ ((v0n : Nat) : Int) * 56 ≤ 140737488355328 ∧ ((v0n : Nat) : Int) ≤ 140737488355328 then
(some (h ++ [some ⟨rep [(.int .i64 0), (.int .i64 0), (.string ⟨#[]⟩), (.slice none 0 0)] (Int.toNat ((v0n : Nat) : Int)), 32⟩])).bind fun h1 =>
(loopL (B66_0 base) [some (.slice v0 v0n v0n), some (.slice (some ⟨(List.length h), 0, none⟩) (Int.toNat ((v0n : Nat) : Int)) (Int.toNat ((v0n : Nat) : Int))), some (.int .i64 (0 : Int))] h1).bind fun q2 =>
(if q2.1 = 2 then
((sget q2.2.1 0).bind getS).bind fun l3 =>
some ((.slice l3.1 l3.2 l3.2), q2.2.2)
else
none)
else none)) = some r) : run (Et base) 66 [(.slice v0 v0n v0n)] h = some r := run_i Try.func66 (by kernel_rfl) ((f66_eq base v0 v0n h).trans hx)
/-! laws.eqTerm (gates 0) -/
theorem f16_eq (base : Nat) (v0_0 : Int) (v0_1 : Int) (v0_2 : ByteArray) (v0_3 : Option Addr) (v0_3n : Nat) (v1_0 : Int) (v1_1 : Int) (v1_2 : ByteArray) (v1_3 : Option Addr) (v1_3n : Nat) (h : AH) : exFun (Et base) (run (Et base)) loopL a16 Try.f16 [(.agg #[(.int .i64 v0_0), (.int .i64 v0_1), (.string v0_2), (.slice v0_3 v0_3n v0_3n)]), (.agg #[(.int .i64 v1_0), (.int .i64 v1_1), (.string v1_2), (.slice v1_3 v1_3n v1_3n)])] h =
((some (h ++ [some ⟨[(.int .i64 v0_0), (.int .i64 v0_1), (.string v0_2), (.slice v0_3 v0_3n v0_3n)], 32⟩])).bind fun h1 =>
(some (h1 ++ [some ⟨[(.int .i64 v1_0), (.int .i64 v1_1), (.string v1_2), (.slice v1_3 v1_3n v1_3n)], 32⟩])).bind fun h2 =>
((cell h2 (List.length h) 0).bind (getI .i64)).bind fun n3 =>
((cell h2 (List.length h1) 0).bind (getI .i64)).bind fun n4 =>
(if (n3 != n4) = true then
some ((.bool false), h2)
else
((cell h2 (List.length h) 1).bind (getI .i64)).bind fun n5 =>
((cell h2 (List.length h1) 1).bind (getI .i64)).bind fun n6 =>
(if (n5 != n6) = true then
some ((.bool false), h2)
else
((cell h2 (List.length h) 2).bind getStr).bind fun s7 =>
((cell h2 (List.length h1) 2).bind getStr).bind fun s8 =>
(if (!(s7.toList == s8.toList)) = true then
some ((.bool false), h2)
else
((cell h2 (List.length h) 3).bind getS).bind fun l9 =>
((cell h2 (List.length h1) 3).bind getS).bind fun l10 =>
(run (Et base) 70 [(.slice l9.1 l9.2 l9.2), (.slice l10.1 l10.2 l10.2)] h2).bind fun r11 =>
((some r11.1).bind getB).bind fun b12 =>
(if (!b12) = true then
some ((.bool false), r11.2)
else
some ((.bool true), r11.2))))) : Option (Value × AH)) := by kernel_rfl
theorem r16 {base : Nat} {v0_0 : Int} {v0_1 : Int} {v0_2 : ByteArray} {v0_3 : Option Addr} {v0_3n : Nat} {v1_0 : Int} {v1_1 : Int} {v1_2 : ByteArray} {v1_3 : Option Addr} {v1_3n : Nat} {h : AH} {r : Value × AH} (hx :
((some (h ++ [some ⟨[(.int .i64 v0_0), (.int .i64 v0_1), (.string v0_2), (.slice v0_3 v0_3n v0_3n)], 32⟩])).bind fun h1 =>
(some (h1 ++ [some ⟨[(.int .i64 v1_0), (.int .i64 v1_1), (.string v1_2), (.slice v1_3 v1_3n v1_3n)], 32⟩])).bind fun h2 =>
((cell h2 (List.length h) 0).bind (getI .i64)).bind fun n3 =>
((cell h2 (List.length h1) 0).bind (getI .i64)).bind fun n4 =>
(if (n3 != n4) = true then
some ((.bool false), h2)
else
((cell h2 (List.length h) 1).bind (getI .i64)).bind fun n5 =>
((cell h2 (List.length h1) 1).bind (getI .i64)).bind fun n6 =>
(if (n5 != n6) = true then
some ((.bool false), h2)
else
((cell h2 (List.length h) 2).bind getStr).bind fun s7 =>
((cell h2 (List.length h1) 2).bind getStr).bind fun s8 =>
(if (!(s7.toList == s8.toList)) = true then
some ((.bool false), h2)
else
((cell h2 (List.length h) 3).bind getS).bind fun l9 =>
((cell h2 (List.length h1) 3).bind getS).bind fun l10 =>
(run (Et base) 70 [(.slice l9.1 l9.2 l9.2), (.slice l10.1 l10.2 l10.2)] h2).bind fun r11 =>
((some r11.1).bind getB).bind fun b12 =>
(if (!b12) = true then
some ((.bool false), r11.2)
else
some ((.bool true), r11.2)))))) = some r) : run (Et base) 16 [(.agg #[(.int .i64 v0_0), (.int .i64 v0_1), (.string v0_2), (.slice v0_3 v0_3n v0_3n)]), (.agg #[(.int .i64 v1_0), (.int .i64 v1_1), (.string v1_2), (.slice v1_3 v1_3n v1_3n)])] h = some r := run_i Try.func16 (by kernel_rfl) ((f16_eq base v0_0 v0_1 v0_2 v0_3 v0_3n v1_0 v1_1 v1_2 v1_3 v1_3n h).trans hx)
/-! laws.eqTermS (gates 0) -/
noncomputable def B70_0 (base : Nat) : Body := fun l h => lay s70_0 l fun s => exCode (Et base) (run (Et base)) loopL a70_0 (subC [1, 1, 0, 1, 0, 0] (bodyC Try.f70)) s h (keepK s70_0 e70_0)
theorem B70_0_eq (base : Nat) (v0 : Option Addr) (v0n : Nat) (v1 : Option Addr) (v1n : Nat) (v5 : Int) (h : AH) : B70_0 base [some (.slice v0 v0n v0n), some (.slice v1 v1n v1n), some (.int .i64 v5)] h =
((if (decide (v5 < ((v0n : Nat) : Int))) = true then
(if 0 ≤ v5 ∧ v5 < ((v0n : Nat) : Int) then
((v0 : Option Addr)).bind fun a1 =>
((cell h a1.block (a1.off + Int.toNat v5 * 4)).bind (getI .i64)).bind fun n2 =>
((cell h a1.block ((a1.off + Int.toNat v5 * 4) + 1)).bind (getI .i64)).bind fun n3 =>
((cell h a1.block (((a1.off + Int.toNat v5 * 4) + 1) + 1)).bind getStr).bind fun s4 =>
((cell h a1.block ((((a1.off + Int.toNat v5 * 4) + 1) + 1) + 1)).bind getS).bind fun l5 =>
(if 0 ≤ v5 ∧ v5 < ((v1n : Nat) : Int) then
((v1 : Option Addr)).bind fun a6 =>
((cell h a6.block (a6.off + Int.toNat v5 * 4)).bind (getI .i64)).bind fun n7 =>
((cell h a6.block ((a6.off + Int.toNat v5 * 4) + 1)).bind (getI .i64)).bind fun n8 =>
((cell h a6.block (((a6.off + Int.toNat v5 * 4) + 1) + 1)).bind getStr).bind fun s9 =>
((cell h a6.block ((((a6.off + Int.toNat v5 * 4) + 1) + 1) + 1)).bind getS).bind fun l10 =>
(run (Et base) 16 [(.agg #[(.int .i64 n2), (.int .i64 n3), (.string s4), (.slice l5.1 l5.2 l5.2)]), (.agg #[(.int .i64 n7), (.int .i64 n8), (.string s9), (.slice l10.1 l10.2 l10.2)])] h).bind fun r11 =>
((some r11.1).bind getB).bind fun b12 =>
(if (!b12) = true then
some (1, [some (.bool false)], r11.2)
else
some (0, [some (.slice v0 v0n v0n), some (.slice v1 v1n v1n), some (.int .i64 (IntKind.wrap .i64 (v5 + (1 : Int))))], r11.2))
else none)
else none)
else
some (2, [], h)) : Option (Nat × Slots × AH)) := by kernel_rfl
theorem f70_eq (base : Nat) (v0 : Option Addr) (v0n : Nat) (v1 : Option Addr) (v1n : Nat) (h : AH) : exFun (Et base) (run (Et base)) loopL a70 Try.f70 [(.slice v0 v0n v0n), (.slice v1 v1n v1n)] h =
((if (((v0n : Nat) : Int) != ((v1n : Nat) : Int)) = true then
some ((.bool false), h)
else
(loopL (B70_0 base) [some (.slice v0 v0n v0n), some (.slice v1 v1n v1n), some (.int .i64 (0 : Int))] h).bind fun q1 =>
(if q1.1 = 1 then
((sget q1.2.1 0).bind getB).bind fun b2 =>
some ((.bool b2), q1.2.2)
else
(if q1.1 = 2 then
some ((.bool true), q1.2.2)
else
none))) : Option (Value × AH)) := by kernel_rfl
theorem r70 {base : Nat} {v0 : Option Addr} {v0n : Nat} {v1 : Option Addr} {v1n : Nat} {h : AH} {r : Value × AH} (hx :
((if (((v0n : Nat) : Int) != ((v1n : Nat) : Int)) = true then
some ((.bool false), h)
else
(loopL (B70_0 base) [some (.slice v0 v0n v0n), some (.slice v1 v1n v1n), some (.int .i64 (0 : Int))] h).bind fun q1 =>
(if q1.1 = 1 then
((sget q1.2.1 0).bind getB).bind fun b2 =>
some ((.bool b2), q1.2.2)
else
(if q1.1 = 2 then
some ((.bool true), q1.2.2)
else
none)))) = some r) : run (Et base) 70 [(.slice v0 v0n v0n), (.slice v1 v1n v1n)] h = some r := run_i Try.func70 (by kernel_rfl) ((f70_eq base v0 v0n v1 v1n h).trans hx)
/-! laws.eqIntS (gates 0) -/
noncomputable def B71_0 (base : Nat) : Body := fun l h => lay s71_0 l fun s => exCode (Et base) (run (Et base)) loopL a71_0 (subC [1, 1, 0, 1, 0, 0] (bodyC Try.f71)) s h (keepK s71_0 e71_0)
theorem B71_0_eq (base : Nat) (v0 : Option Addr) (v0n : Nat) (v1 : Option Addr) (v1n : Nat) (v5 : Int) (h : AH) : B71_0 base [some (.slice v0 v0n v0n), some (.slice v1 v1n v1n), some (.int .i64 v5)] h =
((if (decide (v5 < ((v0n : Nat) : Int))) = true then
(if 0 ≤ v5 ∧ v5 < ((v0n : Nat) : Int) then
((v0 : Option Addr)).bind fun a1 =>
((cell h a1.block (a1.off + Int.toNat v5 * 1)).bind (getI .i64)).bind fun n2 =>
(if 0 ≤ v5 ∧ v5 < ((v1n : Nat) : Int) then
((v1 : Option Addr)).bind fun a3 =>
((cell h a3.block (a3.off + Int.toNat v5 * 1)).bind (getI .i64)).bind fun n4 =>
(if (n2 != n4) = true then
some (1, [some (.bool false)], h)
else
some (0, [some (.slice v0 v0n v0n), some (.slice v1 v1n v1n), some (.int .i64 (IntKind.wrap .i64 (v5 + (1 : Int))))], h))
else none)
else none)
else
some (2, [], h)) : Option (Nat × Slots × AH)) := by kernel_rfl
theorem f71_eq (base : Nat) (v0 : Option Addr) (v0n : Nat) (v1 : Option Addr) (v1n : Nat) (h : AH) : exFun (Et base) (run (Et base)) loopL a71 Try.f71 [(.slice v0 v0n v0n), (.slice v1 v1n v1n)] h =
((if (((v0n : Nat) : Int) != ((v1n : Nat) : Int)) = true then
some ((.bool false), h)
else
(loopL (B71_0 base) [some (.slice v0 v0n v0n), some (.slice v1 v1n v1n), some (.int .i64 (0 : Int))] h).bind fun q1 =>
(if q1.1 = 1 then
((sget q1.2.1 0).bind getB).bind fun b2 =>
some ((.bool b2), q1.2.2)
else
(if q1.1 = 2 then
some ((.bool true), q1.2.2)
else
none))) : Option (Value × AH)) := by kernel_rfl
theorem r71 {base : Nat} {v0 : Option Addr} {v0n : Nat} {v1 : Option Addr} {v1n : Nat} {h : AH} {r : Value × AH} (hx :
((if (((v0n : Nat) : Int) != ((v1n : Nat) : Int)) = true then
some ((.bool false), h)
else
(loopL (B71_0 base) [some (.slice v0 v0n v0n), some (.slice v1 v1n v1n), some (.int .i64 (0 : Int))] h).bind fun q1 =>
(if q1.1 = 1 then
((sget q1.2.1 0).bind getB).bind fun b2 =>
some ((.bool b2), q1.2.2)
else
(if q1.1 = 2 then
some ((.bool true), q1.2.2)
else
none)))) = some r) : run (Et base) 71 [(.slice v0 v0n v0n), (.slice v1 v1n v1n)] h = some r := run_i Try.func71 (by kernel_rfl) ((f71_eq base v0 v0n v1 v1n h).trans hx)
/-! laws.markIntS (gates 0) -/
noncomputable def B73_0 (base : Nat) : Body := fun l h => lay s73_0 l fun s => exCode (Et base) (run (Et base)) loopL a73_0 (subC [1, 0, 1, 0, 0] (bodyC Try.f73)) s h (keepK s73_0 e73_0)
theorem B73_0_eq (base : Nat) (v0 : Option Addr) (v0n : Nat) (v1 : Int) (v5 : Int) (h : AH) : B73_0 base [some (.slice v0 v0n v0n), some (.int .i64 v1), some (.int .i64 v5)] h =
((if (decide (v5 < ((v0n : Nat) : Int))) = true then
(if 0 ≤ v5 ∧ v5 < ((v0n : Nat) : Int) then
((v0 : Option Addr)).bind fun a1 =>
(wr base h a1.block (a1.off + Int.toNat v5 * 1) [(.int .i64 v1)]).bind fun h2 =>
some (0, [some (.slice v0 v0n v0n), some (.int .i64 (IntKind.wrap .i64 (v1 + (1 : Int)))), some (.int .i64 (IntKind.wrap .i64 (v5 + (1 : Int))))], h2)
else none)
else
some (2, [some (.int .i64 v1)], h)) : Option (Nat × Slots × AH)) := by kernel_rfl
theorem f73_eq (base : Nat) (v0 : Option Addr) (v0n : Nat) (v1 : Int) (h : AH) : exFun (Et base) (run (Et base)) loopL a73 Try.f73 [(.slice v0 v0n v0n), (.int .i64 v1)] h =
((loopL (B73_0 base) [some (.slice v0 v0n v0n), some (.int .i64 v1), some (.int .i64 (0 : Int))] h).bind fun q1 =>
(if q1.1 = 2 then
((sget q1.2.1 0).bind (getI .i64)).bind fun n2 =>
some ((.int .i64 n2), q1.2.2)
else
none) : Option (Value × AH)) := by kernel_rfl
theorem r73 {base : Nat} {v0 : Option Addr} {v0n : Nat} {v1 : Int} {h : AH} {r : Value × AH} (hx :
((loopL (B73_0 base) [some (.slice v0 v0n v0n), some (.int .i64 v1), some (.int .i64 (0 : Int))] h).bind fun q1 =>
(if q1.1 = 2 then
((sget q1.2.1 0).bind (getI .i64)).bind fun n2 =>
some ((.int .i64 n2), q1.2.2)
else
none)) = some r) : run (Et base) 73 [(.slice v0 v0n v0n), (.int .i64 v1)] h = some r := run_i Try.func73 (by kernel_rfl) ((f73_eq base v0 v0n v1 h).trans hx)
/-! laws.heldIntS (gates 0) -/
noncomputable def B75_0 (base : Nat) : Body := fun l h => lay s75_0 l fun s => exCode (Et base) (run (Et base)) loopL a75_0 (subC [1, 0, 1, 0, 0] (bodyC Try.f75)) s h (keepK s75_0 e75_0)
theorem B75_0_eq (base : Nat) (v0 : Option Addr) (v0n : Nat) (v1 : Int) (v5 : Int) (h : AH) : B75_0 base [some (.slice v0 v0n v0n), some (.int .i64 v1), some (.int .i64 v5)] h =
((if (decide (v5 < ((v0n : Nat) : Int))) = true then
(if 0 ≤ v5 ∧ v5 < ((v0n : Nat) : Int) then
((v0 : Option Addr)).bind fun a1 =>
((cell h a1.block (a1.off + Int.toNat v5 * 1)).bind (getI .i64)).bind fun n2 =>
(if (n2 != v1) = true then
some (1, [some (.int .i64 (-1 : Int))], h)
else
some (0, [some (.slice v0 v0n v0n), some (.int .i64 (IntKind.wrap .i64 (v1 + (1 : Int)))), some (.int .i64 (IntKind.wrap .i64 (v5 + (1 : Int))))], h))
else none)
else
some (2, [some (.int .i64 v1)], h)) : Option (Nat × Slots × AH)) := by kernel_rfl
theorem f75_eq (base : Nat) (v0 : Option Addr) (v0n : Nat) (v1 : Int) (h : AH) : exFun (Et base) (run (Et base)) loopL a75 Try.f75 [(.slice v0 v0n v0n), (.int .i64 v1)] h =
((loopL (B75_0 base) [some (.slice v0 v0n v0n), some (.int .i64 v1), some (.int .i64 (0 : Int))] h).bind fun q1 =>
(if q1.1 = 1 then
((sget q1.2.1 0).bind (getI .i64)).bind fun n2 =>
some ((.int .i64 n2), q1.2.2)
else
(if q1.1 = 2 then
((sget q1.2.1 0).bind (getI .i64)).bind fun n3 =>
some ((.int .i64 n3), q1.2.2)
else
none)) : Option (Value × AH)) := by kernel_rfl
theorem r75 {base : Nat} {v0 : Option Addr} {v0n : Nat} {v1 : Int} {h : AH} {r : Value × AH} (hx :
((loopL (B75_0 base) [some (.slice v0 v0n v0n), some (.int .i64 v1), some (.int .i64 (0 : Int))] h).bind fun q1 =>
(if q1.1 = 1 then
((sget q1.2.1 0).bind (getI .i64)).bind fun n2 =>
some ((.int .i64 n2), q1.2.2)
else
(if q1.1 = 2 then
((sget q1.2.1 0).bind (getI .i64)).bind fun n3 =>
some ((.int .i64 n3), q1.2.2)
else
none))) = some r) : run (Et base) 75 [(.slice v0 v0n v0n), (.int .i64 v1)] h = some r := run_i Try.func75 (by kernel_rfl) ((f75_eq base v0 v0n v1 h).trans hx)
/-! laws.szIntS (gates 0) -/
theorem f89_eq (base : Nat) (v0 : Option Addr) (v0n : Nat) (v1 : Int) (h : AH) : exFun (Et base) (run (Et base)) loopL a89 Try.f89 [(.slice v0 v0n v0n), (.int .i64 v1)] h =
((if (decide ((IntKind.wrap .i64 (v1 - ((v0n : Nat) : Int))) < (0 : Int))) = true then
some ((.int .i64 (-1 : Int)), h)
else
some ((.int .i64 (IntKind.wrap .i64 (v1 - ((v0n : Nat) : Int)))), h)) : Option (Value × AH)) := by kernel_rfl
theorem r89 {base : Nat} {v0 : Option Addr} {v0n : Nat} {v1 : Int} {h : AH} {r : Value × AH} (hx :
((if (decide ((IntKind.wrap .i64 (v1 - ((v0n : Nat) : Int))) < (0 : Int))) = true then
some ((.int .i64 (-1 : Int)), h)
else
some ((.int .i64 (IntKind.wrap .i64 (v1 - ((v0n : Nat) : Int)))), h))) = some r) : run (Et base) 89 [(.slice v0 v0n v0n), (.int .i64 v1)] h = some r := run_i Try.func89 (by kernel_rfl) ((f89_eq base v0 v0n v1 h).trans hx)
/-! laws.toIntS (gates 0) -/
noncomputable def B92_0 (base : Nat) : Body := fun l h => lay s92_0 l fun s => exCode (Et base) (run (Et base)) loopL a92_0 (subC [1, 1, 0, 1, 0, 0] (bodyC Try.f92)) s h (keepK s92_0 e92_0)
theorem B92_0_eq (base : Nat) (v0 : Option Addr) (v0n : Nat) (v3 : Option Addr) (v3n : Nat) (v4 : Int) (h : AH) : B92_0 base [some (.slice v0 v0n v0n), some (.slice v3 v3n v3n), some (.int .i64 v4)] h =
((if (decide (v4 < ((v0n : Nat) : Int))) = true then
(if 0 ≤ v4 ∧ v4 < ((v0n : Nat) : Int) then
((v0 : Option Addr)).bind fun a1 =>
((cell h a1.block (a1.off + Int.toNat v4 * 1)).bind (getI .i64)).bind fun n2 =>
(if 0 ≤ v4 ∧ v4 < ((v3n : Nat) : Int) then
((v3 : Option Addr)).bind fun a3 =>
(wr base h a3.block (a3.off + Int.toNat v4 * 1) [(.int .i64 n2)]).bind fun h4 =>
some (0, [some (.slice v0 v0n v0n), some (.slice v3 v3n v3n), some (.int .i64 (IntKind.wrap .i64 (v4 + (1 : Int))))], h4)
else none)
else none)
else
some (2, [some (.slice v3 v3n v3n)], h)) : Option (Nat × Slots × AH)) := by kernel_rfl
theorem f92_eq (base : Nat) (v0 : Option Addr) (v0n : Nat) (h : AH) : exFun (Et base) (run (Et base)) loopL a92 Try.f92 [(.slice v0 v0n v0n)] h =
((if ((v0n : Nat) : Int) = ((v0n : Nat) : Int) ∧ 0 ≤ ((v0n : Nat) : Int) ∧ ((v0n : Nat) : Int) * 8 ≤ 140737488355328 ∧ ((v0n : Nat) : Int) ≤ 140737488355328 then
(some (h ++ [some ⟨rep [(.int .i64 0)] (Int.toNat ((v0n : Nat) : Int)), 3⟩])).bind fun h1 =>
(loopL (B92_0 base) [some (.slice v0 v0n v0n), some (.slice (some ⟨(List.length h), 0, none⟩) (Int.toNat ((v0n : Nat) : Int)) (Int.toNat ((v0n : Nat) : Int))), some (.int .i64 (0 : Int))] h1).bind fun q2 =>
(if q2.1 = 2 then
((sget q2.2.1 0).bind getS).bind fun l3 =>
some ((.slice l3.1 l3.2 l3.2), q2.2.2)
else
none)
else none) : Option (Value × AH)) := by kernel_rfl
theorem r92 {base : Nat} {v0 : Option Addr} {v0n : Nat} {h : AH} {r : Value × AH} (hx :
((if ((v0n : Nat) : Int) = ((v0n : Nat) : Int) ∧ 0 ≤ ((v0n : Nat) : Int) ∧ ((v0n : Nat) : Int) * 8 ≤ 140737488355328 ∧ ((v0n : Nat) : Int) ≤ 140737488355328 then
(some (h ++ [some ⟨rep [(.int .i64 0)] (Int.toNat ((v0n : Nat) : Int)), 3⟩])).bind fun h1 =>
(loopL (B92_0 base) [some (.slice v0 v0n v0n), some (.slice (some ⟨(List.length h), 0, none⟩) (Int.toNat ((v0n : Nat) : Int)) (Int.toNat ((v0n : Nat) : Int))), some (.int .i64 (0 : Int))] h1).bind fun q2 =>
(if q2.1 = 2 then
((sget q2.2.1 0).bind getS).bind fun l3 =>
some ((.slice l3.1 l3.2 l3.2), q2.2.2)
else
none)
else none)) = some r) : run (Et base) 92 [(.slice v0 v0n v0n)] h = some r := run_i Try.func92 (by kernel_rfl) ((f92_eq base v0 v0n h).trans hx)
/-! laws.eqByteS (gates 0) -/
noncomputable def B24_0 (base : Nat) : Body := fun l h => lay s24_0 l fun s => exCode (Et base) (run (Et base)) loopL a24_0 (subC [1, 1, 0, 1, 0, 0] (bodyC Try.f24)) s h (keepK s24_0 e24_0)
theorem B24_0_eq (base : Nat) (v0 : Option Addr) (v0n : Nat) (v1 : Option Addr) (v1n : Nat) (v5 : Int) (h : AH) : B24_0 base [some (.slice v0 v0n v0n), some (.slice v1 v1n v1n), some (.int .i64 v5)] h =
((if (decide (v5 < ((v0n : Nat) : Int))) = true then
(if 0 ≤ v5 ∧ v5 < ((v0n : Nat) : Int) then
((v0 : Option Addr)).bind fun a1 =>
((cell h a1.block (a1.off + Int.toNat v5 * 1)).bind (getI .u8)).bind fun n2 =>
(if 0 ≤ v5 ∧ v5 < ((v1n : Nat) : Int) then
((v1 : Option Addr)).bind fun a3 =>
((cell h a3.block (a3.off + Int.toNat v5 * 1)).bind (getI .u8)).bind fun n4 =>
(if (n2 != n4) = true then
some (1, [some (.bool false)], h)
else
some (0, [some (.slice v0 v0n v0n), some (.slice v1 v1n v1n), some (.int .i64 (IntKind.wrap .i64 (v5 + (1 : Int))))], h))
else none)
else none)
else
some (2, [], h)) : Option (Nat × Slots × AH)) := by kernel_rfl
theorem f24_eq (base : Nat) (v0 : Option Addr) (v0n : Nat) (v1 : Option Addr) (v1n : Nat) (h : AH) : exFun (Et base) (run (Et base)) loopL a24 Try.f24 [(.slice v0 v0n v0n), (.slice v1 v1n v1n)] h =
((if (((v0n : Nat) : Int) != ((v1n : Nat) : Int)) = true then
some ((.bool false), h)
else
(loopL (B24_0 base) [some (.slice v0 v0n v0n), some (.slice v1 v1n v1n), some (.int .i64 (0 : Int))] h).bind fun q1 =>
(if q1.1 = 1 then
((sget q1.2.1 0).bind getB).bind fun b2 =>
some ((.bool b2), q1.2.2)
else
(if q1.1 = 2 then
some ((.bool true), q1.2.2)
else
none))) : Option (Value × AH)) := by kernel_rfl
theorem r24 {base : Nat} {v0 : Option Addr} {v0n : Nat} {v1 : Option Addr} {v1n : Nat} {h : AH} {r : Value × AH} (hx :
((if (((v0n : Nat) : Int) != ((v1n : Nat) : Int)) = true then
some ((.bool false), h)
else
(loopL (B24_0 base) [some (.slice v0 v0n v0n), some (.slice v1 v1n v1n), some (.int .i64 (0 : Int))] h).bind fun q1 =>
(if q1.1 = 1 then
((sget q1.2.1 0).bind getB).bind fun b2 =>
some ((.bool b2), q1.2.2)
else
(if q1.1 = 2 then
some ((.bool true), q1.2.2)
else
none)))) = some r) : run (Et base) 24 [(.slice v0 v0n v0n), (.slice v1 v1n v1n)] h = some r := run_i Try.func24 (by kernel_rfl) ((f24_eq base v0 v0n v1 v1n h).trans hx)
/-! laws.markByteS (gates 0) -/
noncomputable def B27_0 (base : Nat) : Body := fun l h => lay s27_0 l fun s => exCode (Et base) (run (Et base)) loopL a27_0 (subC [1, 0, 1, 0, 0] (bodyC Try.f27)) s h (keepK s27_0 e27_0)
theorem B27_0_eq (base : Nat) (v0 : Option Addr) (v0n : Nat) (v1 : Int) (v5 : Int) (h : AH) : B27_0 base [some (.slice v0 v0n v0n), some (.int .i64 v1), some (.int .i64 v5)] h =
((if (decide (v5 < ((v0n : Nat) : Int))) = true then
(if 0 ≤ v5 ∧ v5 < ((v0n : Nat) : Int) then
((v0 : Option Addr)).bind fun a1 =>
(wr base h a1.block (a1.off + Int.toNat v5 * 1) [(.int .u8 (IntKind.wrap .u8 v1))]).bind fun h2 =>
some (0, [some (.slice v0 v0n v0n), some (.int .i64 (IntKind.wrap .i64 (v1 + (1 : Int)))), some (.int .i64 (IntKind.wrap .i64 (v5 + (1 : Int))))], h2)
else none)
else
some (2, [some (.int .i64 v1)], h)) : Option (Nat × Slots × AH)) := by kernel_rfl
theorem f27_eq (base : Nat) (v0 : Option Addr) (v0n : Nat) (v1 : Int) (h : AH) : exFun (Et base) (run (Et base)) loopL a27 Try.f27 [(.slice v0 v0n v0n), (.int .i64 v1)] h =
((loopL (B27_0 base) [some (.slice v0 v0n v0n), some (.int .i64 v1), some (.int .i64 (0 : Int))] h).bind fun q1 =>
(if q1.1 = 2 then
((sget q1.2.1 0).bind (getI .i64)).bind fun n2 =>
some ((.int .i64 n2), q1.2.2)
else
none) : Option (Value × AH)) := by kernel_rfl
theorem r27 {base : Nat} {v0 : Option Addr} {v0n : Nat} {v1 : Int} {h : AH} {r : Value × AH} (hx :
((loopL (B27_0 base) [some (.slice v0 v0n v0n), some (.int .i64 v1), some (.int .i64 (0 : Int))] h).bind fun q1 =>
(if q1.1 = 2 then
((sget q1.2.1 0).bind (getI .i64)).bind fun n2 =>
some ((.int .i64 n2), q1.2.2)
else
none)) = some r) : run (Et base) 27 [(.slice v0 v0n v0n), (.int .i64 v1)] h = some r := run_i Try.func27 (by kernel_rfl) ((f27_eq base v0 v0n v1 h).trans hx)
/-! laws.heldByteS (gates 0) -/
noncomputable def B28_0 (base : Nat) : Body := fun l h => lay s28_0 l fun s => exCode (Et base) (run (Et base)) loopL a28_0 (subC [1, 0, 1, 0, 0] (bodyC Try.f28)) s h (keepK s28_0 e28_0)
theorem B28_0_eq (base : Nat) (v0 : Option Addr) (v0n : Nat) (v1 : Int) (v5 : Int) (h : AH) : B28_0 base [some (.slice v0 v0n v0n), some (.int .i64 v1), some (.int .i64 v5)] h =
((if (decide (v5 < ((v0n : Nat) : Int))) = true then
(if 0 ≤ v5 ∧ v5 < ((v0n : Nat) : Int) then
((v0 : Option Addr)).bind fun a1 =>
((cell h a1.block (a1.off + Int.toNat v5 * 1)).bind (getI .u8)).bind fun n2 =>
(if (n2 != (IntKind.wrap .u8 v1)) = true then
some (1, [some (.int .i64 (-1 : Int))], h)
else
some (0, [some (.slice v0 v0n v0n), some (.int .i64 (IntKind.wrap .i64 (v1 + (1 : Int)))), some (.int .i64 (IntKind.wrap .i64 (v5 + (1 : Int))))], h))
else none)
else
some (2, [some (.int .i64 v1)], h)) : Option (Nat × Slots × AH)) := by kernel_rfl
theorem f28_eq (base : Nat) (v0 : Option Addr) (v0n : Nat) (v1 : Int) (h : AH) : exFun (Et base) (run (Et base)) loopL a28 Try.f28 [(.slice v0 v0n v0n), (.int .i64 v1)] h =
((loopL (B28_0 base) [some (.slice v0 v0n v0n), some (.int .i64 v1), some (.int .i64 (0 : Int))] h).bind fun q1 =>
(if q1.1 = 1 then
((sget q1.2.1 0).bind (getI .i64)).bind fun n2 =>
some ((.int .i64 n2), q1.2.2)
else
(if q1.1 = 2 then
((sget q1.2.1 0).bind (getI .i64)).bind fun n3 =>
some ((.int .i64 n3), q1.2.2)
else
none)) : Option (Value × AH)) := by kernel_rfl
theorem r28 {base : Nat} {v0 : Option Addr} {v0n : Nat} {v1 : Int} {h : AH} {r : Value × AH} (hx :
((loopL (B28_0 base) [some (.slice v0 v0n v0n), some (.int .i64 v1), some (.int .i64 (0 : Int))] h).bind fun q1 =>
(if q1.1 = 1 then
((sget q1.2.1 0).bind (getI .i64)).bind fun n2 =>
some ((.int .i64 n2), q1.2.2)
else
(if q1.1 = 2 then
((sget q1.2.1 0).bind (getI .i64)).bind fun n3 =>
some ((.int .i64 n3), q1.2.2)
else
none))) = some r) : run (Et base) 28 [(.slice v0 v0n v0n), (.int .i64 v1)] h = some r := run_i Try.func28 (by kernel_rfl) ((f28_eq base v0 v0n v1 h).trans hx)
/-! laws.toByteS (gates 0) -/
noncomputable def B30_0 (base : Nat) : Body := fun l h => lay s30_0 l fun s => exCode (Et base) (run (Et base)) loopL a30_0 (subC [1, 1, 0, 1, 0, 0] (bodyC Try.f30)) s h (keepK s30_0 e30_0)
theorem B30_0_eq (base : Nat) (v0 : Option Addr) (v0n : Nat) (v3 : Option Addr) (v3n : Nat) (v4 : Int) (h : AH) : B30_0 base [some (.slice v0 v0n v0n), some (.slice v3 v3n v3n), some (.int .i64 v4)] h =
((if (decide (v4 < ((v0n : Nat) : Int))) = true then
(if 0 ≤ v4 ∧ v4 < ((v0n : Nat) : Int) then
((v0 : Option Addr)).bind fun a1 =>
((cell h a1.block (a1.off + Int.toNat v4 * 1)).bind (getI .u8)).bind fun n2 =>
(if 0 ≤ v4 ∧ v4 < ((v3n : Nat) : Int) then
((v3 : Option Addr)).bind fun a3 =>
(wr base h a3.block (a3.off + Int.toNat v4 * 1) [(.int .u8 n2)]).bind fun h4 =>
some (0, [some (.slice v0 v0n v0n), some (.slice v3 v3n v3n), some (.int .i64 (IntKind.wrap .i64 (v4 + (1 : Int))))], h4)
else none)
else none)
else
some (2, [some (.slice v3 v3n v3n)], h)) : Option (Nat × Slots × AH)) := by kernel_rfl
theorem f30_eq (base : Nat) (v0 : Option Addr) (v0n : Nat) (h : AH) : exFun (Et base) (run (Et base)) loopL a30 Try.f30 [(.slice v0 v0n v0n)] h =
((if ((v0n : Nat) : Int) = ((v0n : Nat) : Int) ∧ 0 ≤ ((v0n : Nat) : Int) ∧ ((v0n : Nat) : Int) * 1 ≤ 140737488355328 ∧ ((v0n : Nat) : Int) ≤ 140737488355328 then
(some (h ++ [some ⟨rep [(.int .u8 0)] (Int.toNat ((v0n : Nat) : Int)), 5⟩])).bind fun h1 =>
(loopL (B30_0 base) [some (.slice v0 v0n v0n), some (.slice (some ⟨(List.length h), 0, none⟩) (Int.toNat ((v0n : Nat) : Int)) (Int.toNat ((v0n : Nat) : Int))), some (.int .i64 (0 : Int))] h1).bind fun q2 =>
(if q2.1 = 2 then
((sget q2.2.1 0).bind getS).bind fun l3 =>
some ((.slice l3.1 l3.2 l3.2), q2.2.2)
else
none)
else none) : Option (Value × AH)) := by kernel_rfl
theorem r30 {base : Nat} {v0 : Option Addr} {v0n : Nat} {h : AH} {r : Value × AH} (hx :
((if ((v0n : Nat) : Int) = ((v0n : Nat) : Int) ∧ 0 ≤ ((v0n : Nat) : Int) ∧ ((v0n : Nat) : Int) * 1 ≤ 140737488355328 ∧ ((v0n : Nat) : Int) ≤ 140737488355328 then
(some (h ++ [some ⟨rep [(.int .u8 0)] (Int.toNat ((v0n : Nat) : Int)), 5⟩])).bind fun h1 =>
(loopL (B30_0 base) [some (.slice v0 v0n v0n), some (.slice (some ⟨(List.length h), 0, none⟩) (Int.toNat ((v0n : Nat) : Int)) (Int.toNat ((v0n : Nat) : Int))), some (.int .i64 (0 : Int))] h1).bind fun q2 =>
(if q2.1 = 2 then
((sget q2.2.1 0).bind getS).bind fun l3 =>
some ((.slice l3.1 l3.2 l3.2), q2.2.2)
else
none)
else none)) = some r) : run (Et base) 30 [(.slice v0 v0n v0n)] h = some r := run_i Try.func30 (by kernel_rfl) ((f30_eq base v0 v0n h).trans hx)
/-! spec.PutNum (gates 0) -/
noncomputable def B78_0 (base : Nat) : Body := fun l h => lay s78_0 l fun s => exCode (Et base) (run (Et base)) loopL a78_0 (subC [1, 1, 1, 1, 1, 1, 0, 0, 0] (bodyC Try.f78)) s h (keepK s78_0 e78_0)
theorem B78_0_eq (base : Nat) (v5 : Option Addr) (v5n : Nat) (v6 : Int) (h : AH) : B78_0 base [some (.slice v5 v5n v5n), some (.int .i64 v6)] h =
((if (decide (v6 > (127 : Int))) = true then
(some (h ++ [some ⟨[(.int .u8 (IntKind.wrap .u8 (Go.bits .or .i64 (Go.bits .and .i64 v6 (127 : Int)) (128 : Int))))], 5⟩])).bind fun h1 =>
(app base h1 5 1 1 v5 v5n (rawAt h1 (some ⟨(List.length h), 0, none⟩) (1 * 1)) 1).bind fun p2 =>
((some p2.1).bind getS).bind fun l3 =>
some (0, [some (.slice l3.1 l3.2 l3.2), some (.int .i64 (Int.fdiv v6 (2 ^ min ((7 : Int)).toNat 64)))], p2.2)
else
some (2, [some (.slice v5 v5n v5n), some (.int .i64 v6)], h)) : Option (Nat × Slots × AH)) := by kernel_rfl
theorem f78_eq (base : Nat) (v0 : Option Addr) (v0n : Nat) (v1 : Int) (h : AH) : exFun (Et base) (run (Et base)) loopL a78 Try.f78 [(.slice v0 v0n v0n), (.int .i64 v1)] h =
((some (h ++ [some ⟨[], 5⟩])).bind fun h1 =>
(app base h1 5 1 1 (some ⟨(List.length h), 0, none⟩) 0 (rawAt h1 v0 (v0n * 1)) v0n).bind fun p2 =>
((some p2.1).bind getS).bind fun l3 =>
((if (decide (v1 > (1000000 : Int))) = true then
some (.inl ([some (.int .i64 (1000000 : Int)), some (.slice l3.1 l3.2 l3.2)], p2.2))
else
some (.inl ([some (.int .i64 v1), some (.slice l3.1 l3.2 l3.2)], p2.2)))).bind fun j4 => joinK j4 fun j4 =>
((sget j4.1 0).bind (getI .i64)).bind fun n5 =>
((sget (j4.1.tail) 0).bind getS).bind fun l6 =>
((if (decide (n5 < (-1000000 : Int))) = true then
some (.inl ([some (.int .i64 (-1000000 : Int)), some (.slice l6.1 l6.2 l6.2)], j4.2))
else
some (.inl ([some (.int .i64 n5), some (.slice l6.1 l6.2 l6.2)], j4.2)))).bind fun j7 => joinK j7 fun j7 =>
((sget j7.1 0).bind (getI .i64)).bind fun n8 =>
((sget (j7.1.tail) 0).bind getS).bind fun l9 =>
((if (decide (n8 < (0 : Int))) = true then
some (.inl ([some (.slice l9.1 l9.2 l9.2), some (.int .i64 (IntKind.wrap .i64 ((IntKind.wrap .i64 ((-2 : Int) * n8)) - (1 : Int))))], j7.2))
else
some (.inl ([some (.slice l9.1 l9.2 l9.2), some (.int .i64 (IntKind.wrap .i64 ((2 : Int) * n8)))], j7.2)))).bind fun j10 => joinK j10 fun j10 =>
((sget j10.1 0).bind getS).bind fun l11 =>
((sget (j10.1.tail) 0).bind (getI .i64)).bind fun n12 =>
(loopL (B78_0 base) [some (.slice l11.1 l11.2 l11.2), some (.int .i64 n12)] j10.2).bind fun q13 =>
(if q13.1 = 2 then
((sget q13.2.1 0).bind getS).bind fun l14 =>
((sget (q13.2.1.tail) 0).bind (getI .i64)).bind fun n15 =>
(some (q13.2.2 ++ [some ⟨[(.int .u8 (IntKind.wrap .u8 n15))], 5⟩])).bind fun h16 =>
(app base h16 5 1 1 l14.1 l14.2 (rawAt h16 (some ⟨(List.length q13.2.2), 0, none⟩) (1 * 1)) 1).bind fun p17 =>
((some p17.1).bind getS).bind fun l18 =>
some ((.slice l18.1 l18.2 l18.2), p17.2)
else
none) : Option (Value × AH)) := by kernel_rfl
theorem r78 {base : Nat} {v0 : Option Addr} {v0n : Nat} {v1 : Int} {h : AH} {r : Value × AH} (hx :
((some (h ++ [some ⟨[], 5⟩])).bind fun h1 =>
(app base h1 5 1 1 (some ⟨(List.length h), 0, none⟩) 0 (rawAt h1 v0 (v0n * 1)) v0n).bind fun p2 =>
((some p2.1).bind getS).bind fun l3 =>
((if (decide (v1 > (1000000 : Int))) = true then
some (.inl ([some (.int .i64 (1000000 : Int)), some (.slice l3.1 l3.2 l3.2)], p2.2))
else
some (.inl ([some (.int .i64 v1), some (.slice l3.1 l3.2 l3.2)], p2.2)))).bind fun j4 => joinK j4 fun j4 =>
((sget j4.1 0).bind (getI .i64)).bind fun n5 =>
((sget (j4.1.tail) 0).bind getS).bind fun l6 =>
((if (decide (n5 < (-1000000 : Int))) = true then
some (.inl ([some (.int .i64 (-1000000 : Int)), some (.slice l6.1 l6.2 l6.2)], j4.2))
else
some (.inl ([some (.int .i64 n5), some (.slice l6.1 l6.2 l6.2)], j4.2)))).bind fun j7 => joinK j7 fun j7 =>
((sget j7.1 0).bind (getI .i64)).bind fun n8 =>
((sget (j7.1.tail) 0).bind getS).bind fun l9 =>
((if (decide (n8 < (0 : Int))) = true then
some (.inl ([some (.slice l9.1 l9.2 l9.2), some (.int .i64 (IntKind.wrap .i64 ((IntKind.wrap .i64 ((-2 : Int) * n8)) - (1 : Int))))], j7.2))
else
some (.inl ([some (.slice l9.1 l9.2 l9.2), some (.int .i64 (IntKind.wrap .i64 ((2 : Int) * n8)))], j7.2)))).bind fun j10 => joinK j10 fun j10 =>
((sget j10.1 0).bind getS).bind fun l11 =>
((sget (j10.1.tail) 0).bind (getI .i64)).bind fun n12 =>
(loopL (B78_0 base) [some (.slice l11.1 l11.2 l11.2), some (.int .i64 n12)] j10.2).bind fun q13 =>
(if q13.1 = 2 then
((sget q13.2.1 0).bind getS).bind fun l14 =>
((sget (q13.2.1.tail) 0).bind (getI .i64)).bind fun n15 =>
(some (q13.2.2 ++ [some ⟨[(.int .u8 (IntKind.wrap .u8 n15))], 5⟩])).bind fun h16 =>
(app base h16 5 1 1 l14.1 l14.2 (rawAt h16 (some ⟨(List.length q13.2.2), 0, none⟩) (1 * 1)) 1).bind fun p17 =>
((some p17.1).bind getS).bind fun l18 =>
some ((.slice l18.1 l18.2 l18.2), p17.2)
else
none)) = some r) : run (Et base) 78 [(.slice v0 v0n v0n), (.int .i64 v1)] h = some r := run_i Try.func78 (by kernel_rfl) ((f78_eq base v0 v0n v1 h).trans hx)
/-! impl.addNum (gates 0) -/
noncomputable def B81_0 (base : Nat) : Body := fun l h => lay s81_0 l fun s => exCode (Et base) (run (Et base)) loopL a81_0 (subC [1, 1, 1, 1, 0, 0, 0] (bodyC Try.f81)) s h (keepK s81_0 e81_0)
theorem B81_0_eq (base : Nat) (v0 : Option Addr) (v0n : Nat) (v5 : Int) (h : AH) : B81_0 base [some (.slice v0 v0n v0n), some (.int .i64 v5)] h =
((if (decide (v5 > (127 : Int))) = true then
(some (h ++ [some ⟨[(.int .u8 (IntKind.wrap .u8 (IntKind.wrap .i64 ((Int.tmod v5 (128 : Int)) + (128 : Int)))))], 5⟩])).bind fun h1 =>
(app base h1 5 1 1 v0 v0n (rawAt h1 (some ⟨(List.length h), 0, none⟩) (1 * 1)) 1).bind fun p2 =>
((some p2.1).bind getS).bind fun l3 =>
some (0, [some (.slice l3.1 l3.2 l3.2), some (.int .i64 (IntKind.wrap .i64 (Int.tdiv v5 (128 : Int))))], p2.2)
else
some (2, [some (.slice v0 v0n v0n), some (.int .i64 v5)], h)) : Option (Nat × Slots × AH)) := by kernel_rfl
theorem f81_eq (base : Nat) (v0 : Option Addr) (v0n : Nat) (v1 : Int) (h : AH) : exFun (Et base) (run (Et base)) loopL a81 Try.f81 [(.slice v0 v0n v0n), (.int .i64 v1)] h =
(((if (decide ((if (if (1000000 : Int) < v1 then (1000000 : Int) else v1) > (-1000000 : Int) then (if (1000000 : Int) < v1 then (1000000 : Int) else v1) else (-1000000 : Int)) < (0 : Int))) = true then
some (.inl ([some (.slice v0 v0n v0n), some (.int .i64 (IntKind.wrap .i64 ((IntKind.wrap .i64 ((-2 : Int) * (if (if (1000000 : Int) < v1 then (1000000 : Int) else v1) > (-1000000 : Int) then (if (1000000 : Int) < v1 then (1000000 : Int) else v1) else (-1000000 : Int)))) - (1 : Int))))], h))
else
some (.inl ([some (.slice v0 v0n v0n), some (.int .i64 (IntKind.wrap .i64 ((2 : Int) * (if (if (1000000 : Int) < v1 then (1000000 : Int) else v1) > (-1000000 : Int) then (if (1000000 : Int) < v1 then (1000000 : Int) else v1) else (-1000000 : Int)))))], h)))).bind fun j1 => joinK j1 fun j1 =>
((sget j1.1 0).bind getS).bind fun l2 =>
((sget (j1.1.tail) 0).bind (getI .i64)).bind fun n3 =>
(loopL (B81_0 base) [some (.slice l2.1 l2.2 l2.2), some (.int .i64 n3)] j1.2).bind fun q4 =>
(if q4.1 = 2 then
((sget q4.2.1 0).bind getS).bind fun l5 =>
((sget (q4.2.1.tail) 0).bind (getI .i64)).bind fun n6 =>
(some (q4.2.2 ++ [some ⟨[(.int .u8 (IntKind.wrap .u8 n6))], 5⟩])).bind fun h7 =>
(app base h7 5 1 1 l5.1 l5.2 (rawAt h7 (some ⟨(List.length q4.2.2), 0, none⟩) (1 * 1)) 1).bind fun p8 =>
((some p8.1).bind getS).bind fun l9 =>
some ((.slice l9.1 l9.2 l9.2), p8.2)
else
none) : Option (Value × AH)) := by kernel_rfl
theorem r81 {base : Nat} {v0 : Option Addr} {v0n : Nat} {v1 : Int} {h : AH} {r : Value × AH} (hx :
(((if (decide ((if (if (1000000 : Int) < v1 then (1000000 : Int) else v1) > (-1000000 : Int) then (if (1000000 : Int) < v1 then (1000000 : Int) else v1) else (-1000000 : Int)) < (0 : Int))) = true then
some (.inl ([some (.slice v0 v0n v0n), some (.int .i64 (IntKind.wrap .i64 ((IntKind.wrap .i64 ((-2 : Int) * (if (if (1000000 : Int) < v1 then (1000000 : Int) else v1) > (-1000000 : Int) then (if (1000000 : Int) < v1 then (1000000 : Int) else v1) else (-1000000 : Int)))) - (1 : Int))))], h))
else
some (.inl ([some (.slice v0 v0n v0n), some (.int .i64 (IntKind.wrap .i64 ((2 : Int) * (if (if (1000000 : Int) < v1 then (1000000 : Int) else v1) > (-1000000 : Int) then (if (1000000 : Int) < v1 then (1000000 : Int) else v1) else (-1000000 : Int)))))], h)))).bind fun j1 => joinK j1 fun j1 =>
((sget j1.1 0).bind getS).bind fun l2 =>
((sget (j1.1.tail) 0).bind (getI .i64)).bind fun n3 =>
(loopL (B81_0 base) [some (.slice l2.1 l2.2 l2.2), some (.int .i64 n3)] j1.2).bind fun q4 =>
(if q4.1 = 2 then
((sget q4.2.1 0).bind getS).bind fun l5 =>
((sget (q4.2.1.tail) 0).bind (getI .i64)).bind fun n6 =>
(some (q4.2.2 ++ [some ⟨[(.int .u8 (IntKind.wrap .u8 n6))], 5⟩])).bind fun h7 =>
(app base h7 5 1 1 l5.1 l5.2 (rawAt h7 (some ⟨(List.length q4.2.2), 0, none⟩) (1 * 1)) 1).bind fun p8 =>
((some p8.1).bind getS).bind fun l9 =>
some ((.slice l9.1 l9.2 l9.2), p8.2)
else
none)) = some r) : run (Et base) 81 [(.slice v0 v0n v0n), (.int .i64 v1)] h = some r := run_i Try.func81 (by kernel_rfl) ((f81_eq base v0 v0n v1 h).trans hx)
end Go.Proofs.Ytnmjhhipbfngkaa.Am
