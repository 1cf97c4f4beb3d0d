/- What each of these functions comes to on the abstract machine, one equation a function and one a loop.
Conditions: none. -/
import Derived.Test.YtomcfongmahjaaaTb
set_option linter.unusedVariables false
namespace Go.Proofs.Ytomcfongmahjaaa.Am
open Go Go.RowKit
/-! laws.szTimer (gates 0) -/
theorem f12_eq (base : Nat) (v0_0 : Int) (v0_1 : Int) (v0_2 : Int) (v0_3 : Int) (v0_4 : ByteArray) (v0_5 : Option Addr) (v0_5n : Nat) (v1 : Int) (h : AH) : exFun (Et base) (run (Et base)) loopL a12 Try.f12 [(.agg #[(.int .i64 v0_0), (.int .i64 v0_1), (.int .i64 v0_2), (.int .i64 v0_3), (.string v0_4), (.slice v0_5 v0_5n v0_5n)]), (.int .i64 v1)] h =
((some (h ++ [some ⟨[(.int .i64 v0_0), (.int .i64 v0_1), (.int .i64 v0_2), (.int .i64 v0_3), (.string v0_4), (.slice v0_5 v0_5n v0_5n)], 41⟩])).bind fun h1 =>
((cell h1 (List.length h) 2).bind (getI .i64)).bind fun n2 =>
((cell h1 (List.length h) 3).bind (getI .i64)).bind fun n3 =>
((cell h1 (List.length h) 4).bind getStr).bind fun s4 =>
((cell h1 (List.length h) 5).bind getS).bind fun l5 =>
(run (Et base) 30 [(.agg #[(.int .i64 n2), (.int .i64 n3), (.string s4), (.slice l5.1 l5.2 l5.2)]), (.int .i64 v1)] h1).bind fun r6 =>
((some r6.1).bind (getI .i64)).bind fun n7 =>
(if (decide (n7 < (0 : Int))) = true then
some ((.int .i64 (-1 : Int)), r6.2)
else
some ((.int .i64 n7), r6.2)) : Option (Value × AH)) := by kernel_rfl
theorem r12 {base : Nat} {v0_0 : Int} {v0_1 : Int} {v0_2 : Int} {v0_3 : Int} {v0_4 : ByteArray} {v0_5 : Option Addr} {v0_5n : Nat} {v1 : Int} {h : AH} {r : Value × AH} (hx :
((some (h ++ [some ⟨[(.int .i64 v0_0), (.int .i64 v0_1), (.int .i64 v0_2), (.int .i64 v0_3), (.string v0_4), (.slice v0_5 v0_5n v0_5n)], 41⟩])).bind fun h1 =>
((cell h1 (List.length h) 2).bind (getI .i64)).bind fun n2 =>
((cell h1 (List.length h) 3).bind (getI .i64)).bind fun n3 =>
((cell h1 (List.length h) 4).bind getStr).bind fun s4 =>
((cell h1 (List.length h) 5).bind getS).bind fun l5 =>
(run (Et base) 30 [(.agg #[(.int .i64 n2), (.int .i64 n3), (.string s4), (.slice l5.1 l5.2 l5.2)]), (.int .i64 v1)] h1).bind fun r6 =>
((some r6.1).bind (getI .i64)).bind fun n7 =>
(if (decide (n7 < (0 : Int))) = true then
some ((.int .i64 (-1 : Int)), r6.2)
else
some ((.int .i64 n7), r6.2))) = some r) : run (Et base) 12 [(.agg #[(.int .i64 v0_0), (.int .i64 v0_1), (.int .i64 v0_2), (.int .i64 v0_3), (.string v0_4), (.slice v0_5 v0_5n v0_5n)]), (.int .i64 v1)] h = some r := run_i Try.func12 (by kernel_rfl) ((f12_eq base v0_0 v0_1 v0_2 v0_3 v0_4 v0_5 v0_5n v1 h).trans hx)
/-! laws.toTimerS (gates 0) -/
noncomputable def B13_0 (base : Nat) : Body := fun l h => lay s13_0 l fun s => exCode (Et base) (run (Et base)) loopL a13_0 (subC [1, 1, 0, 1, 0, 0] (bodyC Try.f13)) s h (keepK s13_0 e13_0)
theorem B13_0_eq (base : Nat) (v0 : Option Addr) (v0n : Nat) (v3 : Option Addr) (v3n : Nat) (v4 : Int) (h : AH) : B13_0 base [some (.slice v0 v0n v0n), some (.slice v3 v3n v3n), some (.int .i64 v4)] h =
((if (decide (v4 < ((v0n : Nat) : Int))) = true then
(if 0 ≤ v4 ∧ v4 < ((v0n : Nat) : Int) then
((v0 : Option Addr)).bind fun a1 =>
((cell h a1.block (a1.off + Int.toNat v4 * 6)).bind (getI .i64)).bind fun n2 =>
((cell h a1.block ((a1.off + Int.toNat v4 * 6) + 1)).bind (getI .i64)).bind fun n3 =>
((cell h a1.block (((a1.off + Int.toNat v4 * 6) + 1) + 1)).bind (getI .i64)).bind fun n4 =>
((cell h a1.block ((((a1.off + Int.toNat v4 * 6) + 1) + 1) + 1)).bind (getI .i64)).bind fun n5 =>
((cell h a1.block (((((a1.off + Int.toNat v4 * 6) + 1) + 1) + 1) + 1)).bind getStr).bind fun s6 =>
((cell h a1.block ((((((a1.off + Int.toNat v4 * 6) + 1) + 1) + 1) + 1) + 1)).bind getS).bind fun l7 =>
(run (Et base) 14 [(.agg #[(.int .i64 n2), (.int .i64 n3), (.int .i64 n4), (.int .i64 n5), (.string s6), (.slice l7.1 l7.2 l7.2)])] h).bind fun r8 =>
((some r8.1).bind (getAgg 6)).bind fun l9 =>
((l9[0]?).bind (getI .i64)).bind fun n10 =>
((l9[1]?).bind (getI .i64)).bind fun n11 =>
((l9[2]?).bind (getI .i64)).bind fun n12 =>
((l9[3]?).bind (getI .i64)).bind fun n13 =>
((l9[4]?).bind getStr).bind fun s14 =>
((l9[5]?).bind getS).bind fun l15 =>
(if 0 ≤ v4 ∧ v4 < ((v3n : Nat) : Int) then
((v3 : Option Addr)).bind fun a16 =>
(wr base r8.2 a16.block (a16.off + Int.toNat v4 * 6) [(.int .i64 n10), (.int .i64 n11), (.int .i64 n12), (.int .i64 n13), (.string s14), (.slice l15.1 l15.2 l15.2)]).bind fun h17 =>
some (0, [some (.slice v0 v0n v0n), some (.slice v3 v3n v3n), some (.int .i64 (IntKind.wrap .i64 (v4 + (1 : Int))))], h17)
else none)
else none)
else
some (2, [some (.slice v3 v3n v3n)], h)) : Option (Nat × Slots × AH)) := by kernel_rfl
theorem f13_eq (base : Nat) (v0 : Option Addr) (v0n : Nat) (h : AH) : exFun (Et base) (run (Et base)) loopL a13 Try.f13 [(.slice v0 v0n v0n)] h =
((if ((v0n : Nat) : Int) = ((v0n : Nat) : Int) ∧ 0 ≤ ((v0n : Nat) : Int) ∧ ((v0n : Nat) : Int) * 72 ≤ 140737488355328 ∧ ((v0n : Nat) : Int) ≤ 140737488355328 then
(some (h ++ [some ⟨rep [(.int .i64 0), (.int .i64 0), (.int .i64 0), (.int .i64 0), (.string ⟨#[]⟩), (.slice none 0 0)] (Int.toNat ((v0n : Nat) : Int)), 29⟩])).bind fun h1 =>
(loopL (B13_0 base) [some (.slice v0 v0n v0n), some (.slice (some ⟨(List.length h), 0, none⟩) (Int.toNat ((v0n : Nat) : Int)) (Int.toNat ((v0n : Nat) : Int))), some (.int .i64 (0 : Int))] h1).bind fun q2 =>
(if q2.1 = 2 then
((sget q2.2.1 0).bind getS).bind fun l3 =>
some ((.slice l3.1 l3.2 l3.2), q2.2.2)
else
none)
else none) : Option (Value × AH)) := by kernel_rfl
theorem r13 {base : Nat} {v0 : Option Addr} {v0n : Nat} {h : AH} {r : Value × AH} (hx :
((if ((v0n : Nat) : Int) = ((v0n : Nat) : Int) ∧ 0 ≤ ((v0n : Nat) : Int) ∧ ((v0n : Nat) : Int) * 72 ≤ 140737488355328 ∧ ((v0n : Nat) : Int) ≤ 140737488355328 then
(some (h ++ [some ⟨rep [(.int .i64 0), (.int .i64 0), (.int .i64 0), (.int .i64 0), (.string ⟨#[]⟩), (.slice none 0 0)] (Int.toNat ((v0n : Nat) : Int)), 29⟩])).bind fun h1 =>
(loopL (B13_0 base) [some (.slice v0 v0n v0n), some (.slice (some ⟨(List.length h), 0, none⟩) (Int.toNat ((v0n : Nat) : Int)) (Int.toNat ((v0n : Nat) : Int))), some (.int .i64 (0 : Int))] h1).bind fun q2 =>
(if q2.1 = 2 then
((sget q2.2.1 0).bind getS).bind fun l3 =>
some ((.slice l3.1 l3.2 l3.2), q2.2.2)
else
none)
else none)) = some r) : run (Et base) 13 [(.slice v0 v0n v0n)] h = some r := run_i Try.func13 (by kernel_rfl) ((f13_eq base v0 v0n h).trans hx)
/-! laws.toTimer (gates 0) -/
theorem f14_eq (base : Nat) (v0_0 : Int) (v0_1 : Int) (v0_2 : Int) (v0_3 : Int) (v0_4 : ByteArray) (v0_5 : Option Addr) (v0_5n : Nat) (h : AH) : exFun (Et base) (run (Et base)) loopL a14 Try.f14 [(.agg #[(.int .i64 v0_0), (.int .i64 v0_1), (.int .i64 v0_2), (.int .i64 v0_3), (.string v0_4), (.slice v0_5 v0_5n v0_5n)])] h =
((some (h ++ [some ⟨[(.int .i64 v0_0), (.int .i64 v0_1), (.int .i64 v0_2), (.int .i64 v0_3), (.string v0_4), (.slice v0_5 v0_5n v0_5n)], 41⟩])).bind fun h1 =>
(some (h1 ++ [some ⟨[(.int .i64 0), (.int .i64 0), (.int .i64 0), (.int .i64 0), (.string ⟨#[]⟩), (.slice none 0 0)], 29⟩])).bind fun h2 =>
(some (h2 ++ [some ⟨[(.int .i64 0), (.int .i64 0), (.int .i64 0), (.int .i64 0), (.string ⟨#[]⟩), (.slice none 0 0)], 29⟩])).bind fun h3 =>
((cell h3 (List.length h) 0).bind (getI .i64)).bind fun n4 =>
(wr base h3 (List.length h2) 0 [(.int .i64 n4)]).bind fun h5 =>
((cell h5 (List.length h) 1).bind (getI .i64)).bind fun n6 =>
(wr base h5 (List.length h2) 1 [(.int .i64 n6)]).bind fun h7 =>
((cell h7 (List.length h) 2).bind (getI .i64)).bind fun n8 =>
((cell h7 (List.length h) 3).bind (getI .i64)).bind fun n9 =>
((cell h7 (List.length h) 4).bind getStr).bind fun s10 =>
((cell h7 (List.length h) 5).bind getS).bind fun l11 =>
(run (Et base) 31 [(.agg #[(.int .i64 n8), (.int .i64 n9), (.string s10), (.slice l11.1 l11.2 l11.2)])] h7).bind fun r12 =>
((some r12.1).bind (getAgg 4)).bind fun l13 =>
((l13[0]?).bind (getI .i64)).bind fun n14 =>
((l13[1]?).bind (getI .i64)).bind fun n15 =>
((l13[2]?).bind getStr).bind fun s16 =>
((l13[3]?).bind getS).bind fun l17 =>
(wr base r12.2 (List.length h2) 2 [(.int .i64 n14), (.int .i64 n15), (.string s16), (.slice l17.1 l17.2 l17.2)]).bind fun h18 =>
((cell h18 (List.length h2) 0).bind (getI .i64)).bind fun n19 =>
((cell h18 (List.length h2) 1).bind (getI .i64)).bind fun n20 =>
((cell h18 (List.length h2) 2).bind (getI .i64)).bind fun n21 =>
((cell h18 (List.length h2) 3).bind (getI .i64)).bind fun n22 =>
((cell h18 (List.length h2) 4).bind getStr).bind fun s23 =>
((cell h18 (List.length h2) 5).bind getS).bind fun l24 =>
(wr base h18 (List.length h1) 0 [(.int .i64 n19), (.int .i64 n20), (.int .i64 n21), (.int .i64 n22), (.string s23), (.slice l24.1 l24.2 l24.2)]).bind fun h25 =>
((cell h25 (List.length h1) 0).bind (getI .i64)).bind fun n26 =>
((cell h25 (List.length h1) 1).bind (getI .i64)).bind fun n27 =>
((cell h25 (List.length h1) 2).bind (getI .i64)).bind fun n28 =>
((cell h25 (List.length h1) 3).bind (getI .i64)).bind fun n29 =>
((cell h25 (List.length h1) 4).bind getStr).bind fun s30 =>
((cell h25 (List.length h1) 5).bind getS).bind fun l31 =>
some ((.agg #[(.int .i64 n26), (.int .i64 n27), (.int .i64 n28), (.int .i64 n29), (.string s30), (.slice l31.1 l31.2 l31.2)]), h25) : Option (Value × AH)) := by kernel_rfl
theorem r14 {base : Nat} {v0_0 : Int} {v0_1 : Int} {v0_2 : Int} {v0_3 : Int} {v0_4 : ByteArray} {v0_5 : Option Addr} {v0_5n : Nat} {h : AH} {r : Value × AH} (hx :
((some (h ++ [some ⟨[(.int .i64 v0_0), (.int .i64 v0_1), (.int .i64 v0_2), (.int .i64 v0_3), (.string v0_4), (.slice v0_5 v0_5n v0_5n)], 41⟩])).bind fun h1 =>
(some (h1 ++ [some ⟨[(.int .i64 0), (.int .i64 0), (.int .i64 0), (.int .i64 0), (.string ⟨#[]⟩), (.slice none 0 0)], 29⟩])).bind fun h2 =>
(some (h2 ++ [some ⟨[(.int .i64 0), (.int .i64 0), (.int .i64 0), (.int .i64 0), (.string ⟨#[]⟩), (.slice none 0 0)], 29⟩])).bind fun h3 =>
((cell h3 (List.length h) 0).bind (getI .i64)).bind fun n4 =>
(wr base h3 (List.length h2) 0 [(.int .i64 n4)]).bind fun h5 =>
((cell h5 (List.length h) 1).bind (getI .i64)).bind fun n6 =>
(wr base h5 (List.length h2) 1 [(.int .i64 n6)]).bind fun h7 =>
((cell h7 (List.length h) 2).bind (getI .i64)).bind fun n8 =>
((cell h7 (List.length h) 3).bind (getI .i64)).bind fun n9 =>
((cell h7 (List.length h) 4).bind getStr).bind fun s10 =>
((cell h7 (List.length h) 5).bind getS).bind fun l11 =>
(run (Et base) 31 [(.agg #[(.int .i64 n8), (.int .i64 n9), (.string s10), (.slice l11.1 l11.2 l11.2)])] h7).bind fun r12 =>
((some r12.1).bind (getAgg 4)).bind fun l13 =>
((l13[0]?).bind (getI .i64)).bind fun n14 =>
((l13[1]?).bind (getI .i64)).bind fun n15 =>
((l13[2]?).bind getStr).bind fun s16 =>
((l13[3]?).bind getS).bind fun l17 =>
(wr base r12.2 (List.length h2) 2 [(.int .i64 n14), (.int .i64 n15), (.string s16), (.slice l17.1 l17.2 l17.2)]).bind fun h18 =>
((cell h18 (List.length h2) 0).bind (getI .i64)).bind fun n19 =>
((cell h18 (List.length h2) 1).bind (getI .i64)).bind fun n20 =>
((cell h18 (List.length h2) 2).bind (getI .i64)).bind fun n21 =>
((cell h18 (List.length h2) 3).bind (getI .i64)).bind fun n22 =>
((cell h18 (List.length h2) 4).bind getStr).bind fun s23 =>
((cell h18 (List.length h2) 5).bind getS).bind fun l24 =>
(wr base h18 (List.length h1) 0 [(.int .i64 n19), (.int .i64 n20), (.int .i64 n21), (.int .i64 n22), (.string s23), (.slice l24.1 l24.2 l24.2)]).bind fun h25 =>
((cell h25 (List.length h1) 0).bind (getI .i64)).bind fun n26 =>
((cell h25 (List.length h1) 1).bind (getI .i64)).bind fun n27 =>
((cell h25 (List.length h1) 2).bind (getI .i64)).bind fun n28 =>
((cell h25 (List.length h1) 3).bind (getI .i64)).bind fun n29 =>
((cell h25 (List.length h1) 4).bind getStr).bind fun s30 =>
((cell h25 (List.length h1) 5).bind getS).bind fun l31 =>
some ((.agg #[(.int .i64 n26), (.int .i64 n27), (.int .i64 n28), (.int .i64 n29), (.string s30), (.slice l31.1 l31.2 l31.2)]), h25)) = some r) : run (Et base) 14 [(.agg #[(.int .i64 v0_0), (.int .i64 v0_1), (.int .i64 v0_2), (.int .i64 v0_3), (.string v0_4), (.slice v0_5 v0_5n v0_5n)])] h = some r := run_i Try.func14 (by kernel_rfl) ((f14_eq base v0_0 v0_1 v0_2 v0_3 v0_4 v0_5 v0_5n h).trans hx)
/-! laws.eqTimerS (gates 0) -/
noncomputable def B15_0 (base : Nat) : Body := fun l h => lay s15_0 l fun s => exCode (Et base) (run (Et base)) loopL a15_0 (subC [1, 1, 0, 1, 0, 0] (bodyC Try.f15)) s h (keepK s15_0 e15_0)
theorem B15_0_eq (base : Nat) (v0 : Option Addr) (v0n : Nat) (v1 : Option Addr) (v1n : Nat) (v5 : Int) (h : AH) : B15_0 base [some (.slice v0 v0n v0n), some (.slice v1 v1n v1n), some (.int .i64 v5)] h =
((if (decide (v5 < ((v0n : Nat) : Int))) = true then
(if 0 ≤ v5 ∧ v5 < ((v0n : Nat) : Int) then
((v0 : Option Addr)).bind fun a1 =>
((cell h a1.block (a1.off + Int.toNat v5 * 6)).bind (getI .i64)).bind fun n2 =>
((cell h a1.block ((a1.off + Int.toNat v5 * 6) + 1)).bind (getI .i64)).bind fun n3 =>
((cell h a1.block (((a1.off + Int.toNat v5 * 6) + 1) + 1)).bind (getI .i64)).bind fun n4 =>
((cell h a1.block ((((a1.off + Int.toNat v5 * 6) + 1) + 1) + 1)).bind (getI .i64)).bind fun n5 =>
((cell h a1.block (((((a1.off + Int.toNat v5 * 6) + 1) + 1) + 1) + 1)).bind getStr).bind fun s6 =>
((cell h a1.block ((((((a1.off + Int.toNat v5 * 6) + 1) + 1) + 1) + 1) + 1)).bind getS).bind fun l7 =>
(if 0 ≤ v5 ∧ v5 < ((v1n : Nat) : Int) then
((v1 : Option Addr)).bind fun a8 =>
((cell h a8.block (a8.off + Int.toNat v5 * 6)).bind (getI .i64)).bind fun n9 =>
((cell h a8.block ((a8.off + Int.toNat v5 * 6) + 1)).bind (getI .i64)).bind fun n10 =>
((cell h a8.block (((a8.off + Int.toNat v5 * 6) + 1) + 1)).bind (getI .i64)).bind fun n11 =>
((cell h a8.block ((((a8.off + Int.toNat v5 * 6) + 1) + 1) + 1)).bind (getI .i64)).bind fun n12 =>
((cell h a8.block (((((a8.off + Int.toNat v5 * 6) + 1) + 1) + 1) + 1)).bind getStr).bind fun s13 =>
((cell h a8.block ((((((a8.off + Int.toNat v5 * 6) + 1) + 1) + 1) + 1) + 1)).bind getS).bind fun l14 =>
(run (Et base) 16 [(.agg #[(.int .i64 n2), (.int .i64 n3), (.int .i64 n4), (.int .i64 n5), (.string s6), (.slice l7.1 l7.2 l7.2)]), (.agg #[(.int .i64 n9), (.int .i64 n10), (.int .i64 n11), (.int .i64 n12), (.string s13), (.slice l14.1 l14.2 l14.2)])] h).bind fun r15 =>
((some r15.1).bind getB).bind fun b16 =>
(if (!b16) = true then
some (1, [some (.bool false)], r15.2)
else
some (0, [some (.slice v0 v0n v0n), some (.slice v1 v1n v1n), some (.int .i64 (IntKind.wrap .i64 (v5 + (1 : Int))))], r15.2))
else none)
else none)
else
some (2, [], h)) : Option (Nat × Slots × AH)) := by kernel_rfl
theorem f15_eq (base : Nat) (v0 : Option Addr) (v0n : Nat) (v1 : Option Addr) (v1n : Nat) (h : AH) : exFun (Et base) (run (Et base)) loopL a15 Try.f15 [(.slice v0 v0n v0n), (.slice v1 v1n v1n)] h =
((if (((v0n : Nat) : Int) != ((v1n : Nat) : Int)) = true then
some ((.bool false), h)
else
(loopL (B15_0 base) [some (.slice v0 v0n v0n), some (.slice v1 v1n v1n), some (.int .i64 (0 : Int))] h).bind fun q1 =>
(if q1.1 = 1 then
((sget q1.2.1 0).bind getB).bind fun b2 =>
some ((.bool b2), q1.2.2)
else
(if q1.1 = 2 then
some ((.bool true), q1.2.2)
else
none))) : Option (Value × AH)) := by kernel_rfl
theorem r15 {base : Nat} {v0 : Option Addr} {v0n : Nat} {v1 : Option Addr} {v1n : Nat} {h : AH} {r : Value × AH} (hx :
((if (((v0n : Nat) : Int) != ((v1n : Nat) : Int)) = true then
some ((.bool false), h)
else
(loopL (B15_0 base) [some (.slice v0 v0n v0n), some (.slice v1 v1n v1n), some (.int .i64 (0 : Int))] h).bind fun q1 =>
(if q1.1 = 1 then
((sget q1.2.1 0).bind getB).bind fun b2 =>
some ((.bool b2), q1.2.2)
else
(if q1.1 = 2 then
some ((.bool true), q1.2.2)
else
none)))) = some r) : run (Et base) 15 [(.slice v0 v0n v0n), (.slice v1 v1n v1n)] h = some r := run_i Try.func15 (by kernel_rfl) ((f15_eq base v0 v0n v1 v1n h).trans hx)
/-! laws.eqTimer (gates 0) -/
theorem f16_eq (base : Nat) (v0_0 : Int) (v0_1 : Int) (v0_2 : Int) (v0_3 : Int) (v0_4 : ByteArray) (v0_5 : Option Addr) (v0_5n : Nat) (v1_0 : Int) (v1_1 : Int) (v1_2 : Int) (v1_3 : Int) (v1_4 : ByteArray) (v1_5 : Option Addr) (v1_5n : Nat) (h : AH) : exFun (Et base) (run (Et base)) loopL a16 Try.f16 [(.agg #[(.int .i64 v0_0), (.int .i64 v0_1), (.int .i64 v0_2), (.int .i64 v0_3), (.string v0_4), (.slice v0_5 v0_5n v0_5n)]), (.agg #[(.int .i64 v1_0), (.int .i64 v1_1), (.int .i64 v1_2), (.int .i64 v1_3), (.string v1_4), (.slice v1_5 v1_5n v1_5n)])] h =
((some (h ++ [some ⟨[(.int .i64 v0_0), (.int .i64 v0_1), (.int .i64 v0_2), (.int .i64 v0_3), (.string v0_4), (.slice v0_5 v0_5n v0_5n)], 29⟩])).bind fun h1 =>
(some (h1 ++ [some ⟨[(.int .i64 v1_0), (.int .i64 v1_1), (.int .i64 v1_2), (.int .i64 v1_3), (.string v1_4), (.slice v1_5 v1_5n v1_5n)], 29⟩])).bind fun h2 =>
((cell h2 (List.length h) 0).bind (getI .i64)).bind fun n3 =>
((cell h2 (List.length h1) 0).bind (getI .i64)).bind fun n4 =>
(if (n3 != n4) = true then
some ((.bool false), h2)
else
((cell h2 (List.length h) 1).bind (getI .i64)).bind fun n5 =>
((cell h2 (List.length h1) 1).bind (getI .i64)).bind fun n6 =>
(if (n5 != n6) = true then
some ((.bool false), h2)
else
((cell h2 (List.length h) 2).bind (getI .i64)).bind fun n7 =>
((cell h2 (List.length h) 3).bind (getI .i64)).bind fun n8 =>
((cell h2 (List.length h) 4).bind getStr).bind fun s9 =>
((cell h2 (List.length h) 5).bind getS).bind fun l10 =>
((cell h2 (List.length h1) 2).bind (getI .i64)).bind fun n11 =>
((cell h2 (List.length h1) 3).bind (getI .i64)).bind fun n12 =>
((cell h2 (List.length h1) 4).bind getStr).bind fun s13 =>
((cell h2 (List.length h1) 5).bind getS).bind fun l14 =>
(run (Et base) 32 [(.agg #[(.int .i64 n7), (.int .i64 n8), (.string s9), (.slice l10.1 l10.2 l10.2)]), (.agg #[(.int .i64 n11), (.int .i64 n12), (.string s13), (.slice l14.1 l14.2 l14.2)])] h2).bind fun r15 =>
((some r15.1).bind getB).bind fun b16 =>
(if (!b16) = true then
some ((.bool false), r15.2)
else
some ((.bool true), r15.2)))) : Option (Value × AH)) := by kernel_rfl
theorem r16 {base : Nat} {v0_0 : Int} {v0_1 : Int} {v0_2 : Int} {v0_3 : Int} {v0_4 : ByteArray} {v0_5 : Option Addr} {v0_5n : Nat} {v1_0 : Int} {v1_1 : Int} {v1_2 : Int} {v1_3 : Int} {v1_4 : ByteArray} {v1_5 : Option Addr} {v1_5n : Nat} {h : AH} {r : Value × AH} (hx :
((some (h ++ [some ⟨[(.int .i64 v0_0), (.int .i64 v0_1), (.int .i64 v0_2), (.int .i64 v0_3), (.string v0_4), (.slice v0_5 v0_5n v0_5n)], 29⟩])).bind fun h1 =>
(some (h1 ++ [some ⟨[(.int .i64 v1_0), (.int .i64 v1_1), (.int .i64 v1_2), (.int .i64 v1_3), (.string v1_4), (.slice v1_5 v1_5n v1_5n)], 29⟩])).bind fun h2 =>
((cell h2 (List.length h) 0).bind (getI .i64)).bind fun n3 =>
((cell h2 (List.length h1) 0).bind (getI .i64)).bind fun n4 =>
(if (n3 != n4) = true then
some ((.bool false), h2)
else
((cell h2 (List.length h) 1).bind (getI .i64)).bind fun n5 =>
((cell h2 (List.length h1) 1).bind (getI .i64)).bind fun n6 =>
(if (n5 != n6) = true then
some ((.bool false), h2)
else
((cell h2 (List.length h) 2).bind (getI .i64)).bind fun n7 =>
((cell h2 (List.length h) 3).bind (getI .i64)).bind fun n8 =>
((cell h2 (List.length h) 4).bind getStr).bind fun s9 =>
((cell h2 (List.length h) 5).bind getS).bind fun l10 =>
((cell h2 (List.length h1) 2).bind (getI .i64)).bind fun n11 =>
((cell h2 (List.length h1) 3).bind (getI .i64)).bind fun n12 =>
((cell h2 (List.length h1) 4).bind getStr).bind fun s13 =>
((cell h2 (List.length h1) 5).bind getS).bind fun l14 =>
(run (Et base) 32 [(.agg #[(.int .i64 n7), (.int .i64 n8), (.string s9), (.slice l10.1 l10.2 l10.2)]), (.agg #[(.int .i64 n11), (.int .i64 n12), (.string s13), (.slice l14.1 l14.2 l14.2)])] h2).bind fun r15 =>
((some r15.1).bind getB).bind fun b16 =>
(if (!b16) = true then
some ((.bool false), r15.2)
else
some ((.bool true), r15.2))))) = some r) : run (Et base) 16 [(.agg #[(.int .i64 v0_0), (.int .i64 v0_1), (.int .i64 v0_2), (.int .i64 v0_3), (.string v0_4), (.slice v0_5 v0_5n v0_5n)]), (.agg #[(.int .i64 v1_0), (.int .i64 v1_1), (.int .i64 v1_2), (.int .i64 v1_3), (.string v1_4), (.slice v1_5 v1_5n v1_5n)])] h = some r := run_i Try.func16 (by kernel_rfl) ((f16_eq base v0_0 v0_1 v0_2 v0_3 v0_4 v0_5 v0_5n v1_0 v1_1 v1_2 v1_3 v1_4 v1_5 v1_5n h).trans hx)
/-! laws.markTimerS (gates 0) -/
noncomputable def B17_0 (base : Nat) : Body := fun l h => lay s17_0 l fun s => exCode (Et base) (run (Et base)) loopL a17_0 (subC [1, 0, 1, 0, 0] (bodyC Try.f17)) s h (keepK s17_0 e17_0)
theorem B17_0_eq (base : Nat) (v0 : Option Addr) (v0n : Nat) (v1 : Int) (v5 : Int) (h : AH) : B17_0 base [some (.slice v0 v0n v0n), some (.int .i64 v1), some (.int .i64 v5)] h =
((if (decide (v5 < ((v0n : Nat) : Int))) = true then
(if 0 ≤ v5 ∧ v5 < ((v0n : Nat) : Int) then
((v0 : Option Addr)).bind fun a1 =>
(wr base h a1.block ((a1.off + Int.toNat v5 * 6) + 0) [(.int .i64 v1)]).bind fun h2 =>
(if 0 ≤ v5 ∧ v5 < ((v0n : Nat) : Int) then
((v0 : Option Addr)).bind fun a3 =>
(wr base h2 a3.block ((a3.off + Int.toNat v5 * 6) + 1) [(.int .i64 (IntKind.wrap .i64 (v1 + (1 : Int))))]).bind fun h4 =>
(if 0 ≤ v5 ∧ v5 < ((v0n : Nat) : Int) then
((v0 : Option Addr)).bind fun a5 =>
(wr base h4 a5.block (((a5.off + Int.toNat v5 * 6) + 2) + 0) [(.int .i64 (IntKind.wrap .i64 ((IntKind.wrap .i64 (v1 + (1 : Int))) + (1 : Int))))]).bind fun h6 =>
(if 0 ≤ v5 ∧ v5 < ((v0n : Nat) : Int) then
((v0 : Option Addr)).bind fun a7 =>
(wr base h6 a7.block (((a7.off + Int.toNat v5 * 6) + 2) + 1) [(.int .i64 (IntKind.wrap .i64 ((IntKind.wrap .i64 ((IntKind.wrap .i64 (v1 + (1 : Int))) + (1 : Int))) + (1 : Int))))]).bind fun h8 =>
(run (Et base) 33 [(.int .i64 (IntKind.wrap .i64 ((IntKind.wrap .i64 ((IntKind.wrap .i64 ((IntKind.wrap .i64 (v1 + (1 : Int))) + (1 : Int))) + (1 : Int))) + (1 : Int))))] h8).bind fun r9 =>
((some r9.1).bind getStr).bind fun s10 =>
(if 0 ≤ v5 ∧ v5 < ((v0n : Nat) : Int) then
((v0 : Option Addr)).bind fun a11 =>
(wr base r9.2 a11.block (((a11.off + Int.toNat v5 * 6) + 2) + 2) [(.string s10)]).bind fun h12 =>
(if 0 ≤ v5 ∧ v5 < ((v0n : Nat) : Int) then
((v0 : Option Addr)).bind fun a13 =>
((cell h12 a13.block (((a13.off + Int.toNat v5 * 6) + 2) + 3)).bind getS).bind fun l14 =>
(run (Et base) 34 [(.slice l14.1 l14.2 l14.2), (.int .i64 (IntKind.wrap .i64 ((IntKind.wrap .i64 ((IntKind.wrap .i64 ((IntKind.wrap .i64 ((IntKind.wrap .i64 (v1 + (1 : Int))) + (1 : Int))) + (1 : Int))) + (1 : Int))) + (1 : Int))))] h12).bind fun r15 =>
((some r15.1).bind (getI .i64)).bind fun n16 =>
some (0, [some (.slice v0 v0n v0n), some (.int .i64 n16), some (.int .i64 (IntKind.wrap .i64 (v5 + (1 : Int))))], r15.2)
else none)
else none)
else none)
else none)
else none)
else none)
else
some (2, [some (.int .i64 v1)], h)) : Option (Nat × Slots × AH)) := by kernel_rfl
theorem f17_eq (base : Nat) (v0 : Option Addr) (v0n : Nat) (v1 : Int) (h : AH) : exFun (Et base) (run (Et base)) loopL a17 Try.f17 [(.slice v0 v0n v0n), (.int .i64 v1)] h =
((loopL (B17_0 base) [some (.slice v0 v0n v0n), some (.int .i64 v1), some (.int .i64 (0 : Int))] h).bind fun q1 =>
(if q1.1 = 2 then
((sget q1.2.1 0).bind (getI .i64)).bind fun n2 =>
some ((.int .i64 n2), q1.2.2)
else
none) : Option (Value × AH)) := by kernel_rfl
theorem r17 {base : Nat} {v0 : Option Addr} {v0n : Nat} {v1 : Int} {h : AH} {r : Value × AH} (hx :
((loopL (B17_0 base) [some (.slice v0 v0n v0n), some (.int .i64 v1), some (.int .i64 (0 : Int))] h).bind fun q1 =>
(if q1.1 = 2 then
((sget q1.2.1 0).bind (getI .i64)).bind fun n2 =>
some ((.int .i64 n2), q1.2.2)
else
none)) = some r) : run (Et base) 17 [(.slice v0 v0n v0n), (.int .i64 v1)] h = some r := run_i Try.func17 (by kernel_rfl) ((f17_eq base v0 v0n v1 h).trans hx)
/-! laws.markTimer (gates 0) -/
theorem f18_eq (base : Nat) (v0_0 : Int) (v0_1 : Int) (v0_2 : Int) (v0_3 : Int) (v0_4 : ByteArray) (v0_5 : Option Addr) (v0_5n : Nat) (v1 : Int) (h : AH) : exFun (Et base) (run (Et base)) loopL a18 Try.f18 [(.agg #[(.int .i64 v0_0), (.int .i64 v0_1), (.int .i64 v0_2), (.int .i64 v0_3), (.string v0_4), (.slice v0_5 v0_5n v0_5n)]), (.int .i64 v1)] h =
((some (h ++ [some ⟨[(.int .i64 v0_0), (.int .i64 v0_1), (.int .i64 v0_2), (.int .i64 v0_3), (.string v0_4), (.slice v0_5 v0_5n v0_5n)], 29⟩])).bind fun h1 =>
((cell h1 (List.length h) 2).bind (getI .i64)).bind fun n2 =>
((cell h1 (List.length h) 3).bind (getI .i64)).bind fun n3 =>
((cell h1 (List.length h) 4).bind getStr).bind fun s4 =>
((cell h1 (List.length h) 5).bind getS).bind fun l5 =>
(run (Et base) 35 [(.agg #[(.int .i64 n2), (.int .i64 n3), (.string s4), (.slice l5.1 l5.2 l5.2)]), (.int .i64 v1)] h1).bind fun r6 =>
((some r6.1).bind (getI .i64)).bind fun n7 =>
some ((.int .i64 n7), r6.2) : Option (Value × AH)) := by kernel_rfl
theorem r18 {base : Nat} {v0_0 : Int} {v0_1 : Int} {v0_2 : Int} {v0_3 : Int} {v0_4 : ByteArray} {v0_5 : Option Addr} {v0_5n : Nat} {v1 : Int} {h : AH} {r : Value × AH} (hx :
((some (h ++ [some ⟨[(.int .i64 v0_0), (.int .i64 v0_1), (.int .i64 v0_2), (.int .i64 v0_3), (.string v0_4), (.slice v0_5 v0_5n v0_5n)], 29⟩])).bind fun h1 =>
((cell h1 (List.length h) 2).bind (getI .i64)).bind fun n2 =>
((cell h1 (List.length h) 3).bind (getI .i64)).bind fun n3 =>
((cell h1 (List.length h) 4).bind getStr).bind fun s4 =>
((cell h1 (List.length h) 5).bind getS).bind fun l5 =>
(run (Et base) 35 [(.agg #[(.int .i64 n2), (.int .i64 n3), (.string s4), (.slice l5.1 l5.2 l5.2)]), (.int .i64 v1)] h1).bind fun r6 =>
((some r6.1).bind (getI .i64)).bind fun n7 =>
some ((.int .i64 n7), r6.2)) = some r) : run (Et base) 18 [(.agg #[(.int .i64 v0_0), (.int .i64 v0_1), (.int .i64 v0_2), (.int .i64 v0_3), (.string v0_4), (.slice v0_5 v0_5n v0_5n)]), (.int .i64 v1)] h = some r := run_i Try.func18 (by kernel_rfl) ((f18_eq base v0_0 v0_1 v0_2 v0_3 v0_4 v0_5 v0_5n v1 h).trans hx)
/-! laws.heldTimerS (gates 0) -/
noncomputable def B19_0 (base : Nat) : Body := fun l h => lay s19_0 l fun s => exCode (Et base) (run (Et base)) loopL a19_0 (subC [1, 0, 1, 0, 0] (bodyC Try.f19)) s h (keepK s19_0 e19_0)
theorem B19_0_eq (base : Nat) (v0 : Option Addr) (v0n : Nat) (v1 : Int) (v5 : Int) (h : AH) : B19_0 base [some (.slice v0 v0n v0n), some (.int .i64 v1), some (.int .i64 v5)] h =
((if (decide (v5 < ((v0n : Nat) : Int))) = true then
(if 0 ≤ v5 ∧ v5 < ((v0n : Nat) : Int) then
((v0 : Option Addr)).bind fun a1 =>
((cell h a1.block ((a1.off + Int.toNat v5 * 6) + 0)).bind (getI .i64)).bind fun n2 =>
(if (n2 != v1) = true then
some (1, [some (.int .i64 (-1 : Int))], h)
else
(if 0 ≤ v5 ∧ v5 < ((v0n : Nat) : Int) then
((v0 : Option Addr)).bind fun a3 =>
((cell h a3.block ((a3.off + Int.toNat v5 * 6) + 1)).bind (getI .i64)).bind fun n4 =>
(if (n4 != (IntKind.wrap .i64 (v1 + (1 : Int)))) = true then
some (1, [some (.int .i64 (-1 : Int))], h)
else
(if 0 ≤ v5 ∧ v5 < ((v0n : Nat) : Int) then
((v0 : Option Addr)).bind fun a5 =>
((cell h a5.block (((a5.off + Int.toNat v5 * 6) + 2) + 0)).bind (getI .i64)).bind fun n6 =>
(if (n6 != (IntKind.wrap .i64 ((IntKind.wrap .i64 (v1 + (1 : Int))) + (1 : Int)))) = true then
some (1, [some (.int .i64 (-1 : Int))], h)
else
(if 0 ≤ v5 ∧ v5 < ((v0n : Nat) : Int) then
((v0 : Option Addr)).bind fun a7 =>
((cell h a7.block (((a7.off + Int.toNat v5 * 6) + 2) + 1)).bind (getI .i64)).bind fun n8 =>
(if (n8 != (IntKind.wrap .i64 ((IntKind.wrap .i64 ((IntKind.wrap .i64 (v1 + (1 : Int))) + (1 : Int))) + (1 : Int)))) = true then
some (1, [some (.int .i64 (-1 : Int))], h)
else
(if 0 ≤ v5 ∧ v5 < ((v0n : Nat) : Int) then
((v0 : Option Addr)).bind fun a9 =>
((cell h a9.block (((a9.off + Int.toNat v5 * 6) + 2) + 2)).bind getStr).bind fun s10 =>
(run (Et base) 33 [(.int .i64 (IntKind.wrap .i64 ((IntKind.wrap .i64 ((IntKind.wrap .i64 ((IntKind.wrap .i64 (v1 + (1 : Int))) + (1 : Int))) + (1 : Int))) + (1 : Int))))] h).bind fun r11 =>
((some r11.1).bind getStr).bind fun s12 =>
(gate (sameA h r11.2 (some ⟨a9.block, (((a9.off + Int.toNat v5 * 6) + 2) + 2), none⟩) 1)
((if (!(s10.toList == s12.toList)) = true then
some (1, [some (.int .i64 (-1 : Int))], r11.2)
else
(if 0 ≤ v5 ∧ v5 < ((v0n : Nat) : Int) then
((v0 : Option Addr)).bind fun a13 =>
((cell r11.2 a13.block (((a13.off + Int.toNat v5 * 6) + 2) + 3)).bind getS).bind fun l14 =>
(run (Et base) 36 [(.slice l14.1 l14.2 l14.2), (.int .i64 (IntKind.wrap .i64 ((IntKind.wrap .i64 ((IntKind.wrap .i64 ((IntKind.wrap .i64 ((IntKind.wrap .i64 (v1 + (1 : Int))) + (1 : Int))) + (1 : Int))) + (1 : Int))) + (1 : Int))))] r11.2).bind fun r15 =>
((some r15.1).bind (getI .i64)).bind fun n16 =>
(if (decide (n16 < (0 : Int))) = true then
some (1, [some (.int .i64 (-1 : Int))], r15.2)
else
some (0, [some (.slice v0 v0n v0n), some (.int .i64 n16), some (.int .i64 (IntKind.wrap .i64 (v5 + (1 : Int))))], r15.2))
else none))))
else none))
else none))
else none))
else none))
else none)
else
some (2, [some (.int .i64 v1)], h)) : Option (Nat × Slots × AH)) := by kernel_rfl
theorem f19_eq (base : Nat) (v0 : Option Addr) (v0n : Nat) (v1 : Int) (h : AH) : exFun (Et base) (run (Et base)) loopL a19 Try.f19 [(.slice v0 v0n v0n), (.int .i64 v1)] h =
((loopL (B19_0 base) [some (.slice v0 v0n v0n), some (.int .i64 v1), some (.int .i64 (0 : Int))] h).bind fun q1 =>
(if q1.1 = 1 then
((sget q1.2.1 0).bind (getI .i64)).bind fun n2 =>
some ((.int .i64 n2), q1.2.2)
else
(if q1.1 = 2 then
((sget q1.2.1 0).bind (getI .i64)).bind fun n3 =>
some ((.int .i64 n3), q1.2.2)
else
none)) : Option (Value × AH)) := by kernel_rfl
theorem r19 {base : Nat} {v0 : Option Addr} {v0n : Nat} {v1 : Int} {h : AH} {r : Value × AH} (hx :
((loopL (B19_0 base) [some (.slice v0 v0n v0n), some (.int .i64 v1), some (.int .i64 (0 : Int))] h).bind fun q1 =>
(if q1.1 = 1 then
((sget q1.2.1 0).bind (getI .i64)).bind fun n2 =>
some ((.int .i64 n2), q1.2.2)
else
(if q1.1 = 2 then
((sget q1.2.1 0).bind (getI .i64)).bind fun n3 =>
some ((.int .i64 n3), q1.2.2)
else
none))) = some r) : run (Et base) 19 [(.slice v0 v0n v0n), (.int .i64 v1)] h = some r := run_i Try.func19 (by kernel_rfl) ((f19_eq base v0 v0n v1 h).trans hx)
/-! spec.l1New (gates 0) -/
noncomputable def B20_0 (base : Nat) : Body := fun l h => lay s20_0 l fun s => exCode (Et base) (run (Et base)) loopL a20_0 (subC [1, 1, 0, 1, 0, 0] (bodyC Try.f20)) s h (keepK s20_0 e20_0)
theorem B20_0_eq (base : Nat) (v0 : Option Addr) (v0n : Nat) (v3 : Int) (v4 : Int) (h : AH) : B20_0 base [some (.slice v0 v0n v0n), some (.int .i64 v3), some (.int .i64 v4)] h =
(((if (decide (v4 < ((v0n : Nat) : Int))) = true then
some (.inl ([some (.slice v0 v0n v0n), some (.int .i64 v3), some (.int .i64 v4), some (.bool (decide (v4 < (4000 : Int))))], h))
else
some (.inl ([some (.slice v0 v0n v0n), some (.int .i64 v3), some (.int .i64 v4), some (.bool false)], h)))).bind fun j1 => joinK j1 fun j1 =>
((sget j1.1 0).bind getS).bind fun l2 =>
((sget (j1.1.tail) 0).bind (getI .i64)).bind fun n3 =>
((sget (j1.1.tail.tail) 0).bind (getI .i64)).bind fun n4 =>
((sget (j1.1.tail.tail.tail) 0).bind getB).bind fun b5 =>
(if b5 = true then
(if 0 ≤ n4 ∧ n4 < ((l2.2 : Nat) : Int) then
((l2.1 : Option Addr)).bind fun a6 =>
((cell j1.2 a6.block (a6.off + Int.toNat n4 * 1)).bind (getI .u8)).bind fun n7 =>
some (0, [some (.slice l2.1 l2.2 l2.2), some (.int .i64 (Go.bits .and .i64 (IntKind.wrap .i64 ((IntKind.wrap .i64 ((IntKind.wrap .i64 (n3 * (137 : Int))) + (IntKind.wrap .i64 n7))) + (11 : Int))) (1073741823 : Int))), some (.int .i64 (IntKind.wrap .i64 (n4 + (1 : Int))))], j1.2)
else none)
else
some (2, [some (.slice l2.1 l2.2 l2.2), some (.int .i64 n3)], j1.2)) : Option (Nat × Slots × AH)) := by kernel_rfl
theorem f20_eq (base : Nat) (v0 : Option Addr) (v0n : Nat) (h : AH) : exFun (Et base) (run (Et base)) loopL a20 Try.f20 [(.slice v0 v0n v0n)] h =
((loopL (B20_0 base) [some (.slice v0 v0n v0n), some (.int .i64 (IntKind.wrap .i64 ((384384 : Int) + ((v0n : Nat) : Int)))), some (.int .i64 (0 : Int))] h).bind fun q1 =>
(if q1.1 = 2 then
((sget q1.2.1 0).bind getS).bind fun l2 =>
((sget (q1.2.1.tail) 0).bind (getI .i64)).bind fun n3 =>
(some (q1.2.2 ++ [some ⟨[(.slice l2.1 l2.2 l2.2), (.int .i64 (0 : Int)), (.int .i64 n3)], 65⟩])).bind fun h4 =>
some ((.pointer (some ⟨(List.length q1.2.2), 0, none⟩)), h4)
else
none) : Option (Value × AH)) := by kernel_rfl
theorem r20 {base : Nat} {v0 : Option Addr} {v0n : Nat} {h : AH} {r : Value × AH} (hx :
((loopL (B20_0 base) [some (.slice v0 v0n v0n), some (.int .i64 (IntKind.wrap .i64 ((384384 : Int) + ((v0n : Nat) : Int)))), some (.int .i64 (0 : Int))] h).bind fun q1 =>
(if q1.1 = 2 then
((sget q1.2.1 0).bind getS).bind fun l2 =>
((sget (q1.2.1.tail) 0).bind (getI .i64)).bind fun n3 =>
(some (q1.2.2 ++ [some ⟨[(.slice l2.1 l2.2 l2.2), (.int .i64 (0 : Int)), (.int .i64 n3)], 65⟩])).bind fun h4 =>
some ((.pointer (some ⟨(List.length q1.2.2), 0, none⟩)), h4)
else
none)) = some r) : run (Et base) 20 [(.slice v0 v0n v0n)] h = some r := run_i Try.func20 (by kernel_rfl) ((f20_eq base v0 v0n h).trans hx)
/-! spec.l14Any (gates 0) -/
noncomputable def B21_0 (base : Nat) : Body := fun l h => lay s21_0 l fun s => exCode (Et base) (run (Et base)) loopL a21_0 (subC [1, 1, 1, 0, 1, 0, 0, 0] (bodyC Try.f21)) s h (keepK s21_0 e21_0)
theorem B21_0_eq (base : Nat) (v0 : Option Addr) (v3 : Option Addr) (v3n : Nat) (h : AH) : B21_0 base [some (.pointer v0), some (.slice v3 v3n v3n)] h =
((run (Et base) 40 [(.pointer v0), (.int .i64 (3 : Int))] h).bind fun r1 =>
((some r1.1).bind (getI .i64)).bind fun n2 =>
(if (decide (((v3n : Nat) : Int) < (IntKind.wrap .i64 ((49 : Int) + n2)))) = true then
(run (Et base) 41 [(.int .i64 (1 : Int))] r1.2).bind fun r3 =>
((some r3.1).bind (getAgg 4)).bind fun l4 =>
((l4[0]?).bind (getI .i64)).bind fun n5 =>
((l4[1]?).bind (getI .i64)).bind fun n6 =>
((l4[2]?).bind getStr).bind fun s7 =>
((l4[3]?).bind getS).bind fun l8 =>
(some (r3.2 ++ [some ⟨[(.int .i64 (1000000000 : Int)), (.int .i64 (1 : Int)), (.int .i64 n5), (.int .i64 n6), (.string s7), (.slice l8.1 l8.2 l8.2)], 29⟩])).bind fun h9 =>
(app base h9 29 6 72 v3 v3n (rawAt h9 (some ⟨(List.length r3.2), 0, none⟩) (1 * 6)) 1).bind fun p10 =>
((some p10.1).bind getS).bind fun l11 =>
some (0, [some (.pointer v0), some (.slice l11.1 l11.2 l11.2)], p10.2)
else
some (2, [some (.slice v3 v3n v3n)], r1.2)) : Option (Nat × Slots × AH)) := by kernel_rfl
theorem f21_eq (base : Nat) (v0 : Option Addr) (h : AH) : exFun (Et base) (run (Et base)) loopL a21 Try.f21 [(.pointer v0)] h =
((run (Et base) 37 [(.pointer v0)] h).bind fun r1 =>
((some r1.1).bind getS).bind fun l2 =>
((run (Et base) 38 [(.pointer v0), (.int .i64 (4 : Int))] r1.2).bind fun r4 =>
((some r4.1).bind getB).bind fun b5 =>
(if b5 = true then
(run (Et base) 39 [(.pointer v0)] r4.2).bind fun r6 =>
((some r6.1).bind (getAgg 6)).bind fun l7 =>
((l7[0]?).bind (getI .i64)).bind fun n8 =>
((l7[1]?).bind (getI .i64)).bind fun n9 =>
((l7[2]?).bind (getI .i64)).bind fun n10 =>
((l7[3]?).bind (getI .i64)).bind fun n11 =>
((l7[4]?).bind getStr).bind fun s12 =>
((l7[5]?).bind getS).bind fun l13 =>
(some (r6.2 ++ [some ⟨[(.int .i64 n8), (.int .i64 n9), (.int .i64 n10), (.int .i64 n11), (.string s12), (.slice l13.1 l13.2 l13.2)], 29⟩])).bind fun h14 =>
(app base h14 29 6 72 l2.1 l2.2 (rawAt h14 (some ⟨(List.length r6.2), 0, none⟩) (1 * 6)) 1).bind fun p15 =>
((some p15.1).bind getS).bind fun l16 =>
some (.inl ([some (.pointer v0), some (.slice l16.1 l16.2 l16.2)], p15.2))
else
some (.inl ([some (.pointer v0), some (.slice l2.1 l2.2 l2.2)], r4.2)))).bind fun j3 => joinK j3 fun j3 =>
((sget j3.1 0).bind getP).bind fun p17 =>
((sget (j3.1.tail) 0).bind getS).bind fun l18 =>
((run (Et base) 38 [(.pointer p17), (.int .i64 (30 : Int))] j3.2).bind fun r20 =>
((some r20.1).bind getB).bind fun b21 =>
(if b21 = true then
(loopL (B21_0 base) [some (.pointer p17), some (.slice l18.1 l18.2 l18.2)] r20.2).bind fun q22 =>
(if q22.1 = 2 then
((sget q22.2.1 0).bind getS).bind fun l23 =>
some (.inl ([some (.slice l23.1 l23.2 l23.2)], q22.2.2))
else
none)
else
some (.inl ([some (.slice l18.1 l18.2 l18.2)], r20.2)))).bind fun j19 => joinK j19 fun j19 =>
((sget j19.1 0).bind getS).bind fun l24 =>
some ((.slice l24.1 l24.2 l24.2), j19.2) : Option (Value × AH)) := by kernel_rfl
theorem r21 {base : Nat} {v0 : Option Addr} {h : AH} {r : Value × AH} (hx :
((run (Et base) 37 [(.pointer v0)] h).bind fun r1 =>
((some r1.1).bind getS).bind fun l2 =>
((run (Et base) 38 [(.pointer v0), (.int .i64 (4 : Int))] r1.2).bind fun r4 =>
((some r4.1).bind getB).bind fun b5 =>
(if b5 = true then
(run (Et base) 39 [(.pointer v0)] r4.2).bind fun r6 =>
((some r6.1).bind (getAgg 6)).bind fun l7 =>
((l7[0]?).bind (getI .i64)).bind fun n8 =>
((l7[1]?).bind (getI .i64)).bind fun n9 =>
((l7[2]?).bind (getI .i64)).bind fun n10 =>
((l7[3]?).bind (getI .i64)).bind fun n11 =>
((l7[4]?).bind getStr).bind fun s12 =>
((l7[5]?).bind getS).bind fun l13 =>
(some (r6.2 ++ [some ⟨[(.int .i64 n8), (.int .i64 n9), (.int .i64 n10), (.int .i64 n11), (.string s12), (.slice l13.1 l13.2 l13.2)], 29⟩])).bind fun h14 =>
(app base h14 29 6 72 l2.1 l2.2 (rawAt h14 (some ⟨(List.length r6.2), 0, none⟩) (1 * 6)) 1).bind fun p15 =>
((some p15.1).bind getS).bind fun l16 =>
some (.inl ([some (.pointer v0), some (.slice l16.1 l16.2 l16.2)], p15.2))
else
some (.inl ([some (.pointer v0), some (.slice l2.1 l2.2 l2.2)], r4.2)))).bind fun j3 => joinK j3 fun j3 =>
((sget j3.1 0).bind getP).bind fun p17 =>
((sget (j3.1.tail) 0).bind getS).bind fun l18 =>
((run (Et base) 38 [(.pointer p17), (.int .i64 (30 : Int))] j3.2).bind fun r20 =>
((some r20.1).bind getB).bind fun b21 =>
(if b21 = true then
(loopL (B21_0 base) [some (.pointer p17), some (.slice l18.1 l18.2 l18.2)] r20.2).bind fun q22 =>
(if q22.1 = 2 then
((sget q22.2.1 0).bind getS).bind fun l23 =>
some (.inl ([some (.slice l23.1 l23.2 l23.2)], q22.2.2))
else
none)
else
some (.inl ([some (.slice l18.1 l18.2 l18.2)], r20.2)))).bind fun j19 => joinK j19 fun j19 =>
((sget j19.1 0).bind getS).bind fun l24 =>
some ((.slice l24.1 l24.2 l24.2), j19.2)) = some r) : run (Et base) 21 [(.pointer v0)] h = some r := run_i Try.func21 (by kernel_rfl) ((f21_eq base v0 h).trans hx)
/-! spec.l14Bent (gates 0) -/
theorem f22_eq (base : Nat) (v0 : Option Addr) (h : AH) : exFun (Et base) (run (Et base)) loopL a22 Try.f22 [(.pointer v0)] h =
((some (h ++ [some ⟨[(.int .i64 0), (.int .i64 0), (.int .i64 0), (.int .i64 0), (.string ⟨#[]⟩), (.slice none 0 0)], 29⟩])).bind fun h1 =>
(run (Et base) 39 [(.pointer v0)] h1).bind fun r2 =>
((some r2.1).bind (getAgg 6)).bind fun l3 =>
((l3[0]?).bind (getI .i64)).bind fun n4 =>
((l3[1]?).bind (getI .i64)).bind fun n5 =>
((l3[2]?).bind (getI .i64)).bind fun n6 =>
((l3[3]?).bind (getI .i64)).bind fun n7 =>
((l3[4]?).bind getStr).bind fun s8 =>
((l3[5]?).bind getS).bind fun l9 =>
(some (r2.2 ++ [some ⟨[(.int .i64 0), (.int .i64 0), (.int .i64 0), (.int .i64 0), (.string ⟨#[]⟩), (.slice none 0 0)], 29⟩])).bind fun h10 =>
(wr base h10 (List.length r2.2) 0 [(.int .i64 n4), (.int .i64 n5), (.int .i64 n6), (.int .i64 n7), (.string s8), (.slice l9.1 l9.2 l9.2)]).bind fun h11 =>
((run (Et base) 40 [(.pointer v0), (.int .i64 (8 : Int))] h11).bind fun r13 =>
((some r13.1).bind (getI .i64)).bind fun n14 =>
(if (n14 == (0 : Int)) = true then
(some (r13.2 ++ [some ⟨[(.int .i64 (-1 : Int)), (.int .i64 (1000000001 : Int))], 3⟩])).bind fun h15 =>
(run (Et base) 42 [(.pointer v0), (.slice (some ⟨(List.length r13.2), 0, none⟩) 2 2)] h15).bind fun r16 =>
((some r16.1).bind (getI .i64)).bind fun n17 =>
(wr base r16.2 (List.length r2.2) 0 [(.int .i64 n17)]).bind fun h18 =>
some (.inl ([some (.pointer (some ⟨(List.length h), 0, none⟩)), some (.pointer (some ⟨(List.length r2.2), 0, none⟩))], h18))
else
(if (n14 == (1 : Int)) = true then
(some (r13.2 ++ [some ⟨[(.int .i64 (0 : Int)), (.int .i64 (99999 : Int)), (.int .i64 (100000 : Int))], 3⟩])).bind fun h19 =>
(run (Et base) 42 [(.pointer v0), (.slice (some ⟨(List.length r13.2), 0, none⟩) 3 3)] h19).bind fun r20 =>
((some r20.1).bind (getI .i64)).bind fun n21 =>
(wr base r20.2 (List.length r2.2) 1 [(.int .i64 n21)]).bind fun h22 =>
some (.inl ([some (.pointer (some ⟨(List.length h), 0, none⟩)), some (.pointer (some ⟨(List.length r2.2), 0, none⟩))], h22))
else
(if (n14 == (2 : Int)) = true then
(run (Et base) 43 [(.pointer v0)] r13.2).bind fun r23 =>
((some r23.1).bind (getAgg 4)).bind fun l24 =>
((l24[0]?).bind (getI .i64)).bind fun n25 =>
((l24[1]?).bind (getI .i64)).bind fun n26 =>
((l24[2]?).bind getStr).bind fun s27 =>
((l24[3]?).bind getS).bind fun l28 =>
(wr base r23.2 (List.length r2.2) 2 [(.int .i64 n25), (.int .i64 n26), (.string s27), (.slice l28.1 l28.2 l28.2)]).bind fun h29 =>
some (.inl ([some (.pointer (some ⟨(List.length h), 0, none⟩)), some (.pointer (some ⟨(List.length r2.2), 0, none⟩))], h29))
else
some (.inl ([some (.pointer (some ⟨(List.length h), 0, none⟩)), some (.pointer (some ⟨(List.length r2.2), 0, none⟩))], r13.2)))))).bind fun j12 => joinK j12 fun j12 =>
((sget j12.1 0).bind getA).bind fun d30 =>
((sget (j12.1.tail) 0).bind getA).bind fun d31 =>
((cell j12.2 d31.block d31.off).bind (getI .i64)).bind fun n32 =>
((cell j12.2 d31.block (d31.off + 1)).bind (getI .i64)).bind fun n33 =>
((cell j12.2 d31.block ((d31.off + 1) + 1)).bind (getI .i64)).bind fun n34 =>
((cell j12.2 d31.block (((d31.off + 1) + 1) + 1)).bind (getI .i64)).bind fun n35 =>
((cell j12.2 d31.block ((((d31.off + 1) + 1) + 1) + 1)).bind getStr).bind fun s36 =>
((cell j12.2 d31.block (((((d31.off + 1) + 1) + 1) + 1) + 1)).bind getS).bind fun l37 =>
(wr base j12.2 d30.block d30.off [(.int .i64 n32), (.int .i64 n33), (.int .i64 n34), (.int .i64 n35), (.string s36), (.slice l37.1 l37.2 l37.2)]).bind fun h38 =>
((cell h38 d30.block d30.off).bind (getI .i64)).bind fun n39 =>
((cell h38 d30.block (d30.off + 1)).bind (getI .i64)).bind fun n40 =>
((cell h38 d30.block ((d30.off + 1) + 1)).bind (getI .i64)).bind fun n41 =>
((cell h38 d30.block (((d30.off + 1) + 1) + 1)).bind (getI .i64)).bind fun n42 =>
((cell h38 d30.block ((((d30.off + 1) + 1) + 1) + 1)).bind getStr).bind fun s43 =>
((cell h38 d30.block (((((d30.off + 1) + 1) + 1) + 1) + 1)).bind getS).bind fun l44 =>
some ((.agg #[(.int .i64 n39), (.int .i64 n40), (.int .i64 n41), (.int .i64 n42), (.string s43), (.slice l44.1 l44.2 l44.2)]), h38) : Option (Value × AH)) := by kernel_rfl
theorem r22 {base : Nat} {v0 : Option Addr} {h : AH} {r : Value × AH} (hx :
((some (h ++ [some ⟨[(.int .i64 0), (.int .i64 0), (.int .i64 0), (.int .i64 0), (.string ⟨#[]⟩), (.slice none 0 0)], 29⟩])).bind fun h1 =>
(run (Et base) 39 [(.pointer v0)] h1).bind fun r2 =>
((some r2.1).bind (getAgg 6)).bind fun l3 =>
((l3[0]?).bind (getI .i64)).bind fun n4 =>
((l3[1]?).bind (getI .i64)).bind fun n5 =>
((l3[2]?).bind (getI .i64)).bind fun n6 =>
((l3[3]?).bind (getI .i64)).bind fun n7 =>
((l3[4]?).bind getStr).bind fun s8 =>
((l3[5]?).bind getS).bind fun l9 =>
(some (r2.2 ++ [some ⟨[(.int .i64 0), (.int .i64 0), (.int .i64 0), (.int .i64 0), (.string ⟨#[]⟩), (.slice none 0 0)], 29⟩])).bind fun h10 =>
(wr base h10 (List.length r2.2) 0 [(.int .i64 n4), (.int .i64 n5), (.int .i64 n6), (.int .i64 n7), (.string s8), (.slice l9.1 l9.2 l9.2)]).bind fun h11 =>
((run (Et base) 40 [(.pointer v0), (.int .i64 (8 : Int))] h11).bind fun r13 =>
((some r13.1).bind (getI .i64)).bind fun n14 =>
(if (n14 == (0 : Int)) = true then
(some (r13.2 ++ [some ⟨[(.int .i64 (-1 : Int)), (.int .i64 (1000000001 : Int))], 3⟩])).bind fun h15 =>
(run (Et base) 42 [(.pointer v0), (.slice (some ⟨(List.length r13.2), 0, none⟩) 2 2)] h15).bind fun r16 =>
((some r16.1).bind (getI .i64)).bind fun n17 =>
(wr base r16.2 (List.length r2.2) 0 [(.int .i64 n17)]).bind fun h18 =>
some (.inl ([some (.pointer (some ⟨(List.length h), 0, none⟩)), some (.pointer (some ⟨(List.length r2.2), 0, none⟩))], h18))
else
(if (n14 == (1 : Int)) = true then
(some (r13.2 ++ [some ⟨[(.int .i64 (0 : Int)), (.int .i64 (99999 : Int)), (.int .i64 (100000 : Int))], 3⟩])).bind fun h19 =>
(run (Et base) 42 [(.pointer v0), (.slice (some ⟨(List.length r13.2), 0, none⟩) 3 3)] h19).bind fun r20 =>
((some r20.1).bind (getI .i64)).bind fun n21 =>
(wr base r20.2 (List.length r2.2) 1 [(.int .i64 n21)]).bind fun h22 =>
some (.inl ([some (.pointer (some ⟨(List.length h), 0, none⟩)), some (.pointer (some ⟨(List.length r2.2), 0, none⟩))], h22))
else
(if (n14 == (2 : Int)) = true then
(run (Et base) 43 [(.pointer v0)] r13.2).bind fun r23 =>
((some r23.1).bind (getAgg 4)).bind fun l24 =>
((l24[0]?).bind (getI .i64)).bind fun n25 =>
((l24[1]?).bind (getI .i64)).bind fun n26 =>
((l24[2]?).bind getStr).bind fun s27 =>
((l24[3]?).bind getS).bind fun l28 =>
(wr base r23.2 (List.length r2.2) 2 [(.int .i64 n25), (.int .i64 n26), (.string s27), (.slice l28.1 l28.2 l28.2)]).bind fun h29 =>
some (.inl ([some (.pointer (some ⟨(List.length h), 0, none⟩)), some (.pointer (some ⟨(List.length r2.2), 0, none⟩))], h29))
else
some (.inl ([some (.pointer (some ⟨(List.length h), 0, none⟩)), some (.pointer (some ⟨(List.length r2.2), 0, none⟩))], r13.2)))))).bind fun j12 => joinK j12 fun j12 =>
((sget j12.1 0).bind getA).bind fun d30 =>
((sget (j12.1.tail) 0).bind getA).bind fun d31 =>
((cell j12.2 d31.block d31.off).bind (getI .i64)).bind fun n32 =>
((cell j12.2 d31.block (d31.off + 1)).bind (getI .i64)).bind fun n33 =>
((cell j12.2 d31.block ((d31.off + 1) + 1)).bind (getI .i64)).bind fun n34 =>
((cell j12.2 d31.block (((d31.off + 1) + 1) + 1)).bind (getI .i64)).bind fun n35 =>
((cell j12.2 d31.block ((((d31.off + 1) + 1) + 1) + 1)).bind getStr).bind fun s36 =>
((cell j12.2 d31.block (((((d31.off + 1) + 1) + 1) + 1) + 1)).bind getS).bind fun l37 =>
(wr base j12.2 d30.block d30.off [(.int .i64 n32), (.int .i64 n33), (.int .i64 n34), (.int .i64 n35), (.string s36), (.slice l37.1 l37.2 l37.2)]).bind fun h38 =>
((cell h38 d30.block d30.off).bind (getI .i64)).bind fun n39 =>
((cell h38 d30.block (d30.off + 1)).bind (getI .i64)).bind fun n40 =>
((cell h38 d30.block ((d30.off + 1) + 1)).bind (getI .i64)).bind fun n41 =>
((cell h38 d30.block (((d30.off + 1) + 1) + 1)).bind (getI .i64)).bind fun n42 =>
((cell h38 d30.block ((((d30.off + 1) + 1) + 1) + 1)).bind getStr).bind fun s43 =>
((cell h38 d30.block (((((d30.off + 1) + 1) + 1) + 1) + 1)).bind getS).bind fun l44 =>
some ((.agg #[(.int .i64 n39), (.int .i64 n40), (.int .i64 n41), (.int .i64 n42), (.string s43), (.slice l44.1 l44.2 l44.2)]), h38)) = some r) : run (Et base) 22 [(.pointer v0)] h = some r := run_i Try.func22 (by kernel_rfl) ((f22_eq base v0 h).trans hx)
/-! impl.timerOk (gates 0) -/
theorem f23_eq (base : Nat) (v0_0 : Int) (v0_1 : Int) (v0_2 : Int) (v0_3 : Int) (v0_4 : ByteArray) (v0_5 : Option Addr) (v0_5n : Nat) (h : AH) : exFun (Et base) (run (Et base)) loopL a23 Try.f23 [(.agg #[(.int .i64 v0_0), (.int .i64 v0_1), (.int .i64 v0_2), (.int .i64 v0_3), (.string v0_4), (.slice v0_5 v0_5n v0_5n)])] h =
((some (h ++ [some ⟨[(.int .i64 v0_0), (.int .i64 v0_1), (.int .i64 v0_2), (.int .i64 v0_3), (.string v0_4), (.slice v0_5 v0_5n v0_5n)], 29⟩])).bind fun h1 =>
((cell h1 (List.length h) 0).bind (getI .i64)).bind fun n2 =>
(run (Et base) 44 [(.int .i64 n2), (.int .i64 (0 : Int)), (.int .i64 (1000000000 : Int))] h1).bind fun r3 =>
((some r3.1).bind getB).bind fun b4 =>
(if b4 = true then
((cell r3.2 (List.length h) 1).bind (getI .i64)).bind fun n5 =>
(run (Et base) 44 [(.int .i64 n5), (.int .i64 (1 : Int)), (.int .i64 (99999 : Int))] r3.2).bind fun r6 =>
((some r6.1).bind getB).bind fun b7 =>
(if b7 = true then
((cell r6.2 (List.length h) 2).bind (getI .i64)).bind fun n8 =>
((cell r6.2 (List.length h) 3).bind (getI .i64)).bind fun n9 =>
((cell r6.2 (List.length h) 4).bind getStr).bind fun s10 =>
((cell r6.2 (List.length h) 5).bind getS).bind fun l11 =>
(run (Et base) 45 [(.agg #[(.int .i64 n8), (.int .i64 n9), (.string s10), (.slice l11.1 l11.2 l11.2)])] r6.2).bind fun r12 =>
((some r12.1).bind getB).bind fun b13 =>
some ((.bool b13), r12.2)
else
some ((.bool false), r6.2))
else
some ((.bool false), r3.2)) : Option (Value × AH)) := by kernel_rfl
theorem r23 {base : Nat} {v0_0 : Int} {v0_1 : Int} {v0_2 : Int} {v0_3 : Int} {v0_4 : ByteArray} {v0_5 : Option Addr} {v0_5n : Nat} {h : AH} {r : Value × AH} (hx :
((some (h ++ [some ⟨[(.int .i64 v0_0), (.int .i64 v0_1), (.int .i64 v0_2), (.int .i64 v0_3), (.string v0_4), (.slice v0_5 v0_5n v0_5n)], 29⟩])).bind fun h1 =>
((cell h1 (List.length h) 0).bind (getI .i64)).bind fun n2 =>
(run (Et base) 44 [(.int .i64 n2), (.int .i64 (0 : Int)), (.int .i64 (1000000000 : Int))] h1).bind fun r3 =>
((some r3.1).bind getB).bind fun b4 =>
(if b4 = true then
((cell r3.2 (List.length h) 1).bind (getI .i64)).bind fun n5 =>
(run (Et base) 44 [(.int .i64 n5), (.int .i64 (1 : Int)), (.int .i64 (99999 : Int))] r3.2).bind fun r6 =>
((some r6.1).bind getB).bind fun b7 =>
(if b7 = true then
((cell r6.2 (List.length h) 2).bind (getI .i64)).bind fun n8 =>
((cell r6.2 (List.length h) 3).bind (getI .i64)).bind fun n9 =>
((cell r6.2 (List.length h) 4).bind getStr).bind fun s10 =>
((cell r6.2 (List.length h) 5).bind getS).bind fun l11 =>
(run (Et base) 45 [(.agg #[(.int .i64 n8), (.int .i64 n9), (.string s10), (.slice l11.1 l11.2 l11.2)])] r6.2).bind fun r12 =>
((some r12.1).bind getB).bind fun b13 =>
some ((.bool b13), r12.2)
else
some ((.bool false), r6.2))
else
some ((.bool false), r3.2))) = some r) : run (Et base) 23 [(.agg #[(.int .i64 v0_0), (.int .i64 v0_1), (.int .i64 v0_2), (.int .i64 v0_3), (.string v0_4), (.slice v0_5 v0_5n v0_5n)])] h = some r := run_i Try.func23 (by kernel_rfl) ((f23_eq base v0_0 v0_1 v0_2 v0_3 v0_4 v0_5 v0_5n h).trans hx)
/-! impl.timersIf (gates 0) -/
noncomputable def B24_0 (base : Nat) : Body := fun l h => lay s24_0 l fun s => exCode (Et base) (run (Et base)) loopL a24_0 (subC [1, 1, 0, 1, 0, 0] (bodyC Try.f24)) s h (keepK s24_0 e24_0)
theorem B24_0_eq (base : Nat) (v1 : Fn) (v1p v1q : Array Value) (v5 : Option Addr) (v5n : Nat) (v8 : Option Addr) (v8n : Nat) (v9 : Int) (v10 : Int) (h : AH) : B24_0 base [some (.func v1 v1p v1q), some (.slice v5 v5n v5n), some (.slice v8 v8n v8n), some (.int .i64 v9), some (.int .i64 v10)] h =
((if (decide (v10 < v9)) = true then
(if 0 ≤ v10 ∧ v10 < ((v8n : Nat) : Int) then
((v8 : Option Addr)).bind fun a1 =>
((cell h a1.block (a1.off + Int.toNat v10 * 6)).bind (getI .i64)).bind fun n2 =>
((cell h a1.block ((a1.off + Int.toNat v10 * 6) + 1)).bind (getI .i64)).bind fun n3 =>
((cell h a1.block (((a1.off + Int.toNat v10 * 6) + 1) + 1)).bind (getI .i64)).bind fun n4 =>
((cell h a1.block ((((a1.off + Int.toNat v10 * 6) + 1) + 1) + 1)).bind (getI .i64)).bind fun n5 =>
((cell h a1.block (((((a1.off + Int.toNat v10 * 6) + 1) + 1) + 1) + 1)).bind getStr).bind fun s6 =>
((cell h a1.block ((((((a1.off + Int.toNat v10 * 6) + 1) + 1) + 1) + 1) + 1)).bind getS).bind fun l7 =>
(some (h ++ [some ⟨[(.int .i64 0), (.int .i64 0), (.int .i64 0), (.int .i64 0), (.string ⟨#[]⟩), (.slice none 0 0)], 29⟩])).bind fun h8 =>
(wr base h8 (List.length h) 0 [(.int .i64 n2), (.int .i64 n3), (.int .i64 n4), (.int .i64 n5), (.string s6), (.slice l7.1 l7.2 l7.2)]).bind fun h9 =>
((cell h9 (List.length h) 0).bind (getI .i64)).bind fun n10 =>
((cell h9 (List.length h) 1).bind (getI .i64)).bind fun n11 =>
((cell h9 (List.length h) 2).bind (getI .i64)).bind fun n12 =>
((cell h9 (List.length h) 3).bind (getI .i64)).bind fun n13 =>
((cell h9 (List.length h) 4).bind getStr).bind fun s14 =>
((cell h9 (List.length h) 5).bind getS).bind fun l15 =>
(callU (Et base) (run (Et base)) v1 (v1p.toList ++ [(.agg #[(.int .i64 n10), (.int .i64 n11), (.int .i64 n12), (.int .i64 n13), (.string s14), (.slice l15.1 l15.2 l15.2)])] ++ v1q.toList) h9).bind fun r16 =>
((some r16.1).bind getB).bind fun b17 =>
(if b17 = true then
((cell r16.2 (List.length h) 2).bind (getI .i64)).bind fun n18 =>
((cell r16.2 (List.length h) 3).bind (getI .i64)).bind fun n19 =>
((cell r16.2 (List.length h) 4).bind getStr).bind fun s20 =>
((cell r16.2 (List.length h) 5).bind getS).bind fun l21 =>
(run (Et base) 46 [(.agg #[(.int .i64 n18), (.int .i64 n19), (.string s20), (.slice l21.1 l21.2 l21.2)])] r16.2).bind fun r22 =>
((some r22.1).bind (getAgg 4)).bind fun l23 =>
((l23[0]?).bind (getI .i64)).bind fun n24 =>
((l23[1]?).bind (getI .i64)).bind fun n25 =>
((l23[2]?).bind getStr).bind fun s26 =>
((l23[3]?).bind getS).bind fun l27 =>
(wr base r22.2 (List.length h) 2 [(.int .i64 n24), (.int .i64 n25), (.string s26), (.slice l27.1 l27.2 l27.2)]).bind fun h28 =>
((cell h28 (List.length h) 0).bind (getI .i64)).bind fun n29 =>
((cell h28 (List.length h) 1).bind (getI .i64)).bind fun n30 =>
((cell h28 (List.length h) 2).bind (getI .i64)).bind fun n31 =>
((cell h28 (List.length h) 3).bind (getI .i64)).bind fun n32 =>
((cell h28 (List.length h) 4).bind getStr).bind fun s33 =>
((cell h28 (List.length h) 5).bind getS).bind fun l34 =>
(some (h28 ++ [some ⟨[(.int .i64 n29), (.int .i64 n30), (.int .i64 n31), (.int .i64 n32), (.string s33), (.slice l34.1 l34.2 l34.2)], 29⟩])).bind fun h35 =>
(app base h35 29 6 72 v5 v5n (rawAt h35 (some ⟨(List.length h28), 0, none⟩) (1 * 6)) 1).bind fun p36 =>
((some p36.1).bind getS).bind fun l37 =>
some (0, [some (.func v1 v1p v1q), some (.slice l37.1 l37.2 l37.2), some (.slice v8 v8n v8n), some (.int .i64 v9), some (.int .i64 (IntKind.wrap .i64 (v10 + (1 : Int))))], p36.2)
else
some (0, [some (.func v1 v1p v1q), some (.slice v5 v5n v5n), some (.slice v8 v8n v8n), some (.int .i64 v9), some (.int .i64 (IntKind.wrap .i64 (v10 + (1 : Int))))], r16.2))
else none)
else
some (2, [some (.slice v5 v5n v5n)], h)) : Option (Nat × Slots × AH)) := by kernel_rfl
theorem f24_eq (base : Nat) (v0 : Option Addr) (v0n : Nat) (v1 : Fn) (v1p v1q : Array Value) (h : AH) : exFun (Et base) (run (Et base)) loopL a24 Try.f24 [(.slice v0 v0n v0n), (.func v1 v1p v1q)] h =
((loopL (B24_0 base) [some (.func v1 v1p v1q), some (.slice none 0 0), some (.slice v0 v0n v0n), some (.int .i64 ((v0n : Nat) : Int)), some (.int .i64 (0 : Int))] h).bind fun q1 =>
(if q1.1 = 2 then
((sget q1.2.1 0).bind getS).bind fun l2 =>
some ((.slice l2.1 l2.2 l2.2), q1.2.2)
else
none) : Option (Value × AH)) := by kernel_rfl
theorem r24 {base : Nat} {v0 : Option Addr} {v0n : Nat} {v1 : Fn} {v1p v1q : Array Value} {h : AH} {r : Value × AH} (hx :
((loopL (B24_0 base) [some (.func v1 v1p v1q), some (.slice none 0 0), some (.slice v0 v0n v0n), some (.int .i64 ((v0n : Nat) : Int)), some (.int .i64 (0 : Int))] h).bind fun q1 =>
(if q1.1 = 2 then
((sget q1.2.1 0).bind getS).bind fun l2 =>
some ((.slice l2.1 l2.2 l2.2), q1.2.2)
else
none)) = some r) : run (Et base) 24 [(.slice v0 v0n v0n), (.func v1 v1p v1q)] h = some r := run_i Try.func24 (by kernel_rfl) ((f24_eq base v0 v0n v1 v1p v1q h).trans hx)
theorem B24_0_eq_any (base : Nat) (v5 : Option Addr) (v5n : Nat) (v8 : Option Addr) (v8n : Nat) (v9 : Int) (v10 : Int) (h : AH) : B24_0 base [some (.func (.func 25) #[] #[]), some (.slice v5 v5n v5n), some (.slice v8 v8n v8n), some (.int .i64 v9), some (.int .i64 v10)] h =
((if (decide (v10 < v9)) = true then
(if 0 ≤ v10 ∧ v10 < ((v8n : Nat) : Int) then
((v8 : Option Addr)).bind fun a1 =>
((cell h a1.block (a1.off + Int.toNat v10 * 6)).bind (getI .i64)).bind fun n2 =>
((cell h a1.block ((a1.off + Int.toNat v10 * 6) + 1)).bind (getI .i64)).bind fun n3 =>
((cell h a1.block (((a1.off + Int.toNat v10 * 6) + 1) + 1)).bind (getI .i64)).bind fun n4 =>
((cell h a1.block ((((a1.off + Int.toNat v10 * 6) + 1) + 1) + 1)).bind (getI .i64)).bind fun n5 =>
((cell h a1.block (((((a1.off + Int.toNat v10 * 6) + 1) + 1) + 1) + 1)).bind getStr).bind fun s6 =>
((cell h a1.block ((((((a1.off + Int.toNat v10 * 6) + 1) + 1) + 1) + 1) + 1)).bind getS).bind fun l7 =>
(some (h ++ [some ⟨[(.int .i64 0), (.int .i64 0), (.int .i64 0), (.int .i64 0), (.string ⟨#[]⟩), (.slice none 0 0)], 29⟩])).bind fun h8 =>
(wr base h8 (List.length h) 0 [(.int .i64 n2), (.int .i64 n3), (.int .i64 n4), (.int .i64 n5), (.string s6), (.slice l7.1 l7.2 l7.2)]).bind fun h9 =>
((cell h9 (List.length h) 0).bind (getI .i64)).bind fun n10 =>
((cell h9 (List.length h) 1).bind (getI .i64)).bind fun n11 =>
((cell h9 (List.length h) 2).bind (getI .i64)).bind fun n12 =>
((cell h9 (List.length h) 3).bind (getI .i64)).bind fun n13 =>
((cell h9 (List.length h) 4).bind getStr).bind fun s14 =>
((cell h9 (List.length h) 5).bind getS).bind fun l15 =>
((run (Et base) 25 [(.agg #[(.int .i64 n10), (.int .i64 n11), (.int .i64 n12), (.int .i64 n13), (.string s14), (.slice l15.1 l15.2 l15.2)])] h9).bind fun r17 =>
((some r17.1).bind getB).bind fun b18 =>
some ((.bool b18), r17.2)).bind fun r16 =>
((some r16.1).bind getB).bind fun b19 =>
(if b19 = true then
((cell r16.2 (List.length h) 2).bind (getI .i64)).bind fun n20 =>
((cell r16.2 (List.length h) 3).bind (getI .i64)).bind fun n21 =>
((cell r16.2 (List.length h) 4).bind getStr).bind fun s22 =>
((cell r16.2 (List.length h) 5).bind getS).bind fun l23 =>
(run (Et base) 46 [(.agg #[(.int .i64 n20), (.int .i64 n21), (.string s22), (.slice l23.1 l23.2 l23.2)])] r16.2).bind fun r24 =>
((some r24.1).bind (getAgg 4)).bind fun l25 =>
((l25[0]?).bind (getI .i64)).bind fun n26 =>
((l25[1]?).bind (getI .i64)).bind fun n27 =>
((l25[2]?).bind getStr).bind fun s28 =>
((l25[3]?).bind getS).bind fun l29 =>
(wr base r24.2 (List.length h) 2 [(.int .i64 n26), (.int .i64 n27), (.string s28), (.slice l29.1 l29.2 l29.2)]).bind fun h30 =>
((cell h30 (List.length h) 0).bind (getI .i64)).bind fun n31 =>
((cell h30 (List.length h) 1).bind (getI .i64)).bind fun n32 =>
((cell h30 (List.length h) 2).bind (getI .i64)).bind fun n33 =>
((cell h30 (List.length h) 3).bind (getI .i64)).bind fun n34 =>
((cell h30 (List.length h) 4).bind getStr).bind fun s35 =>
((cell h30 (List.length h) 5).bind getS).bind fun l36 =>
(some (h30 ++ [some ⟨[(.int .i64 n31), (.int .i64 n32), (.int .i64 n33), (.int .i64 n34), (.string s35), (.slice l36.1 l36.2 l36.2)], 29⟩])).bind fun h37 =>
(app base h37 29 6 72 v5 v5n (rawAt h37 (some ⟨(List.length h30), 0, none⟩) (1 * 6)) 1).bind fun p38 =>
((some p38.1).bind getS).bind fun l39 =>
some (0, [some (.func (.func 25) #[] #[]), some (.slice l39.1 l39.2 l39.2), some (.slice v8 v8n v8n), some (.int .i64 v9), some (.int .i64 (IntKind.wrap .i64 (v10 + (1 : Int))))], p38.2)
else
some (0, [some (.func (.func 25) #[] #[]), some (.slice v5 v5n v5n), some (.slice v8 v8n v8n), some (.int .i64 v9), some (.int .i64 (IntKind.wrap .i64 (v10 + (1 : Int))))], r16.2))
else none)
else
some (2, [some (.slice v5 v5n v5n)], h)) : Option (Nat × Slots × AH)) := by kernel_rfl
theorem f24_eq_any (base : Nat) (v0 : Option Addr) (v0n : Nat) (h : AH) : exFun (Et base) (run (Et base)) loopL a24 Try.f24 [(.slice v0 v0n v0n), (.func (.func 25) #[] #[])] h =
((loopL (B24_0 base) [some (.func (.func 25) #[] #[]), some (.slice none 0 0), some (.slice v0 v0n v0n), some (.int .i64 ((v0n : Nat) : Int)), some (.int .i64 (0 : Int))] h).bind fun q1 =>
(if q1.1 = 2 then
((sget q1.2.1 0).bind getS).bind fun l2 =>
some ((.slice l2.1 l2.2 l2.2), q1.2.2)
else
none) : Option (Value × AH)) := by kernel_rfl
theorem r24_any {base : Nat} {v0 : Option Addr} {v0n : Nat} {h : AH} {r : Value × AH} (hx :
((loopL (B24_0 base) [some (.func (.func 25) #[] #[]), some (.slice none 0 0), some (.slice v0 v0n v0n), some (.int .i64 ((v0n : Nat) : Int)), some (.int .i64 (0 : Int))] h).bind fun q1 =>
(if q1.1 = 2 then
((sget q1.2.1 0).bind getS).bind fun l2 =>
some ((.slice l2.1 l2.2 l2.2), q1.2.2)
else
none)) = some r) : run (Et base) 24 [(.slice v0 v0n v0n), (.func (.func 25) #[] #[])] h = some r := run_i Try.func24 (by kernel_rfl) ((f24_eq_any base v0 v0n h).trans hx)
/-! impl.anyTimer (gates 0) -/
theorem f25_eq (base : Nat) (v0_0 : Int) (v0_1 : Int) (v0_2 : Int) (v0_3 : Int) (v0_4 : ByteArray) (v0_5 : Option Addr) (v0_5n : Nat) (h : AH) : exFun (Et base) (run (Et base)) loopL a25 Try.f25 [(.agg #[(.int .i64 v0_0), (.int .i64 v0_1), (.int .i64 v0_2), (.int .i64 v0_3), (.string v0_4), (.slice v0_5 v0_5n v0_5n)])] h =
((some (h ++ [some ⟨[(.int .i64 v0_0), (.int .i64 v0_1), (.int .i64 v0_2), (.int .i64 v0_3), (.string v0_4), (.slice v0_5 v0_5n v0_5n)], 29⟩])).bind fun h1 =>
some ((.bool true), h1) : Option (Value × AH)) := by kernel_rfl
theorem r25 {base : Nat} {v0_0 : Int} {v0_1 : Int} {v0_2 : Int} {v0_3 : Int} {v0_4 : ByteArray} {v0_5 : Option Addr} {v0_5n : Nat} {h : AH} {r : Value × AH} (hx :
((some (h ++ [some ⟨[(.int .i64 v0_0), (.int .i64 v0_1), (.int .i64 v0_2), (.int .i64 v0_3), (.string v0_4), (.slice v0_5 v0_5n v0_5n)], 29⟩])).bind fun h1 =>
some ((.bool true), h1)) = some r) : run (Et base) 25 [(.agg #[(.int .i64 v0_0), (.int .i64 v0_1), (.int .i64 v0_2), (.int .i64 v0_3), (.string v0_4), (.slice v0_5 v0_5n v0_5n)])] h = some r := run_i Try.func25 (by kernel_rfl) ((f25_eq base v0_0 v0_1 v0_2 v0_3 v0_4 v0_5 v0_5n h).trans hx)
/-! spec.l14Copy (gates 0) -/
noncomputable def B26_0 (base : Nat) : Body := fun l h => lay s26_0 l fun s => exCode (Et base) (run (Et base)) loopL a26_0 (subC [1, 1, 0, 1, 0, 0] (bodyC Try.f26)) s h (keepK s26_0 e26_0)
theorem B26_0_eq (base : Nat) (v0 : Option Addr) (v0n : Nat) (v3 : Option Addr) (v3n : Nat) (v4 : Int) (h : AH) : B26_0 base [some (.slice v0 v0n v0n), some (.slice v3 v3n v3n), some (.int .i64 v4)] h =
((if (decide (v4 < ((v0n : Nat) : Int))) = true then
(if 0 ≤ v4 ∧ v4 < ((v0n : Nat) : Int) then
((v0 : Option Addr)).bind fun a1 =>
((cell h a1.block (a1.off + Int.toNat v4 * 6)).bind (getI .i64)).bind fun n2 =>
((cell h a1.block ((a1.off + Int.toNat v4 * 6) + 1)).bind (getI .i64)).bind fun n3 =>
((cell h a1.block (((a1.off + Int.toNat v4 * 6) + 1) + 1)).bind (getI .i64)).bind fun n4 =>
((cell h a1.block ((((a1.off + Int.toNat v4 * 6) + 1) + 1) + 1)).bind (getI .i64)).bind fun n5 =>
((cell h a1.block (((((a1.off + Int.toNat v4 * 6) + 1) + 1) + 1) + 1)).bind getStr).bind fun s6 =>
((cell h a1.block ((((((a1.off + Int.toNat v4 * 6) + 1) + 1) + 1) + 1) + 1)).bind getS).bind fun l7 =>
(some (h ++ [some ⟨[(.int .i64 0), (.int .i64 0), (.int .i64 0), (.int .i64 0), (.string ⟨#[]⟩), (.slice none 0 0)], 29⟩])).bind fun h8 =>
(wr base h8 (List.length h) 0 [(.int .i64 n2), (.int .i64 n3), (.int .i64 n4), (.int .i64 n5), (.string s6), (.slice l7.1 l7.2 l7.2)]).bind fun h9 =>
((cell h9 (List.length h) 2).bind (getI .i64)).bind fun n10 =>
((cell h9 (List.length h) 3).bind (getI .i64)).bind fun n11 =>
((cell h9 (List.length h) 4).bind getStr).bind fun s12 =>
((cell h9 (List.length h) 5).bind getS).bind fun l13 =>
(run (Et base) 29 [(.agg #[(.int .i64 n10), (.int .i64 n11), (.string s12), (.slice l13.1 l13.2 l13.2)])] h9).bind fun r14 =>
((some r14.1).bind (getAgg 4)).bind fun l15 =>
((l15[0]?).bind (getI .i64)).bind fun n16 =>
((l15[1]?).bind (getI .i64)).bind fun n17 =>
((l15[2]?).bind getStr).bind fun s18 =>
((l15[3]?).bind getS).bind fun l19 =>
(wr base r14.2 (List.length h) 2 [(.int .i64 n16), (.int .i64 n17), (.string s18), (.slice l19.1 l19.2 l19.2)]).bind fun h20 =>
((cell h20 (List.length h) 0).bind (getI .i64)).bind fun n21 =>
((cell h20 (List.length h) 1).bind (getI .i64)).bind fun n22 =>
((cell h20 (List.length h) 2).bind (getI .i64)).bind fun n23 =>
((cell h20 (List.length h) 3).bind (getI .i64)).bind fun n24 =>
((cell h20 (List.length h) 4).bind getStr).bind fun s25 =>
((cell h20 (List.length h) 5).bind getS).bind fun l26 =>
(some (h20 ++ [some ⟨[(.int .i64 n21), (.int .i64 n22), (.int .i64 n23), (.int .i64 n24), (.string s25), (.slice l26.1 l26.2 l26.2)], 29⟩])).bind fun h27 =>
(app base h27 29 6 72 v3 v3n (rawAt h27 (some ⟨(List.length h20), 0, none⟩) (1 * 6)) 1).bind fun p28 =>
((some p28.1).bind getS).bind fun l29 =>
some (0, [some (.slice v0 v0n v0n), some (.slice l29.1 l29.2 l29.2), some (.int .i64 (IntKind.wrap .i64 (v4 + (1 : Int))))], p28.2)
else none)
else
some (2, [some (.slice v3 v3n v3n)], h)) : Option (Nat × Slots × AH)) := by kernel_rfl
theorem f26_eq (base : Nat) (v0 : Option Addr) (v0n : Nat) (h : AH) : exFun (Et base) (run (Et base)) loopL a26 Try.f26 [(.slice v0 v0n v0n)] h =
((some (h ++ [some ⟨[], 29⟩])).bind fun h1 =>
(loopL (B26_0 base) [some (.slice v0 v0n v0n), some (.slice (some ⟨(List.length h), 0, none⟩) 0 0), some (.int .i64 (0 : Int))] h1).bind fun q2 =>
(if q2.1 = 2 then
((sget q2.2.1 0).bind getS).bind fun l3 =>
some ((.slice l3.1 l3.2 l3.2), q2.2.2)
else
none) : Option (Value × AH)) := by kernel_rfl
theorem r26 {base : Nat} {v0 : Option Addr} {v0n : Nat} {h : AH} {r : Value × AH} (hx :
((some (h ++ [some ⟨[], 29⟩])).bind fun h1 =>
(loopL (B26_0 base) [some (.slice v0 v0n v0n), some (.slice (some ⟨(List.length h), 0, none⟩) 0 0), some (.int .i64 (0 : Int))] h1).bind fun q2 =>
(if q2.1 = 2 then
((sget q2.2.1 0).bind getS).bind fun l3 =>
some ((.slice l3.1 l3.2 l3.2), q2.2.2)
else
none)) = some r) : run (Et base) 26 [(.slice v0 v0n v0n)] h = some r := run_i Try.func26 (by kernel_rfl) ((f26_eq base v0 v0n h).trans hx)
/-! spec.TimersOk (gates 0) -/
noncomputable def B27_0 (base : Nat) : Body := fun l h => lay s27_0 l fun s => exCode (Et base) (run (Et base)) loopL a27_0 (subC [1, 0, 1, 0, 0] (bodyC Try.f27)) s h (keepK s27_0 e27_0)
theorem B27_0_eq (base : Nat) (v0 : Option Addr) (v0n : Nat) (v3 : Int) (h : AH) : B27_0 base [some (.slice v0 v0n v0n), some (.int .i64 v3)] h =
((if (decide (v3 < ((v0n : Nat) : Int))) = true then
((if 0 ≤ v3 ∧ v3 < ((v0n : Nat) : Int) then
((v0 : Option Addr)).bind fun a2 =>
((cell h a2.block (a2.off + Int.toNat v3 * 6)).bind (getI .i64)).bind fun n3 =>
((cell h a2.block ((a2.off + Int.toNat v3 * 6) + 1)).bind (getI .i64)).bind fun n4 =>
((cell h a2.block (((a2.off + Int.toNat v3 * 6) + 1) + 1)).bind (getI .i64)).bind fun n5 =>
((cell h a2.block ((((a2.off + Int.toNat v3 * 6) + 1) + 1) + 1)).bind (getI .i64)).bind fun n6 =>
((cell h a2.block (((((a2.off + Int.toNat v3 * 6) + 1) + 1) + 1) + 1)).bind getStr).bind fun s7 =>
((cell h a2.block ((((((a2.off + Int.toNat v3 * 6) + 1) + 1) + 1) + 1) + 1)).bind getS).bind fun l8 =>
(run (Et base) 28 [(.agg #[(.int .i64 n3), (.int .i64 n4), (.int .i64 n5), (.int .i64 n6), (.string s7), (.slice l8.1 l8.2 l8.2)])] h).bind fun r9 =>
((some r9.1).bind getB).bind fun b10 =>
(if (!b10) = true then
some (.inl ([some (.slice v0 v0n v0n), some (.int .i64 v3), some (.bool true)], r9.2))
else
(if (decide (v3 > (0 : Int))) = true then
(if 0 ≤ (IntKind.wrap .i64 (v3 - (1 : Int))) ∧ (IntKind.wrap .i64 (v3 - (1 : Int))) < ((v0n : Nat) : Int) then
((v0 : Option Addr)).bind fun a11 =>
((cell r9.2 a11.block ((a11.off + Int.toNat (IntKind.wrap .i64 (v3 - (1 : Int))) * 6) + 0)).bind (getI .i64)).bind fun n12 =>
(if 0 ≤ v3 ∧ v3 < ((v0n : Nat) : Int) then
((v0 : Option Addr)).bind fun a13 =>
((cell r9.2 a13.block ((a13.off + Int.toNat v3 * 6) + 0)).bind (getI .i64)).bind fun n14 =>
some (.inl ([some (.slice v0 v0n v0n), some (.int .i64 v3), some (.bool (decide (n12 > n14)))], r9.2))
else none)
else none)
else
some (.inl ([some (.slice v0 v0n v0n), some (.int .i64 v3), some (.bool false)], r9.2))))
else none)).bind fun j1 => joinK j1 fun j1 =>
((sget j1.1 0).bind getS).bind fun l15 =>
((sget (j1.1.tail) 0).bind (getI .i64)).bind fun n16 =>
((sget (j1.1.tail.tail) 0).bind getB).bind fun b17 =>
(if b17 = true then
some (1, [some (.bool false)], j1.2)
else
some (0, [some (.slice l15.1 l15.2 l15.2), some (.int .i64 (IntKind.wrap .i64 (n16 + (1 : Int))))], j1.2))
else
some (2, [some (.slice v0 v0n v0n)], h)) : Option (Nat × Slots × AH)) := by kernel_rfl
theorem f27_eq (base : Nat) (v0 : Option Addr) (v0n : Nat) (h : AH) : exFun (Et base) (run (Et base)) loopL a27 Try.f27 [(.slice v0 v0n v0n)] h =
((loopL (B27_0 base) [some (.slice v0 v0n v0n), some (.int .i64 (0 : Int))] h).bind fun q1 =>
(if q1.1 = 1 then
((sget q1.2.1 0).bind getB).bind fun b2 =>
some ((.bool b2), q1.2.2)
else
(if q1.1 = 2 then
((sget q1.2.1 0).bind getS).bind fun l3 =>
some ((.bool (decide (((l3.2 : Nat) : Int) ≤ (50 : Int)))), q1.2.2)
else
none)) : Option (Value × AH)) := by kernel_rfl
theorem r27 {base : Nat} {v0 : Option Addr} {v0n : Nat} {h : AH} {r : Value × AH} (hx :
((loopL (B27_0 base) [some (.slice v0 v0n v0n), some (.int .i64 (0 : Int))] h).bind fun q1 =>
(if q1.1 = 1 then
((sget q1.2.1 0).bind getB).bind fun b2 =>
some ((.bool b2), q1.2.2)
else
(if q1.1 = 2 then
((sget q1.2.1 0).bind getS).bind fun l3 =>
some ((.bool (decide (((l3.2 : Nat) : Int) ≤ (50 : Int)))), q1.2.2)
else
none))) = some r) : run (Et base) 27 [(.slice v0 v0n v0n)] h = some r := run_i Try.func27 (by kernel_rfl) ((f27_eq base v0 v0n h).trans hx)
/-! spec.l14Timer (gates 0) -/
theorem f28_eq (base : Nat) (v0_0 : Int) (v0_1 : Int) (v0_2 : Int) (v0_3 : Int) (v0_4 : ByteArray) (v0_5 : Option Addr) (v0_5n : Nat) (h : AH) : exFun (Et base) (run (Et base)) loopL a28 Try.f28 [(.agg #[(.int .i64 v0_0), (.int .i64 v0_1), (.int .i64 v0_2), (.int .i64 v0_3), (.string v0_4), (.slice v0_5 v0_5n v0_5n)])] h =
((some (h ++ [some ⟨[(.int .i64 v0_0), (.int .i64 v0_1), (.int .i64 v0_2), (.int .i64 v0_3), (.string v0_4), (.slice v0_5 v0_5n v0_5n)], 29⟩])).bind fun h1 =>
((cell h1 (List.length h) 0).bind (getI .i64)).bind fun n2 =>
(run (Et base) 47 [(.int .i64 n2), (.int .i64 (0 : Int)), (.int .i64 (1000000000 : Int))] h1).bind fun r3 =>
((some r3.1).bind getB).bind fun b4 =>
(if b4 = true then
((cell r3.2 (List.length h) 1).bind (getI .i64)).bind fun n5 =>
(run (Et base) 47 [(.int .i64 n5), (.int .i64 (1 : Int)), (.int .i64 (99999 : Int))] r3.2).bind fun r6 =>
((some r6.1).bind getB).bind fun b7 =>
(if b7 = true then
((cell r6.2 (List.length h) 2).bind (getI .i64)).bind fun n8 =>
((cell r6.2 (List.length h) 3).bind (getI .i64)).bind fun n9 =>
((cell r6.2 (List.length h) 4).bind getStr).bind fun s10 =>
((cell r6.2 (List.length h) 5).bind getS).bind fun l11 =>
(run (Et base) 48 [(.agg #[(.int .i64 n8), (.int .i64 n9), (.string s10), (.slice l11.1 l11.2 l11.2)])] r6.2).bind fun r12 =>
((some r12.1).bind getB).bind fun b13 =>
some ((.bool b13), r12.2)
else
some ((.bool false), r6.2))
else
some ((.bool false), r3.2)) : Option (Value × AH)) := by kernel_rfl
theorem r28 {base : Nat} {v0_0 : Int} {v0_1 : Int} {v0_2 : Int} {v0_3 : Int} {v0_4 : ByteArray} {v0_5 : Option Addr} {v0_5n : Nat} {h : AH} {r : Value × AH} (hx :
((some (h ++ [some ⟨[(.int .i64 v0_0), (.int .i64 v0_1), (.int .i64 v0_2), (.int .i64 v0_3), (.string v0_4), (.slice v0_5 v0_5n v0_5n)], 29⟩])).bind fun h1 =>
((cell h1 (List.length h) 0).bind (getI .i64)).bind fun n2 =>
(run (Et base) 47 [(.int .i64 n2), (.int .i64 (0 : Int)), (.int .i64 (1000000000 : Int))] h1).bind fun r3 =>
((some r3.1).bind getB).bind fun b4 =>
(if b4 = true then
((cell r3.2 (List.length h) 1).bind (getI .i64)).bind fun n5 =>
(run (Et base) 47 [(.int .i64 n5), (.int .i64 (1 : Int)), (.int .i64 (99999 : Int))] r3.2).bind fun r6 =>
((some r6.1).bind getB).bind fun b7 =>
(if b7 = true then
((cell r6.2 (List.length h) 2).bind (getI .i64)).bind fun n8 =>
((cell r6.2 (List.length h) 3).bind (getI .i64)).bind fun n9 =>
((cell r6.2 (List.length h) 4).bind getStr).bind fun s10 =>
((cell r6.2 (List.length h) 5).bind getS).bind fun l11 =>
(run (Et base) 48 [(.agg #[(.int .i64 n8), (.int .i64 n9), (.string s10), (.slice l11.1 l11.2 l11.2)])] r6.2).bind fun r12 =>
((some r12.1).bind getB).bind fun b13 =>
some ((.bool b13), r12.2)
else
some ((.bool false), r6.2))
else
some ((.bool false), r3.2))) = some r) : run (Et base) 28 [(.agg #[(.int .i64 v0_0), (.int .i64 v0_1), (.int .i64 v0_2), (.int .i64 v0_3), (.string v0_4), (.slice v0_5 v0_5n v0_5n)])] h = some r := run_i Try.func28 (by kernel_rfl) ((f28_eq base v0_0 v0_1 v0_2 v0_3 v0_4 v0_5 v0_5n h).trans hx)
/-! spec.l1Copy (gates 0) -/
noncomputable def B29_0 (base : Nat) : Body := fun l h => lay s29_0 l fun s => exCode (Et base) (run (Et base)) loopL a29_0 (subC [1, 1, 1, 0, 1, 0, 0] (bodyC Try.f29)) s h (keepK s29_0 e29_0)
theorem B29_0_eq (base : Nat) (v1 : Addr) (v2 : Addr) (v3 : Addr) (v4 : Int) (h : AH) : B29_0 base [some (.pointer (some v1)), some (.pointer (some v2)), some (.pointer (some v3)), some (.int .i64 v4)] h =
(((cell h v1.block (v1.off + 3)).bind getS).bind fun l1 =>
(if (decide (v4 < ((l1.2 : Nat) : Int))) = true then
((cell h v3.block (v3.off + 3)).bind getS).bind fun l2 =>
((cell h v1.block (v1.off + 3)).bind getS).bind fun l3 =>
(if 0 ≤ v4 ∧ v4 < ((l3.2 : Nat) : Int) then
((l3.1 : Option Addr)).bind fun a4 =>
((cell h a4.block (a4.off + Int.toNat v4 * 4)).bind (getI .i64)).bind fun n5 =>
((cell h a4.block ((a4.off + Int.toNat v4 * 4) + 1)).bind (getI .i64)).bind fun n6 =>
((cell h a4.block (((a4.off + Int.toNat v4 * 4) + 1) + 1)).bind getStr).bind fun s7 =>
((cell h a4.block ((((a4.off + Int.toNat v4 * 4) + 1) + 1) + 1)).bind getS).bind fun l8 =>
(run (Et base) 29 [(.agg #[(.int .i64 n5), (.int .i64 n6), (.string s7), (.slice l8.1 l8.2 l8.2)])] h).bind fun r9 =>
((some r9.1).bind (getAgg 4)).bind fun l10 =>
((l10[0]?).bind (getI .i64)).bind fun n11 =>
((l10[1]?).bind (getI .i64)).bind fun n12 =>
((l10[2]?).bind getStr).bind fun s13 =>
((l10[3]?).bind getS).bind fun l14 =>
(gate (sameA h r9.2 (some ⟨v3.block, (v3.off + 3), none⟩) 1)
((gate (neA (some ⟨v3.block, (v3.off + 3), none⟩) (List.length r9.2))
((some (r9.2 ++ [some ⟨[(.int .i64 n11), (.int .i64 n12), (.string s13), (.slice l14.1 l14.2 l14.2)], 27⟩])).bind fun h15 =>
(app base h15 27 4 56 l2.1 l2.2 (rawAt h15 (some ⟨(List.length r9.2), 0, none⟩) (1 * 4)) 1).bind fun p16 =>
((some p16.1).bind getS).bind fun l17 =>
(wr base p16.2 v3.block (v3.off + 3) [(.slice l17.1 l17.2 l17.2)]).bind fun h18 =>
some (0, [some (.pointer (some v1)), some (.pointer (some v2)), some (.pointer (some v3)), some (.int .i64 (IntKind.wrap .i64 (v4 + (1 : Int))))], h18)))))
else none)
else
some (2, [some (.pointer (some v2)), some (.pointer (some v3))], h)) : Option (Nat × Slots × AH)) := by kernel_rfl
theorem f29_eq (base : Nat) (v0_0 : Int) (v0_1 : Int) (v0_2 : ByteArray) (v0_3 : Option Addr) (v0_3n : Nat) (h : AH) : exFun (Et base) (run (Et base)) loopL a29 Try.f29 [(.agg #[(.int .i64 v0_0), (.int .i64 v0_1), (.string v0_2), (.slice v0_3 v0_3n v0_3n)])] h =
((some (h ++ [some ⟨[(.int .i64 v0_0), (.int .i64 v0_1), (.string v0_2), (.slice v0_3 v0_3n v0_3n)], 27⟩])).bind fun h1 =>
(some (h1 ++ [some ⟨[(.int .i64 0), (.int .i64 0), (.string ⟨#[]⟩), (.slice none 0 0)], 27⟩])).bind fun h2 =>
((cell h2 (List.length h) 0).bind (getI .i64)).bind fun n3 =>
((cell h2 (List.length h) 1).bind (getI .i64)).bind fun n4 =>
((cell h2 (List.length h) 2).bind getStr).bind fun s5 =>
((cell h2 (List.length h) 3).bind getS).bind fun l6 =>
(some (h2 ++ [some ⟨[(.int .i64 0), (.int .i64 0), (.string ⟨#[]⟩), (.slice none 0 0)], 27⟩])).bind fun h7 =>
(wr base h7 (List.length h2) 0 [(.int .i64 n3), (.int .i64 n4), (.string s5), (.slice l6.1 l6.2 l6.2)]).bind fun h8 =>
(some (h8 ++ [some ⟨[], 27⟩])).bind fun h9 =>
(wr base h9 (List.length h2) 3 [(.slice (some ⟨(List.length h8), 0, none⟩) 0 0)]).bind fun h10 =>
(loopL (B29_0 base) [some (.pointer (some ⟨(List.length h), 0, none⟩)), some (.pointer (some ⟨(List.length h1), 0, none⟩)), some (.pointer (some ⟨(List.length h2), 0, none⟩)), some (.int .i64 (0 : Int))] h10).bind fun q11 =>
(if q11.1 = 2 then
((sget q11.2.1 0).bind getA).bind fun d12 =>
((sget (q11.2.1.tail) 0).bind getA).bind fun d13 =>
((cell q11.2.2 d13.block d13.off).bind (getI .i64)).bind fun n14 =>
((cell q11.2.2 d13.block (d13.off + 1)).bind (getI .i64)).bind fun n15 =>
((cell q11.2.2 d13.block ((d13.off + 1) + 1)).bind getStr).bind fun s16 =>
((cell q11.2.2 d13.block (((d13.off + 1) + 1) + 1)).bind getS).bind fun l17 =>
(wr base q11.2.2 d12.block d12.off [(.int .i64 n14), (.int .i64 n15), (.string s16), (.slice l17.1 l17.2 l17.2)]).bind fun h18 =>
((cell h18 d12.block d12.off).bind (getI .i64)).bind fun n19 =>
((cell h18 d12.block (d12.off + 1)).bind (getI .i64)).bind fun n20 =>
((cell h18 d12.block ((d12.off + 1) + 1)).bind getStr).bind fun s21 =>
((cell h18 d12.block (((d12.off + 1) + 1) + 1)).bind getS).bind fun l22 =>
some ((.agg #[(.int .i64 n19), (.int .i64 n20), (.string s21), (.slice l22.1 l22.2 l22.2)]), h18)
else
none) : Option (Value × AH)) := by kernel_rfl
theorem r29 {base : Nat} {v0_0 : Int} {v0_1 : Int} {v0_2 : ByteArray} {v0_3 : Option Addr} {v0_3n : Nat} {h : AH} {r : Value × AH} (hx :
((some (h ++ [some ⟨[(.int .i64 v0_0), (.int .i64 v0_1), (.string v0_2), (.slice v0_3 v0_3n v0_3n)], 27⟩])).bind fun h1 =>
(some (h1 ++ [some ⟨[(.int .i64 0), (.int .i64 0), (.string ⟨#[]⟩), (.slice none 0 0)], 27⟩])).bind fun h2 =>
((cell h2 (List.length h) 0).bind (getI .i64)).bind fun n3 =>
((cell h2 (List.length h) 1).bind (getI .i64)).bind fun n4 =>
((cell h2 (List.length h) 2).bind getStr).bind fun s5 =>
((cell h2 (List.length h) 3).bind getS).bind fun l6 =>
(some (h2 ++ [some ⟨[(.int .i64 0), (.int .i64 0), (.string ⟨#[]⟩), (.slice none 0 0)], 27⟩])).bind fun h7 =>
(wr base h7 (List.length h2) 0 [(.int .i64 n3), (.int .i64 n4), (.string s5), (.slice l6.1 l6.2 l6.2)]).bind fun h8 =>
(some (h8 ++ [some ⟨[], 27⟩])).bind fun h9 =>
(wr base h9 (List.length h2) 3 [(.slice (some ⟨(List.length h8), 0, none⟩) 0 0)]).bind fun h10 =>
(loopL (B29_0 base) [some (.pointer (some ⟨(List.length h), 0, none⟩)), some (.pointer (some ⟨(List.length h1), 0, none⟩)), some (.pointer (some ⟨(List.length h2), 0, none⟩)), some (.int .i64 (0 : Int))] h10).bind fun q11 =>
(if q11.1 = 2 then
((sget q11.2.1 0).bind getA).bind fun d12 =>
((sget (q11.2.1.tail) 0).bind getA).bind fun d13 =>
((cell q11.2.2 d13.block d13.off).bind (getI .i64)).bind fun n14 =>
((cell q11.2.2 d13.block (d13.off + 1)).bind (getI .i64)).bind fun n15 =>
((cell q11.2.2 d13.block ((d13.off + 1) + 1)).bind getStr).bind fun s16 =>
((cell q11.2.2 d13.block (((d13.off + 1) + 1) + 1)).bind getS).bind fun l17 =>
(wr base q11.2.2 d12.block d12.off [(.int .i64 n14), (.int .i64 n15), (.string s16), (.slice l17.1 l17.2 l17.2)]).bind fun h18 =>
((cell h18 d12.block d12.off).bind (getI .i64)).bind fun n19 =>
((cell h18 d12.block (d12.off + 1)).bind (getI .i64)).bind fun n20 =>
((cell h18 d12.block ((d12.off + 1) + 1)).bind getStr).bind fun s21 =>
((cell h18 d12.block (((d12.off + 1) + 1) + 1)).bind getS).bind fun l22 =>
some ((.agg #[(.int .i64 n19), (.int .i64 n20), (.string s21), (.slice l22.1 l22.2 l22.2)]), h18)
else
none)) = some r) : run (Et base) 29 [(.agg #[(.int .i64 v0_0), (.int .i64 v0_1), (.string v0_2), (.slice v0_3 v0_3n v0_3n)])] h = some r := run_i Try.func29 (by kernel_rfl) ((f29_eq base v0_0 v0_1 v0_2 v0_3 v0_3n h).trans hx)
/-! laws.szTerm (gates 0) -/
theorem f30_eq (base : Nat) (v0_0 : Int) (v0_1 : Int) (v0_2 : ByteArray) (v0_3 : Option Addr) (v0_3n : Nat) (v1 : Int) (h : AH) : exFun (Et base) (run (Et base)) loopL a30 Try.f30 [(.agg #[(.int .i64 v0_0), (.int .i64 v0_1), (.string v0_2), (.slice v0_3 v0_3n v0_3n)]), (.int .i64 v1)] h =
((some (h ++ [some ⟨[(.int .i64 v0_0), (.int .i64 v0_1), (.string v0_2), (.slice v0_3 v0_3n v0_3n)], 39⟩])).bind fun h1 =>
((cell h1 (List.length h) 2).bind getStr).bind fun s2 =>
(if (decide ((IntKind.wrap .i64 (v1 - (s2.size : Int))) < (0 : Int))) = true then
some ((.int .i64 (-1 : Int)), h1)
else
((cell h1 (List.length h) 3).bind getS).bind fun l3 =>
(run (Et base) 49 [(.slice l3.1 l3.2 l3.2), (.int .i64 (IntKind.wrap .i64 (v1 - (s2.size : Int))))] h1).bind fun r4 =>
((some r4.1).bind (getI .i64)).bind fun n5 =>
(if (decide (n5 < (0 : Int))) = true then
some ((.int .i64 (-1 : Int)), r4.2)
else
some ((.int .i64 n5), r4.2))) : Option (Value × AH)) := by kernel_rfl
theorem r30 {base : Nat} {v0_0 : Int} {v0_1 : Int} {v0_2 : ByteArray} {v0_3 : Option Addr} {v0_3n : Nat} {v1 : Int} {h : AH} {r : Value × AH} (hx :
((some (h ++ [some ⟨[(.int .i64 v0_0), (.int .i64 v0_1), (.string v0_2), (.slice v0_3 v0_3n v0_3n)], 39⟩])).bind fun h1 =>
((cell h1 (List.length h) 2).bind getStr).bind fun s2 =>
(if (decide ((IntKind.wrap .i64 (v1 - (s2.size : Int))) < (0 : Int))) = true then
some ((.int .i64 (-1 : Int)), h1)
else
((cell h1 (List.length h) 3).bind getS).bind fun l3 =>
(run (Et base) 49 [(.slice l3.1 l3.2 l3.2), (.int .i64 (IntKind.wrap .i64 (v1 - (s2.size : Int))))] h1).bind fun r4 =>
((some r4.1).bind (getI .i64)).bind fun n5 =>
(if (decide (n5 < (0 : Int))) = true then
some ((.int .i64 (-1 : Int)), r4.2)
else
some ((.int .i64 n5), r4.2)))) = some r) : run (Et base) 30 [(.agg #[(.int .i64 v0_0), (.int .i64 v0_1), (.string v0_2), (.slice v0_3 v0_3n v0_3n)]), (.int .i64 v1)] h = some r := run_i Try.func30 (by kernel_rfl) ((f30_eq base v0_0 v0_1 v0_2 v0_3 v0_3n v1 h).trans hx)
/-! laws.toTerm (gates 0) -/
theorem f31_eq (base : Nat) (v0_0 : Int) (v0_1 : Int) (v0_2 : ByteArray) (v0_3 : Option Addr) (v0_3n : Nat) (h : AH) : exFun (Et base) (run (Et base)) loopL a31 Try.f31 [(.agg #[(.int .i64 v0_0), (.int .i64 v0_1), (.string v0_2), (.slice v0_3 v0_3n v0_3n)])] h =
((some (h ++ [some ⟨[(.int .i64 v0_0), (.int .i64 v0_1), (.string v0_2), (.slice v0_3 v0_3n v0_3n)], 39⟩])).bind fun h1 =>
(some (h1 ++ [some ⟨[(.int .i64 0), (.int .i64 0), (.string ⟨#[]⟩), (.slice none 0 0)], 27⟩])).bind fun h2 =>
(some (h2 ++ [some ⟨[(.int .i64 0), (.int .i64 0), (.string ⟨#[]⟩), (.slice none 0 0)], 27⟩])).bind fun h3 =>
((cell h3 (List.length h) 0).bind (getI .i64)).bind fun n4 =>
(wr base h3 (List.length h2) 0 [(.int .i64 n4)]).bind fun h5 =>
((cell h5 (List.length h) 1).bind (getI .i64)).bind fun n6 =>
(wr base h5 (List.length h2) 1 [(.int .i64 n6)]).bind fun h7 =>
((cell h7 (List.length h) 2).bind getStr).bind fun s8 =>
(wr base h7 (List.length h2) 2 [(.string s8)]).bind fun h9 =>
((cell h9 (List.length h) 3).bind getS).bind fun l10 =>
(run (Et base) 50 [(.slice l10.1 l10.2 l10.2)] h9).bind fun r11 =>
((some r11.1).bind getS).bind fun l12 =>
(wr base r11.2 (List.length h2) 3 [(.slice l12.1 l12.2 l12.2)]).bind fun h13 =>
((cell h13 (List.length h2) 0).bind (getI .i64)).bind fun n14 =>
((cell h13 (List.length h2) 1).bind (getI .i64)).bind fun n15 =>
((cell h13 (List.length h2) 2).bind getStr).bind fun s16 =>
((cell h13 (List.length h2) 3).bind getS).bind fun l17 =>
(wr base h13 (List.length h1) 0 [(.int .i64 n14), (.int .i64 n15), (.string s16), (.slice l17.1 l17.2 l17.2)]).bind fun h18 =>
((cell h18 (List.length h1) 0).bind (getI .i64)).bind fun n19 =>
((cell h18 (List.length h1) 1).bind (getI .i64)).bind fun n20 =>
((cell h18 (List.length h1) 2).bind getStr).bind fun s21 =>
((cell h18 (List.length h1) 3).bind getS).bind fun l22 =>
some ((.agg #[(.int .i64 n19), (.int .i64 n20), (.string s21), (.slice l22.1 l22.2 l22.2)]), h18) : Option (Value × AH)) := by kernel_rfl
theorem r31 {base : Nat} {v0_0 : Int} {v0_1 : Int} {v0_2 : ByteArray} {v0_3 : Option Addr} {v0_3n : Nat} {h : AH} {r : Value × AH} (hx :
((some (h ++ [some ⟨[(.int .i64 v0_0), (.int .i64 v0_1), (.string v0_2), (.slice v0_3 v0_3n v0_3n)], 39⟩])).bind fun h1 =>
(some (h1 ++ [some ⟨[(.int .i64 0), (.int .i64 0), (.string ⟨#[]⟩), (.slice none 0 0)], 27⟩])).bind fun h2 =>
(some (h2 ++ [some ⟨[(.int .i64 0), (.int .i64 0), (.string ⟨#[]⟩), (.slice none 0 0)], 27⟩])).bind fun h3 =>
((cell h3 (List.length h) 0).bind (getI .i64)).bind fun n4 =>
(wr base h3 (List.length h2) 0 [(.int .i64 n4)]).bind fun h5 =>
((cell h5 (List.length h) 1).bind (getI .i64)).bind fun n6 =>
(wr base h5 (List.length h2) 1 [(.int .i64 n6)]).bind fun h7 =>
((cell h7 (List.length h) 2).bind getStr).bind fun s8 =>
(wr base h7 (List.length h2) 2 [(.string s8)]).bind fun h9 =>
((cell h9 (List.length h) 3).bind getS).bind fun l10 =>
(run (Et base) 50 [(.slice l10.1 l10.2 l10.2)] h9).bind fun r11 =>
((some r11.1).bind getS).bind fun l12 =>
(wr base r11.2 (List.length h2) 3 [(.slice l12.1 l12.2 l12.2)]).bind fun h13 =>
((cell h13 (List.length h2) 0).bind (getI .i64)).bind fun n14 =>
((cell h13 (List.length h2) 1).bind (getI .i64)).bind fun n15 =>
((cell h13 (List.length h2) 2).bind getStr).bind fun s16 =>
((cell h13 (List.length h2) 3).bind getS).bind fun l17 =>
(wr base h13 (List.length h1) 0 [(.int .i64 n14), (.int .i64 n15), (.string s16), (.slice l17.1 l17.2 l17.2)]).bind fun h18 =>
((cell h18 (List.length h1) 0).bind (getI .i64)).bind fun n19 =>
((cell h18 (List.length h1) 1).bind (getI .i64)).bind fun n20 =>
((cell h18 (List.length h1) 2).bind getStr).bind fun s21 =>
((cell h18 (List.length h1) 3).bind getS).bind fun l22 =>
some ((.agg #[(.int .i64 n19), (.int .i64 n20), (.string s21), (.slice l22.1 l22.2 l22.2)]), h18)) = some r) : run (Et base) 31 [(.agg #[(.int .i64 v0_0), (.int .i64 v0_1), (.string v0_2), (.slice v0_3 v0_3n v0_3n)])] h = some r := run_i Try.func31 (by kernel_rfl) ((f31_eq base v0_0 v0_1 v0_2 v0_3 v0_3n h).trans hx)
/-! laws.eqTerm (gates 0) -/
theorem f32_eq (base : Nat) (v0_0 : Int) (v0_1 : Int) (v0_2 : ByteArray) (v0_3 : Option Addr) (v0_3n : Nat) (v1_0 : Int) (v1_1 : Int) (v1_2 : ByteArray) (v1_3 : Option Addr) (v1_3n : Nat) (h : AH) : exFun (Et base) (run (Et base)) loopL a32 Try.f32 [(.agg #[(.int .i64 v0_0), (.int .i64 v0_1), (.string v0_2), (.slice v0_3 v0_3n v0_3n)]), (.agg #[(.int .i64 v1_0), (.int .i64 v1_1), (.string v1_2), (.slice v1_3 v1_3n v1_3n)])] h =
((some (h ++ [some ⟨[(.int .i64 v0_0), (.int .i64 v0_1), (.string v0_2), (.slice v0_3 v0_3n v0_3n)], 27⟩])).bind fun h1 =>
(some (h1 ++ [some ⟨[(.int .i64 v1_0), (.int .i64 v1_1), (.string v1_2), (.slice v1_3 v1_3n v1_3n)], 27⟩])).bind fun h2 =>
((cell h2 (List.length h) 0).bind (getI .i64)).bind fun n3 =>
((cell h2 (List.length h1) 0).bind (getI .i64)).bind fun n4 =>
(if (n3 != n4) = true then
some ((.bool false), h2)
else
((cell h2 (List.length h) 1).bind (getI .i64)).bind fun n5 =>
((cell h2 (List.length h1) 1).bind (getI .i64)).bind fun n6 =>
(if (n5 != n6) = true then
some ((.bool false), h2)
else
((cell h2 (List.length h) 2).bind getStr).bind fun s7 =>
((cell h2 (List.length h1) 2).bind getStr).bind fun s8 =>
(if (!(s7.toList == s8.toList)) = true then
some ((.bool false), h2)
else
((cell h2 (List.length h) 3).bind getS).bind fun l9 =>
((cell h2 (List.length h1) 3).bind getS).bind fun l10 =>
(run (Et base) 51 [(.slice l9.1 l9.2 l9.2), (.slice l10.1 l10.2 l10.2)] h2).bind fun r11 =>
((some r11.1).bind getB).bind fun b12 =>
(if (!b12) = true then
some ((.bool false), r11.2)
else
some ((.bool true), r11.2))))) : Option (Value × AH)) := by kernel_rfl
theorem r32 {base : Nat} {v0_0 : Int} {v0_1 : Int} {v0_2 : ByteArray} {v0_3 : Option Addr} {v0_3n : Nat} {v1_0 : Int} {v1_1 : Int} {v1_2 : ByteArray} {v1_3 : Option Addr} {v1_3n : Nat} {h : AH} {r : Value × AH} (hx :
((some (h ++ [some ⟨[(.int .i64 v0_0), (.int .i64 v0_1), (.string v0_2), (.slice v0_3 v0_3n v0_3n)], 27⟩])).bind fun h1 =>
(some (h1 ++ [some ⟨[(.int .i64 v1_0), (.int .i64 v1_1), (.string v1_2), (.slice v1_3 v1_3n v1_3n)], 27⟩])).bind fun h2 =>
((cell h2 (List.length h) 0).bind (getI .i64)).bind fun n3 =>
((cell h2 (List.length h1) 0).bind (getI .i64)).bind fun n4 =>
(if (n3 != n4) = true then
some ((.bool false), h2)
else
((cell h2 (List.length h) 1).bind (getI .i64)).bind fun n5 =>
((cell h2 (List.length h1) 1).bind (getI .i64)).bind fun n6 =>
(if (n5 != n6) = true then
some ((.bool false), h2)
else
((cell h2 (List.length h) 2).bind getStr).bind fun s7 =>
((cell h2 (List.length h1) 2).bind getStr).bind fun s8 =>
(if (!(s7.toList == s8.toList)) = true then
some ((.bool false), h2)
else
((cell h2 (List.length h) 3).bind getS).bind fun l9 =>
((cell h2 (List.length h1) 3).bind getS).bind fun l10 =>
(run (Et base) 51 [(.slice l9.1 l9.2 l9.2), (.slice l10.1 l10.2 l10.2)] h2).bind fun r11 =>
((some r11.1).bind getB).bind fun b12 =>
(if (!b12) = true then
some ((.bool false), r11.2)
else
some ((.bool true), r11.2)))))) = some r) : run (Et base) 32 [(.agg #[(.int .i64 v0_0), (.int .i64 v0_1), (.string v0_2), (.slice v0_3 v0_3n v0_3n)]), (.agg #[(.int .i64 v1_0), (.int .i64 v1_1), (.string v1_2), (.slice v1_3 v1_3n v1_3n)])] h = some r := run_i Try.func32 (by kernel_rfl) ((f32_eq base v0_0 v0_1 v0_2 v0_3 v0_3n v1_0 v1_1 v1_2 v1_3 v1_3n h).trans hx)
/-! laws.markText (gates 0) -/
noncomputable def B33_0 (base : Nat) : Body := fun l h => lay s33_0 l fun s => exCode (Et base) (run (Et base)) loopL a33_0 (subC [1, 1, 1, 0, 0, 0] (bodyC Try.f33)) s h (keepK s33_0 e33_0)
theorem B33_0_eq (base : Nat) (v0 : Int) (v3 : ByteArray) (h : AH) : B33_0 base [some (.int .i64 v0), some (.string v3)] h =
((if (decide (v0 > (0 : Int))) = true then
(some (h ++ [some ⟨[(.int .u8 (IntKind.wrap .u8 (IntKind.wrap .i64 ((48 : Int) + (Int.tmod v0 (10 : Int))))))], 5⟩])).bind fun h1 =>
((rawAt h1 (some ⟨(List.length h), 0, none⟩) 1).bind u8s).bind fun z2 =>
(if (bstr z2).size + v3.size ≤ 9223372036854775807 then
some (0, [some (.int .i64 (IntKind.wrap .i64 (Int.tdiv v0 (10 : Int)))), some (.string ((bstr z2) ++ v3))], h1)
else none)
else
some (2, [some (.string v3)], h)) : Option (Nat × Slots × AH)) := by kernel_rfl
theorem f33_eq (base : Nat) (v0 : Int) (h : AH) : exFun (Et base) (run (Et base)) loopL a33 Try.f33 [(.int .i64 v0)] h =
((if (decide (v0 ≤ (0 : Int))) = true then
some ((.string (⟨#[109, 48]⟩ : ByteArray)), h)
else
(loopL (B33_0 base) [some (.int .i64 v0), some (.string (⟨#[]⟩ : ByteArray))] h).bind fun q1 =>
(if q1.1 = 2 then
((sget q1.2.1 0).bind getStr).bind fun s2 =>
(if (⟨#[109]⟩ : ByteArray).size + s2.size ≤ 9223372036854775807 then
some ((.string ((⟨#[109]⟩ : ByteArray) ++ s2)), q1.2.2)
else none)
else
none)) : Option (Value × AH)) := by kernel_rfl
theorem r33 {base : Nat} {v0 : Int} {h : AH} {r : Value × AH} (hx :
((if (decide (v0 ≤ (0 : Int))) = true then
some ((.string (⟨#[109, 48]⟩ : ByteArray)), h)
else
(loopL (B33_0 base) [some (.int .i64 v0), some (.string (⟨#[]⟩ : ByteArray))] h).bind fun q1 =>
(if q1.1 = 2 then
((sget q1.2.1 0).bind getStr).bind fun s2 =>
(if (⟨#[109]⟩ : ByteArray).size + s2.size ≤ 9223372036854775807 then
some ((.string ((⟨#[109]⟩ : ByteArray) ++ s2)), q1.2.2)
else none)
else
none))) = some r) : run (Et base) 33 [(.int .i64 v0)] h = some r := run_i Try.func33 (by kernel_rfl) ((f33_eq base v0 h).trans hx)
end Go.Proofs.Ytomcfongmahjaaa.Am
