/- What each of these functions comes to on the abstract machine, one equation a function and one a loop.
Conditions: none. -/
import Derived.Test.YtnmjhhipbfngkaaTb
set_option linter.unusedVariables false
namespace Go.Proofs.Ytnmjhhipbfngkaa.Am
open Go Go.RowKit
/-! spec.PutCode (gates 0) -/
noncomputable def B21_0 (base : Nat) : Body := fun l h => lay s21_0 l fun s => exCode (Et base) (run (Et base)) loopL a21_0 (subC [1, 1, 1, 0, 1, 0, 0] (bodyC Try.f21)) s h (keepK s21_0 e21_0)
theorem B21_0_eq (base : Nat) (v0 : Option Addr) (v0n : Nat) (v3 : Option Addr) (v3n : Nat) (v4 : Int) (h : AH) : B21_0 base [some (.slice v0 v0n v0n), some (.slice v3 v3n v3n), some (.int .i64 v4)] h =
((if (decide (v4 < ((v0n : Nat) : Int))) = true then
(if 0 ≤ v4 ∧ v4 < ((v0n : Nat) : Int) then
((v0 : Option Addr)).bind fun a1 =>
((cell h a1.block (a1.off + Int.toNat v4 * 6)).bind (getI .i64)).bind fun n2 =>
((cell h a1.block ((a1.off + Int.toNat v4 * 6) + 1)).bind (getI .i64)).bind fun n3 =>
((cell h a1.block (((a1.off + Int.toNat v4 * 6) + 1) + 1)).bind (getI .i64)).bind fun n4 =>
((cell h a1.block ((((a1.off + Int.toNat v4 * 6) + 1) + 1) + 1)).bind (getI .i64)).bind fun n5 =>
((cell h a1.block (((((a1.off + Int.toNat v4 * 6) + 1) + 1) + 1) + 1)).bind (getI .i64)).bind fun n6 =>
((cell h a1.block ((((((a1.off + Int.toNat v4 * 6) + 1) + 1) + 1) + 1) + 1)).bind getStr).bind fun s7 =>
(some (h ++ [some ⟨[(.int .i64 0), (.int .i64 0), (.int .i64 0), (.int .i64 0), (.int .i64 0), (.string ⟨#[]⟩)], 116⟩])).bind fun h8 =>
(wr base h8 (List.length h) 0 [(.int .i64 n2), (.int .i64 n3), (.int .i64 n4), (.int .i64 n5), (.int .i64 n6), (.string s7)]).bind fun h9 =>
((cell h9 (List.length h) 0).bind (getI .i64)).bind fun n10 =>
(run (Et base) 78 [(.slice v3 v3n v3n), (.int .i64 n10)] h9).bind fun r11 =>
((some r11.1).bind getS).bind fun l12 =>
(gate (sameA h9 r11.2 (some ⟨(List.length h), 1, none⟩) 1)
(((cell r11.2 (List.length h) 1).bind (getI .i64)).bind fun n13 =>
(run (Et base) 78 [(.slice l12.1 l12.2 l12.2), (.int .i64 n13)] r11.2).bind fun r14 =>
((some r14.1).bind getS).bind fun l15 =>
(gate (sameA r11.2 r14.2 (some ⟨(List.length h), 2, none⟩) 1)
((gate (sameA h9 r14.2 (some ⟨(List.length h), 2, none⟩) 1)
(((cell r14.2 (List.length h) 2).bind (getI .i64)).bind fun n16 =>
(run (Et base) 78 [(.slice l15.1 l15.2 l15.2), (.int .i64 n16)] r14.2).bind fun r17 =>
((some r17.1).bind getS).bind fun l18 =>
(gate (sameA r14.2 r17.2 (some ⟨(List.length h), 3, none⟩) 1)
((gate (sameA r11.2 r17.2 (some ⟨(List.length h), 3, none⟩) 1)
((gate (sameA h9 r17.2 (some ⟨(List.length h), 3, none⟩) 1)
(((cell r17.2 (List.length h) 3).bind (getI .i64)).bind fun n19 =>
(run (Et base) 78 [(.slice l18.1 l18.2 l18.2), (.int .i64 n19)] r17.2).bind fun r20 =>
((some r20.1).bind getS).bind fun l21 =>
(gate (sameA r17.2 r20.2 (some ⟨(List.length h), 4, none⟩) 1)
((gate (sameA r14.2 r20.2 (some ⟨(List.length h), 4, none⟩) 1)
((gate (sameA r11.2 r20.2 (some ⟨(List.length h), 4, none⟩) 1)
((gate (sameA h9 r20.2 (some ⟨(List.length h), 4, none⟩) 1)
(((cell r20.2 (List.length h) 4).bind (getI .i64)).bind fun n22 =>
(run (Et base) 78 [(.slice l21.1 l21.2 l21.2), (.int .i64 n22)] r20.2).bind fun r23 =>
((some r23.1).bind getS).bind fun l24 =>
((cell r23.2 (List.length h) 5).bind getStr).bind fun s25 =>
(run (Et base) 78 [(.slice l24.1 l24.2 l24.2), (.int .i64 (s25.size : Int))] r23.2).bind fun r26 =>
((some r26.1).bind getS).bind fun l27 =>
(gate (sameA r23.2 r26.2 (some ⟨(List.length h), 5, none⟩) 1)
(((cell r26.2 (List.length h) 5).bind getStr).bind fun s28 =>
(app base r26.2 5 1 1 l27.1 l27.2 (some (bytesV s28)) s28.size).bind fun p29 =>
((some p29.1).bind getS).bind fun l30 =>
some (0, [some (.slice v0 v0n v0n), some (.slice l30.1 l30.2 l30.2), some (.int .i64 (IntKind.wrap .i64 (v4 + (1 : Int))))], p29.2)))))))))))))))))))))))
else none)
else
some (2, [some (.slice v3 v3n v3n)], h)) : Option (Nat × Slots × AH)) := by kernel_rfl
theorem f21_eq (base : Nat) (v0 : Option Addr) (v0n : Nat) (h : AH) : exFun (Et base) (run (Et base)) loopL a21 Try.f21 [(.slice v0 v0n v0n)] h =
((run (Et base) 77 [(.slice v0 v0n v0n)] h).bind fun r1 =>
((some r1.1).bind getB).bind fun b2 =>
(if (!b2) = true then
(some (r1.2 ++ [some ⟨[], 5⟩])).bind fun h3 =>
some ((.slice (some ⟨(List.length r1.2), 0, none⟩) 0 0), h3)
else
(some (r1.2 ++ [some ⟨[], 5⟩])).bind fun h4 =>
(run (Et base) 78 [(.slice (some ⟨(List.length r1.2), 0, none⟩) 0 0), (.int .i64 ((v0n : Nat) : Int))] h4).bind fun r5 =>
((some r5.1).bind getS).bind fun l6 =>
(loopL (B21_0 base) [some (.slice v0 v0n v0n), some (.slice l6.1 l6.2 l6.2), some (.int .i64 (0 : Int))] r5.2).bind fun q7 =>
(if q7.1 = 2 then
((sget q7.2.1 0).bind getS).bind fun l8 =>
some ((.slice l8.1 l8.2 l8.2), q7.2.2)
else
none)) : Option (Value × AH)) := by kernel_rfl
theorem r21 {base : Nat} {v0 : Option Addr} {v0n : Nat} {h : AH} {r : Value × AH} (hx :
((run (Et base) 77 [(.slice v0 v0n v0n)] h).bind fun r1 =>
((some r1.1).bind getB).bind fun b2 =>
(if (!b2) = true then
(some (r1.2 ++ [some ⟨[], 5⟩])).bind fun h3 =>
some ((.slice (some ⟨(List.length r1.2), 0, none⟩) 0 0), h3)
else
(some (r1.2 ++ [some ⟨[], 5⟩])).bind fun h4 =>
(run (Et base) 78 [(.slice (some ⟨(List.length r1.2), 0, none⟩) 0 0), (.int .i64 ((v0n : Nat) : Int))] h4).bind fun r5 =>
((some r5.1).bind getS).bind fun l6 =>
(loopL (B21_0 base) [some (.slice v0 v0n v0n), some (.slice l6.1 l6.2 l6.2), some (.int .i64 (0 : Int))] r5.2).bind fun q7 =>
(if q7.1 = 2 then
((sget q7.2.1 0).bind getS).bind fun l8 =>
some ((.slice l8.1 l8.2 l8.2), q7.2.2)
else
none))) = some r) : run (Et base) 21 [(.slice v0 v0n v0n)] h = some r := run_i Try.func21 (by kernel_rfl) ((f21_eq base v0 v0n h).trans hx)
/-! impl.PutCode (gates 0) -/
noncomputable def B23_1 (base : Nat) : Body := fun l h => lay s23_1 l fun s => exCode (Et base) (run (Et base)) loopL a23_1 (subC [1, 1, 1, 0, 1, 0, 0, 1, 1, 0, 0, 1, 0, 1, 0, 0] (bodyC Try.f23)) s h (keepK s23_1 e23_1)
noncomputable def B23_0 (base : Nat) : Body := fun l h => lay s23_0 l fun s => exCode (Et base) (run (Et base)) loopL a23_0 (subC [1, 1, 1, 0, 1, 0, 0] (bodyC Try.f23)) s h (keepK s23_0 e23_0)
theorem B23_1_eq (base : Nat) (v3 : Option Addr) (v3n : Nat) (v5 : Addr) (v14 : Option Addr) (v14n : Nat) (v15 : Int) (v16 : Int) (v33 : Option Addr) (v33n : Nat) (v34 : Int) (v35 : Int) (h : AH) : B23_1 base [some (.slice v3 v3n v3n), some (.pointer (some v5)), some (.slice v14 v14n v14n), some (.int .i64 v15), some (.int .i64 v16), some (.slice v33 v33n v33n), some (.int .i64 v34), some (.int .i64 v35)] h =
((if (decide (v35 < v34)) = true then
(if 0 ≤ v35 ∧ v35 < ((v33n : Nat) : Int) then
((v33 : Option Addr)).bind fun a1 =>
((cell h a1.block (a1.off + Int.toNat v35 * 1)).bind (getI .i64)).bind fun n2 =>
(run (Et base) 81 [(.slice v3 v3n v3n), (.int .i64 n2)] h).bind fun r3 =>
((some r3.1).bind getS).bind fun l4 =>
some (0, [some (.slice l4.1 l4.2 l4.2), some (.pointer (some v5)), some (.slice v14 v14n v14n), some (.int .i64 v15), some (.int .i64 v16), some (.slice v33 v33n v33n), some (.int .i64 v34), some (.int .i64 (IntKind.wrap .i64 (v35 + (1 : Int))))], r3.2)
else none)
else
some (4, [some (.slice v3 v3n v3n), some (.pointer (some v5)), some (.slice v14 v14n v14n), some (.int .i64 v15), some (.int .i64 v16)], h)) : Option (Nat × Slots × AH)) := by kernel_rfl
theorem B23_0_eq (base : Nat) (v3 : Option Addr) (v3n : Nat) (v14 : Option Addr) (v14n : Nat) (v15 : Int) (v16 : Int) (h : AH) : B23_0 base [some (.slice v3 v3n v3n), some (.slice v14 v14n v14n), some (.int .i64 v15), some (.int .i64 v16)] h =
((if (decide (v16 < v15)) = true then
(if 0 ≤ v16 ∧ v16 < ((v14n : Nat) : Int) then
((v14 : Option Addr)).bind fun a1 =>
((cell h a1.block (a1.off + Int.toNat v16 * 6)).bind (getI .i64)).bind fun n2 =>
((cell h a1.block ((a1.off + Int.toNat v16 * 6) + 1)).bind (getI .i64)).bind fun n3 =>
((cell h a1.block (((a1.off + Int.toNat v16 * 6) + 1) + 1)).bind (getI .i64)).bind fun n4 =>
((cell h a1.block ((((a1.off + Int.toNat v16 * 6) + 1) + 1) + 1)).bind (getI .i64)).bind fun n5 =>
((cell h a1.block (((((a1.off + Int.toNat v16 * 6) + 1) + 1) + 1) + 1)).bind (getI .i64)).bind fun n6 =>
((cell h a1.block ((((((a1.off + Int.toNat v16 * 6) + 1) + 1) + 1) + 1) + 1)).bind getStr).bind fun s7 =>
(some (h ++ [some ⟨[(.int .i64 0), (.int .i64 0), (.int .i64 0), (.int .i64 0), (.int .i64 0), (.string ⟨#[]⟩)], 116⟩])).bind fun h8 =>
(wr base h8 (List.length h) 0 [(.int .i64 n2), (.int .i64 n3), (.int .i64 n4), (.int .i64 n5), (.int .i64 n6), (.string s7)]).bind fun h9 =>
((cell h9 (List.length h) 0).bind (getI .i64)).bind fun n10 =>
((cell h9 (List.length h) 1).bind (getI .i64)).bind fun n11 =>
((cell h9 (List.length h) 2).bind (getI .i64)).bind fun n12 =>
((cell h9 (List.length h) 3).bind (getI .i64)).bind fun n13 =>
((cell h9 (List.length h) 4).bind (getI .i64)).bind fun n14 =>
((cell h9 (List.length h) 5).bind getStr).bind fun s15 =>
(some (h9 ++ [some ⟨[(.int .i64 n10), (.int .i64 n11), (.int .i64 n12), (.int .i64 n13), (.int .i64 n14), (.int .i64 (s15.size : Int))], 3⟩])).bind fun h16 =>
(loopL (B23_1 base) [some (.slice v3 v3n v3n), some (.pointer (some ⟨(List.length h), 0, none⟩)), some (.slice v14 v14n v14n), some (.int .i64 v15), some (.int .i64 v16), some (.slice (some ⟨(List.length h9), 0, none⟩) 6 6), some (.int .i64 (6 : Int)), some (.int .i64 (0 : Int))] h16).bind fun q17 =>
(if q17.1 = 4 then
((sget q17.2.1 0).bind getS).bind fun l18 =>
((sget (q17.2.1.tail) 0).bind getA).bind fun d19 =>
((sget (q17.2.1.tail.tail) 0).bind getS).bind fun l20 =>
((sget (q17.2.1.tail.tail.tail) 0).bind (getI .i64)).bind fun n21 =>
((sget (q17.2.1.tail.tail.tail.tail) 0).bind (getI .i64)).bind fun n22 =>
((cell q17.2.2 d19.block (d19.off + 5)).bind getStr).bind fun s23 =>
(app base q17.2.2 5 1 1 l18.1 l18.2 (some (bytesV s23)) s23.size).bind fun p24 =>
((some p24.1).bind getS).bind fun l25 =>
some (0, [some (.slice l25.1 l25.2 l25.2), some (.slice l20.1 l20.2 l20.2), some (.int .i64 n21), some (.int .i64 (IntKind.wrap .i64 (n22 + (1 : Int))))], p24.2)
else
none)
else none)
else
some (2, [some (.slice v3 v3n v3n)], h)) : Option (Nat × Slots × AH)) := by kernel_rfl
theorem f23_eq (base : Nat) (v0 : Option Addr) (v0n : Nat) (h : AH) : exFun (Et base) (run (Et base)) loopL a23 Try.f23 [(.slice v0 v0n v0n)] h =
((run (Et base) 80 [(.slice v0 v0n v0n)] h).bind fun r1 =>
((some r1.1).bind getB).bind fun b2 =>
(if (!b2) = true then
some ((.slice none 0 0), r1.2)
else
(run (Et base) 81 [(.slice none 0 0), (.int .i64 ((v0n : Nat) : Int))] r1.2).bind fun r3 =>
((some r3.1).bind getS).bind fun l4 =>
(loopL (B23_0 base) [some (.slice l4.1 l4.2 l4.2), some (.slice v0 v0n v0n), some (.int .i64 ((v0n : Nat) : Int)), some (.int .i64 (0 : Int))] r3.2).bind fun q5 =>
(if q5.1 = 2 then
((sget q5.2.1 0).bind getS).bind fun l6 =>
some ((.slice l6.1 l6.2 l6.2), q5.2.2)
else
none)) : Option (Value × AH)) := by kernel_rfl
theorem r23 {base : Nat} {v0 : Option Addr} {v0n : Nat} {h : AH} {r : Value × AH} (hx :
((run (Et base) 80 [(.slice v0 v0n v0n)] h).bind fun r1 =>
((some r1.1).bind getB).bind fun b2 =>
(if (!b2) = true then
some ((.slice none 0 0), r1.2)
else
(run (Et base) 81 [(.slice none 0 0), (.int .i64 ((v0n : Nat) : Int))] r1.2).bind fun r3 =>
((some r3.1).bind getS).bind fun l4 =>
(loopL (B23_0 base) [some (.slice l4.1 l4.2 l4.2), some (.slice v0 v0n v0n), some (.int .i64 ((v0n : Nat) : Int)), some (.int .i64 (0 : Int))] r3.2).bind fun q5 =>
(if q5.1 = 2 then
((sget q5.2.1 0).bind getS).bind fun l6 =>
some ((.slice l6.1 l6.2 l6.2), q5.2.2)
else
none))) = some r) : run (Et base) 23 [(.slice v0 v0n v0n)] h = some r := run_i Try.func23 (by kernel_rfl) ((f23_eq base v0 v0n h).trans hx)
/-! laws.FnExactPutCode (gates 0) -/
theorem f4_eq (base : Nat) (v0 : Option Addr) (v0n : Nat) (h : AH) : exFun (Et base) (run (Et base)) loopL a4 Try.f4 [(.slice v0 v0n v0n)] h =
((run (Et base) 20 [(.slice v0 v0n v0n), (.int .i64 (1048576 : Int))] h).bind fun r1 =>
((some r1.1).bind (getI .i64)).bind fun n2 =>
(if (decide (n2 < (0 : Int))) = true then
some ((.bool true), r1.2)
else
(run (Et base) 22 [(.slice v0 v0n v0n)] r1.2).bind fun r3 =>
((some r3.1).bind getS).bind fun l4 =>
(run (Et base) 21 [(.slice l4.1 l4.2 l4.2)] r3.2).bind fun r5 =>
((some r5.1).bind getS).bind fun l6 =>
(run (Et base) 22 [(.slice v0 v0n v0n)] r5.2).bind fun r7 =>
((some r7.1).bind getS).bind fun l8 =>
(run (Et base) 23 [(.slice l8.1 l8.2 l8.2)] r7.2).bind fun r9 =>
((some r9.1).bind getS).bind fun l10 =>
(run (Et base) 24 [(.slice l10.1 l10.2 l10.2), (.slice l6.1 l6.2 l6.2)] r9.2).bind fun r11 =>
((some r11.1).bind getB).bind fun b12 =>
(if (!b12) = true then
some ((.bool false), r11.2)
else
(run (Et base) 22 [(.slice v0 v0n v0n)] r11.2).bind fun r13 =>
((some r13.1).bind getS).bind fun l14 =>
(run (Et base) 25 [(.slice l8.1 l8.2 l8.2), (.slice l14.1 l14.2 l14.2)] r13.2).bind fun r15 =>
((some r15.1).bind getB).bind fun b16 =>
(if (!b16) = true then
some ((.bool false), r15.2)
else
(run (Et base) 26 [(.slice l8.1 l8.2 l8.2), (.int .i64 (1 : Int))] r15.2).bind fun r17 =>
((some r17.1).bind (getI .i64)).bind fun n18 =>
((if (decide (n18 < (0 : Int))) = true then
some (.inl ([some (.slice v0 v0n v0n), some (.slice l6.1 l6.2 l6.2), some (.slice l10.1 l10.2 l10.2), some (.bool true)], r17.2))
else
(run (Et base) 24 [(.slice l10.1 l10.2 l10.2), (.slice l6.1 l6.2 l6.2)] r17.2).bind fun r20 =>
((some r20.1).bind getB).bind fun b21 =>
some (.inl ([some (.slice v0 v0n v0n), some (.slice l6.1 l6.2 l6.2), some (.slice l10.1 l10.2 l10.2), some (.bool (!b21))], r20.2)))).bind fun j19 => joinK j19 fun j19 =>
((sget j19.1 0).bind getS).bind fun l22 =>
((sget (j19.1.tail) 0).bind getS).bind fun l23 =>
((sget (j19.1.tail.tail) 0).bind getS).bind fun l24 =>
((sget (j19.1.tail.tail.tail) 0).bind getB).bind fun b25 =>
(if b25 = true then
some ((.bool false), j19.2)
else
(run (Et base) 27 [(.slice l24.1 l24.2 l24.2), (.int .i64 (1 : Int))] j19.2).bind fun r26 =>
((some r26.1).bind (getI .i64)).bind fun n27 =>
(run (Et base) 28 [(.slice l24.1 l24.2 l24.2), (.int .i64 (1 : Int))] r26.2).bind fun r28 =>
((some r28.1).bind (getI .i64)).bind fun n29 =>
(if (decide (n29 < (0 : Int))) = true then
some ((.bool false), r28.2)
else
(if (n29 != n27) = true then
some ((.bool false), r28.2)
else
(run (Et base) 22 [(.slice l22.1 l22.2 l22.2)] r28.2).bind fun r30 =>
((some r30.1).bind getS).bind fun l31 =>
(run (Et base) 23 [(.slice l31.1 l31.2 l31.2)] r30.2).bind fun r32 =>
((some r32.1).bind getS).bind fun l33 =>
(run (Et base) 24 [(.slice l33.1 l33.2 l33.2), (.slice l23.1 l23.2 l23.2)] r32.2).bind fun r34 =>
((some r34.1).bind getB).bind fun b35 =>
(if (!b35) = true then
some ((.bool false), r34.2)
else
(run (Et base) 28 [(.slice l24.1 l24.2 l24.2), (.int .i64 (1 : Int))] r34.2).bind fun r36 =>
((some r36.1).bind (getI .i64)).bind fun n37 =>
(if (decide (n37 < (0 : Int))) = true then
some ((.bool false), r36.2)
else
(if (n37 != n27) = true then
some ((.bool false), r36.2)
else
some ((.bool true), r36.2)))))))))) : Option (Value × AH)) := by kernel_rfl
theorem r4 {base : Nat} {v0 : Option Addr} {v0n : Nat} {h : AH} {r : Value × AH} (hx :
((run (Et base) 20 [(.slice v0 v0n v0n), (.int .i64 (1048576 : Int))] h).bind fun r1 =>
((some r1.1).bind (getI .i64)).bind fun n2 =>
(if (decide (n2 < (0 : Int))) = true then
some ((.bool true), r1.2)
else
(run (Et base) 22 [(.slice v0 v0n v0n)] r1.2).bind fun r3 =>
((some r3.1).bind getS).bind fun l4 =>
(run (Et base) 21 [(.slice l4.1 l4.2 l4.2)] r3.2).bind fun r5 =>
((some r5.1).bind getS).bind fun l6 =>
(run (Et base) 22 [(.slice v0 v0n v0n)] r5.2).bind fun r7 =>
((some r7.1).bind getS).bind fun l8 =>
(run (Et base) 23 [(.slice l8.1 l8.2 l8.2)] r7.2).bind fun r9 =>
((some r9.1).bind getS).bind fun l10 =>
(run (Et base) 24 [(.slice l10.1 l10.2 l10.2), (.slice l6.1 l6.2 l6.2)] r9.2).bind fun r11 =>
((some r11.1).bind getB).bind fun b12 =>
(if (!b12) = true then
some ((.bool false), r11.2)
else
(run (Et base) 22 [(.slice v0 v0n v0n)] r11.2).bind fun r13 =>
((some r13.1).bind getS).bind fun l14 =>
(run (Et base) 25 [(.slice l8.1 l8.2 l8.2), (.slice l14.1 l14.2 l14.2)] r13.2).bind fun r15 =>
((some r15.1).bind getB).bind fun b16 =>
(if (!b16) = true then
some ((.bool false), r15.2)
else
(run (Et base) 26 [(.slice l8.1 l8.2 l8.2), (.int .i64 (1 : Int))] r15.2).bind fun r17 =>
((some r17.1).bind (getI .i64)).bind fun n18 =>
((if (decide (n18 < (0 : Int))) = true then
some (.inl ([some (.slice v0 v0n v0n), some (.slice l6.1 l6.2 l6.2), some (.slice l10.1 l10.2 l10.2), some (.bool true)], r17.2))
else
(run (Et base) 24 [(.slice l10.1 l10.2 l10.2), (.slice l6.1 l6.2 l6.2)] r17.2).bind fun r20 =>
((some r20.1).bind getB).bind fun b21 =>
some (.inl ([some (.slice v0 v0n v0n), some (.slice l6.1 l6.2 l6.2), some (.slice l10.1 l10.2 l10.2), some (.bool (!b21))], r20.2)))).bind fun j19 => joinK j19 fun j19 =>
((sget j19.1 0).bind getS).bind fun l22 =>
((sget (j19.1.tail) 0).bind getS).bind fun l23 =>
((sget (j19.1.tail.tail) 0).bind getS).bind fun l24 =>
((sget (j19.1.tail.tail.tail) 0).bind getB).bind fun b25 =>
(if b25 = true then
some ((.bool false), j19.2)
else
(run (Et base) 27 [(.slice l24.1 l24.2 l24.2), (.int .i64 (1 : Int))] j19.2).bind fun r26 =>
((some r26.1).bind (getI .i64)).bind fun n27 =>
(run (Et base) 28 [(.slice l24.1 l24.2 l24.2), (.int .i64 (1 : Int))] r26.2).bind fun r28 =>
((some r28.1).bind (getI .i64)).bind fun n29 =>
(if (decide (n29 < (0 : Int))) = true then
some ((.bool false), r28.2)
else
(if (n29 != n27) = true then
some ((.bool false), r28.2)
else
(run (Et base) 22 [(.slice l22.1 l22.2 l22.2)] r28.2).bind fun r30 =>
((some r30.1).bind getS).bind fun l31 =>
(run (Et base) 23 [(.slice l31.1 l31.2 l31.2)] r30.2).bind fun r32 =>
((some r32.1).bind getS).bind fun l33 =>
(run (Et base) 24 [(.slice l33.1 l33.2 l33.2), (.slice l23.1 l23.2 l23.2)] r32.2).bind fun r34 =>
((some r34.1).bind getB).bind fun b35 =>
(if (!b35) = true then
some ((.bool false), r34.2)
else
(run (Et base) 28 [(.slice l24.1 l24.2 l24.2), (.int .i64 (1 : Int))] r34.2).bind fun r36 =>
((some r36.1).bind (getI .i64)).bind fun n37 =>
(if (decide (n37 < (0 : Int))) = true then
some ((.bool false), r36.2)
else
(if (n37 != n27) = true then
some ((.bool false), r36.2)
else
some ((.bool true), r36.2))))))))))) = some r) : run (Et base) 4 [(.slice v0 v0n v0n)] h = some r := run_i Try.func4 (by kernel_rfl) ((f4_eq base v0 v0n h).trans hx)
end Go.Proofs.Ytnmjhhipbfngkaa.Am
