/- What each of these functions comes to on the abstract machine, one equation a function and one a loop.
Conditions: none. -/
import Derived.Test.YtomcfongmahjaaaTb
set_option linter.unusedVariables false
namespace Go.Proofs.Ytomcfongmahjaaa.Am
open Go Go.RowKit
/-! spec.l1Look (gates 0) -/
noncomputable def B57_0 (base : Nat) : Body := fun l h => lay s57_0 l fun s => exCode (Et base) (run (Et base)) loopL a57_0 (subC [1, 1, 1, 0, 1, 0, 0] (bodyC Try.f57)) s h (keepK s57_0 e57_0)
theorem B57_0_eq (base : Nat) (v1 : Int) (v2 : Int) (v3 : Addr) (v7 : Int) (h : AH) : B57_0 base [some (.int .i64 v1), some (.int .i64 v2), some (.pointer (some v3)), some (.int .i64 v7)] h =
((((cell h v3.block (v3.off + 3)).bind getS).bind fun l2 =>
(if (decide (v7 < ((l2.2 : Nat) : Int))) = true then
some (.inl ([some (.int .i64 v1), some (.int .i64 v2), some (.pointer (some v3)), some (.int .i64 v7), some (.bool (decide (v2 ≥ (0 : Int))))], h))
else
some (.inl ([some (.int .i64 v1), some (.int .i64 v2), some (.pointer (some v3)), some (.int .i64 v7), some (.bool false)], h)))).bind fun j1 => joinK j1 fun j1 =>
((sget j1.1 0).bind (getI .i64)).bind fun n3 =>
((sget (j1.1.tail) 0).bind (getI .i64)).bind fun n4 =>
((sget (j1.1.tail.tail) 0).bind getA).bind fun d5 =>
((sget (j1.1.tail.tail.tail) 0).bind (getI .i64)).bind fun n6 =>
((sget (j1.1.tail.tail.tail.tail) 0).bind getB).bind fun b7 =>
(if b7 = true then
((cell j1.2 d5.block (d5.off + 3)).bind getS).bind fun l8 =>
(if 0 ≤ n6 ∧ n6 < ((l8.2 : Nat) : Int) then
((l8.1 : Option Addr)).bind fun a9 =>
((cell j1.2 a9.block (a9.off + Int.toNat n6 * 4)).bind (getI .i64)).bind fun n10 =>
((cell j1.2 a9.block ((a9.off + Int.toNat n6 * 4) + 1)).bind (getI .i64)).bind fun n11 =>
((cell j1.2 a9.block (((a9.off + Int.toNat n6 * 4) + 1) + 1)).bind getStr).bind fun s12 =>
((cell j1.2 a9.block ((((a9.off + Int.toNat n6 * 4) + 1) + 1) + 1)).bind getS).bind fun l13 =>
(run (Et base) 57 [(.agg #[(.int .i64 n10), (.int .i64 n11), (.string s12), (.slice l13.1 l13.2 l13.2)]), (.int .i64 (IntKind.wrap .i64 (n3 - (1 : Int)))), (.int .i64 n4)] j1.2).bind fun r14 =>
((some r14.1).bind (getI .i64)).bind fun n15 =>
some (0, [some (.int .i64 n3), some (.int .i64 n15), some (.pointer (some d5)), some (.int .i64 (IntKind.wrap .i64 (n6 + (1 : Int))))], r14.2)
else none)
else
some (2, [some (.int .i64 n4)], j1.2)) : Option (Nat × Slots × AH)) := by kernel_rfl
theorem f57_eq (base : Nat) (v0_0 : Int) (v0_1 : Int) (v0_2 : ByteArray) (v0_3 : Option Addr) (v0_3n : Nat) (v1 : Int) (v2 : Int) (h : AH) : exFun (Et base) (run (Et base)) loopL a57 Try.f57 [(.agg #[(.int .i64 v0_0), (.int .i64 v0_1), (.string v0_2), (.slice v0_3 v0_3n v0_3n)]), (.int .i64 v1), (.int .i64 v2)] h =
((some (h ++ [some ⟨[(.int .i64 v0_0), (.int .i64 v0_1), (.string v0_2), (.slice v0_3 v0_3n v0_3n)], 27⟩])).bind fun h1 =>
((if (decide (v1 < (1 : Int))) = true then
some (.inl ([some (.int .i64 v1), some (.int .i64 v2), some (.pointer (some ⟨(List.length h), 0, none⟩)), some (.bool true)], h1))
else
(if (decide (v2 < (1 : Int))) = true then
some (.inl ([some (.int .i64 v1), some (.int .i64 v2), some (.pointer (some ⟨(List.length h), 0, none⟩)), some (.bool true)], h1))
else
((cell h1 (List.length h) 0).bind (getI .i64)).bind fun n3 =>
((cell h1 (List.length h) 1).bind (getI .i64)).bind fun n4 =>
((cell h1 (List.length h) 2).bind getStr).bind fun s5 =>
((cell h1 (List.length h) 3).bind getS).bind fun l6 =>
(run (Et base) 60 [(.agg #[(.int .i64 n3), (.int .i64 n4), (.string s5), (.slice l6.1 l6.2 l6.2)])] h1).bind fun r7 =>
((some r7.1).bind getB).bind fun b8 =>
some (.inl ([some (.int .i64 v1), some (.int .i64 v2), some (.pointer (some ⟨(List.length h), 0, none⟩)), some (.bool (!b8))], r7.2))))).bind fun j2 => joinK j2 fun j2 =>
((sget j2.1 0).bind (getI .i64)).bind fun n9 =>
((sget (j2.1.tail) 0).bind (getI .i64)).bind fun n10 =>
((sget (j2.1.tail.tail) 0).bind getA).bind fun d11 =>
((sget (j2.1.tail.tail.tail) 0).bind getB).bind fun b12 =>
(if b12 = true then
some ((.int .i64 (-1 : Int)), j2.2)
else
(loopL (B57_0 base) [some (.int .i64 n9), some (.int .i64 (IntKind.wrap .i64 (n10 - (1 : Int)))), some (.pointer (some d11)), some (.int .i64 (0 : Int))] j2.2).bind fun q13 =>
(if q13.1 = 2 then
((sget q13.2.1 0).bind (getI .i64)).bind fun n14 =>
some ((.int .i64 n14), q13.2.2)
else
none)) : Option (Value × AH)) := by kernel_rfl
theorem r57 {base : Nat} {v0_0 : Int} {v0_1 : Int} {v0_2 : ByteArray} {v0_3 : Option Addr} {v0_3n : Nat} {v1 : Int} {v2 : Int} {h : AH} {r : Value × AH} (hx :
((some (h ++ [some ⟨[(.int .i64 v0_0), (.int .i64 v0_1), (.string v0_2), (.slice v0_3 v0_3n v0_3n)], 27⟩])).bind fun h1 =>
((if (decide (v1 < (1 : Int))) = true then
some (.inl ([some (.int .i64 v1), some (.int .i64 v2), some (.pointer (some ⟨(List.length h), 0, none⟩)), some (.bool true)], h1))
else
(if (decide (v2 < (1 : Int))) = true then
some (.inl ([some (.int .i64 v1), some (.int .i64 v2), some (.pointer (some ⟨(List.length h), 0, none⟩)), some (.bool true)], h1))
else
((cell h1 (List.length h) 0).bind (getI .i64)).bind fun n3 =>
((cell h1 (List.length h) 1).bind (getI .i64)).bind fun n4 =>
((cell h1 (List.length h) 2).bind getStr).bind fun s5 =>
((cell h1 (List.length h) 3).bind getS).bind fun l6 =>
(run (Et base) 60 [(.agg #[(.int .i64 n3), (.int .i64 n4), (.string s5), (.slice l6.1 l6.2 l6.2)])] h1).bind fun r7 =>
((some r7.1).bind getB).bind fun b8 =>
some (.inl ([some (.int .i64 v1), some (.int .i64 v2), some (.pointer (some ⟨(List.length h), 0, none⟩)), some (.bool (!b8))], r7.2))))).bind fun j2 => joinK j2 fun j2 =>
((sget j2.1 0).bind (getI .i64)).bind fun n9 =>
((sget (j2.1.tail) 0).bind (getI .i64)).bind fun n10 =>
((sget (j2.1.tail.tail) 0).bind getA).bind fun d11 =>
((sget (j2.1.tail.tail.tail) 0).bind getB).bind fun b12 =>
(if b12 = true then
some ((.int .i64 (-1 : Int)), j2.2)
else
(loopL (B57_0 base) [some (.int .i64 n9), some (.int .i64 (IntKind.wrap .i64 (n10 - (1 : Int)))), some (.pointer (some d11)), some (.int .i64 (0 : Int))] j2.2).bind fun q13 =>
(if q13.1 = 2 then
((sget q13.2.1 0).bind (getI .i64)).bind fun n14 =>
some ((.int .i64 n14), q13.2.2)
else
none))) = some r) : run (Et base) 57 [(.agg #[(.int .i64 v0_0), (.int .i64 v0_1), (.string v0_2), (.slice v0_3 v0_3n v0_3n)]), (.int .i64 v1), (.int .i64 v2)] h = some r := run_i Try.func57 (by kernel_rfl) ((f57_eq base v0_0 v0_1 v0_2 v0_3 v0_3n v1 v2 h).trans hx)
/-! spec.l1Str (gates 0) -/
theorem f58_eq (base : Nat) (v0 : Option Addr) (v1 : Option Addr) (v1n : Nat) (h : AH) : exFun (Et base) (run (Et base)) loopL a58 Try.f58 [(.pointer v0), (.slice v1 v1n v1n)] h =
((run (Et base) 40 [(.pointer v0), (.int .i64 ((v1n : Nat) : Int))] h).bind fun r1 =>
((some r1.1).bind (getI .i64)).bind fun n2 =>
(if 0 ≤ n2 ∧ n2 < ((v1n : Nat) : Int) then
((v1 : Option Addr)).bind fun a3 =>
((cell r1.2 a3.block (a3.off + Int.toNat n2 * 1)).bind getStr).bind fun s4 =>
some ((.string s4), r1.2)
else none) : Option (Value × AH)) := by kernel_rfl
theorem r58 {base : Nat} {v0 : Option Addr} {v1 : Option Addr} {v1n : Nat} {h : AH} {r : Value × AH} (hx :
((run (Et base) 40 [(.pointer v0), (.int .i64 ((v1n : Nat) : Int))] h).bind fun r1 =>
((some r1.1).bind (getI .i64)).bind fun n2 =>
(if 0 ≤ n2 ∧ n2 < ((v1n : Nat) : Int) then
((v1 : Option Addr)).bind fun a3 =>
((cell r1.2 a3.block (a3.off + Int.toNat n2 * 1)).bind getStr).bind fun s4 =>
some ((.string s4), r1.2)
else none)) = some r) : run (Et base) 58 [(.pointer v0), (.slice v1 v1n v1n)] h = some r := run_i Try.func58 (by kernel_rfl) ((f58_eq base v0 v1 v1n h).trans hx)
/-! impl.fieldsOk (gates 0) -/
theorem f59_eq (base : Nat) (v0_0 : Int) (v0_1 : Int) (v0_2 : ByteArray) (v0_3 : Option Addr) (v0_3n : Nat) (h : AH) : exFun (Et base) (run (Et base)) loopL a59 Try.f59 [(.agg #[(.int .i64 v0_0), (.int .i64 v0_1), (.string v0_2), (.slice v0_3 v0_3n v0_3n)])] h =
((some (h ++ [some ⟨[(.int .i64 v0_0), (.int .i64 v0_1), (.string v0_2), (.slice v0_3 v0_3n v0_3n)], 27⟩])).bind fun h1 =>
((cell h1 (List.length h) 0).bind (getI .i64)).bind fun n2 =>
(if (n2 == (1 : Int)) = true then
((cell h1 (List.length h) 1).bind (getI .i64)).bind fun n3 =>
(run (Et base) 44 [(.int .i64 n3), (.int .i64 (-1000000 : Int)), (.int .i64 (1000000 : Int))] h1).bind fun r4 =>
((some r4.1).bind getB).bind fun b5 =>
(if b5 = true then
((cell r4.2 (List.length h) 2).bind getStr).bind fun s6 =>
(if (s6.toList == (⟨#[]⟩ : ByteArray).toList) = true then
((cell r4.2 (List.length h) 3).bind getS).bind fun l7 =>
some ((.bool (((l7.2 : Nat) : Int) == (0 : Int))), r4.2)
else
some ((.bool false), r4.2))
else
some ((.bool false), r4.2))
else
(if (n2 == (2 : Int)) = true then
((cell h1 (List.length h) 1).bind (getI .i64)).bind fun n8 =>
(if (n8 == (0 : Int)) = true then
((cell h1 (List.length h) 2).bind getStr).bind fun s9 =>
(run (Et base) 61 [(.string s9)] h1).bind fun r10 =>
((some r10.1).bind getB).bind fun b11 =>
(if b11 = true then
((cell r10.2 (List.length h) 3).bind getS).bind fun l12 =>
some ((.bool (((l12.2 : Nat) : Int) == (0 : Int))), r10.2)
else
some ((.bool false), r10.2))
else
some ((.bool false), h1))
else
(if (n2 == (3 : Int)) = true then
((cell h1 (List.length h) 1).bind (getI .i64)).bind fun n13 =>
(run (Et base) 44 [(.int .i64 n13), (.int .i64 (0 : Int)), (.int .i64 (99999 : Int))] h1).bind fun r14 =>
((some r14.1).bind getB).bind fun b15 =>
(if b15 = true then
((cell r14.2 (List.length h) 2).bind getStr).bind fun s16 =>
(if (s16.toList == (⟨#[]⟩ : ByteArray).toList) = true then
((cell r14.2 (List.length h) 3).bind getS).bind fun l17 =>
some ((.bool (((l17.2 : Nat) : Int) == (0 : Int))), r14.2)
else
some ((.bool false), r14.2))
else
some ((.bool false), r14.2))
else
(if (n2 == (4 : Int)) = true then
((cell h1 (List.length h) 1).bind (getI .i64)).bind fun n18 =>
(if (n18 == (0 : Int)) = true then
((cell h1 (List.length h) 2).bind getStr).bind fun s19 =>
(if (s19.toList == (⟨#[]⟩ : ByteArray).toList) = true then
((cell h1 (List.length h) 3).bind getS).bind fun l20 =>
some ((.bool (decide (((l20.2 : Nat) : Int) ≤ (8 : Int)))), h1)
else
some ((.bool false), h1))
else
some ((.bool false), h1))
else
(if (n2 == (5 : Int)) = true then
((cell h1 (List.length h) 1).bind (getI .i64)).bind fun n21 =>
(if (n21 == (0 : Int)) = true then
((cell h1 (List.length h) 2).bind getStr).bind fun s22 =>
(if (s22.toList == (⟨#[]⟩ : ByteArray).toList) = true then
((cell h1 (List.length h) 3).bind getS).bind fun l23 =>
some ((.bool (decide (((l23.2 : Nat) : Int) ≤ (20 : Int)))), h1)
else
some ((.bool false), h1))
else
some ((.bool false), h1))
else
(if (n2 == (6 : Int)) = true then
((cell h1 (List.length h) 1).bind (getI .i64)).bind fun n24 =>
(if (n24 == (0 : Int)) = true then
((cell h1 (List.length h) 2).bind getStr).bind fun s25 =>
(if (decide ((s25.size : Int) ≤ (40 : Int))) = true then
((cell h1 (List.length h) 3).bind getS).bind fun l26 =>
some ((.bool (((l26.2 : Nat) : Int) == (0 : Int))), h1)
else
some ((.bool false), h1))
else
some ((.bool false), h1))
else
some ((.bool false), h1))))))) : Option (Value × AH)) := by kernel_rfl
theorem r59 {base : Nat} {v0_0 : Int} {v0_1 : Int} {v0_2 : ByteArray} {v0_3 : Option Addr} {v0_3n : Nat} {h : AH} {r : Value × AH} (hx :
((some (h ++ [some ⟨[(.int .i64 v0_0), (.int .i64 v0_1), (.string v0_2), (.slice v0_3 v0_3n v0_3n)], 27⟩])).bind fun h1 =>
((cell h1 (List.length h) 0).bind (getI .i64)).bind fun n2 =>
(if (n2 == (1 : Int)) = true then
((cell h1 (List.length h) 1).bind (getI .i64)).bind fun n3 =>
(run (Et base) 44 [(.int .i64 n3), (.int .i64 (-1000000 : Int)), (.int .i64 (1000000 : Int))] h1).bind fun r4 =>
((some r4.1).bind getB).bind fun b5 =>
(if b5 = true then
((cell r4.2 (List.length h) 2).bind getStr).bind fun s6 =>
(if (s6.toList == (⟨#[]⟩ : ByteArray).toList) = true then
((cell r4.2 (List.length h) 3).bind getS).bind fun l7 =>
some ((.bool (((l7.2 : Nat) : Int) == (0 : Int))), r4.2)
else
some ((.bool false), r4.2))
else
some ((.bool false), r4.2))
else
(if (n2 == (2 : Int)) = true then
((cell h1 (List.length h) 1).bind (getI .i64)).bind fun n8 =>
(if (n8 == (0 : Int)) = true then
((cell h1 (List.length h) 2).bind getStr).bind fun s9 =>
(run (Et base) 61 [(.string s9)] h1).bind fun r10 =>
((some r10.1).bind getB).bind fun b11 =>
(if b11 = true then
((cell r10.2 (List.length h) 3).bind getS).bind fun l12 =>
some ((.bool (((l12.2 : Nat) : Int) == (0 : Int))), r10.2)
else
some ((.bool false), r10.2))
else
some ((.bool false), h1))
else
(if (n2 == (3 : Int)) = true then
((cell h1 (List.length h) 1).bind (getI .i64)).bind fun n13 =>
(run (Et base) 44 [(.int .i64 n13), (.int .i64 (0 : Int)), (.int .i64 (99999 : Int))] h1).bind fun r14 =>
((some r14.1).bind getB).bind fun b15 =>
(if b15 = true then
((cell r14.2 (List.length h) 2).bind getStr).bind fun s16 =>
(if (s16.toList == (⟨#[]⟩ : ByteArray).toList) = true then
((cell r14.2 (List.length h) 3).bind getS).bind fun l17 =>
some ((.bool (((l17.2 : Nat) : Int) == (0 : Int))), r14.2)
else
some ((.bool false), r14.2))
else
some ((.bool false), r14.2))
else
(if (n2 == (4 : Int)) = true then
((cell h1 (List.length h) 1).bind (getI .i64)).bind fun n18 =>
(if (n18 == (0 : Int)) = true then
((cell h1 (List.length h) 2).bind getStr).bind fun s19 =>
(if (s19.toList == (⟨#[]⟩ : ByteArray).toList) = true then
((cell h1 (List.length h) 3).bind getS).bind fun l20 =>
some ((.bool (decide (((l20.2 : Nat) : Int) ≤ (8 : Int)))), h1)
else
some ((.bool false), h1))
else
some ((.bool false), h1))
else
(if (n2 == (5 : Int)) = true then
((cell h1 (List.length h) 1).bind (getI .i64)).bind fun n21 =>
(if (n21 == (0 : Int)) = true then
((cell h1 (List.length h) 2).bind getStr).bind fun s22 =>
(if (s22.toList == (⟨#[]⟩ : ByteArray).toList) = true then
((cell h1 (List.length h) 3).bind getS).bind fun l23 =>
some ((.bool (decide (((l23.2 : Nat) : Int) ≤ (20 : Int)))), h1)
else
some ((.bool false), h1))
else
some ((.bool false), h1))
else
(if (n2 == (6 : Int)) = true then
((cell h1 (List.length h) 1).bind (getI .i64)).bind fun n24 =>
(if (n24 == (0 : Int)) = true then
((cell h1 (List.length h) 2).bind getStr).bind fun s25 =>
(if (decide ((s25.size : Int) ≤ (40 : Int))) = true then
((cell h1 (List.length h) 3).bind getS).bind fun l26 =>
some ((.bool (((l26.2 : Nat) : Int) == (0 : Int))), h1)
else
some ((.bool false), h1))
else
some ((.bool false), h1))
else
some ((.bool false), h1)))))))) = some r) : run (Et base) 59 [(.agg #[(.int .i64 v0_0), (.int .i64 v0_1), (.string v0_2), (.slice v0_3 v0_3n v0_3n)])] h = some r := run_i Try.func59 (by kernel_rfl) ((f59_eq base v0_0 v0_1 v0_2 v0_3 v0_3n h).trans hx)
/-! spec.l1Shape (gates 0) -/
theorem f60_eq (base : Nat) (v0_0 : Int) (v0_1 : Int) (v0_2 : ByteArray) (v0_3 : Option Addr) (v0_3n : Nat) (h : AH) : exFun (Et base) (run (Et base)) loopL a60 Try.f60 [(.agg #[(.int .i64 v0_0), (.int .i64 v0_1), (.string v0_2), (.slice v0_3 v0_3n v0_3n)])] h =
((some (h ++ [some ⟨[(.int .i64 v0_0), (.int .i64 v0_1), (.string v0_2), (.slice v0_3 v0_3n v0_3n)], 27⟩])).bind fun h1 =>
((cell h1 (List.length h) 3).bind getS).bind fun l2 =>
((cell h1 (List.length h) 0).bind (getI .i64)).bind fun n3 =>
(if (n3 == (1 : Int)) = true then
((cell h1 (List.length h) 1).bind (getI .i64)).bind fun n4 =>
(run (Et base) 47 [(.int .i64 n4), (.int .i64 (-1000000 : Int)), (.int .i64 (1000000 : Int))] h1).bind fun r5 =>
((some r5.1).bind getB).bind fun b6 =>
(if b6 = true then
((cell r5.2 (List.length h) 2).bind getStr).bind fun s7 =>
(if (s7.toList == (⟨#[]⟩ : ByteArray).toList) = true then
some ((.bool (((l2.2 : Nat) : Int) == (0 : Int))), r5.2)
else
some ((.bool false), r5.2))
else
some ((.bool false), r5.2))
else
(if (n3 == (2 : Int)) = true then
((cell h1 (List.length h) 2).bind getStr).bind fun s8 =>
(run (Et base) 62 [(.string s8)] h1).bind fun r9 =>
((some r9.1).bind getB).bind fun b10 =>
(if b10 = true then
((cell r9.2 (List.length h) 1).bind (getI .i64)).bind fun n11 =>
(if (n11 == (0 : Int)) = true then
some ((.bool (((l2.2 : Nat) : Int) == (0 : Int))), r9.2)
else
some ((.bool false), r9.2))
else
some ((.bool false), r9.2))
else
(if (n3 == (3 : Int)) = true then
((cell h1 (List.length h) 1).bind (getI .i64)).bind fun n12 =>
(run (Et base) 47 [(.int .i64 n12), (.int .i64 (0 : Int)), (.int .i64 (99999 : Int))] h1).bind fun r13 =>
((some r13.1).bind getB).bind fun b14 =>
(if b14 = true then
((cell r13.2 (List.length h) 2).bind getStr).bind fun s15 =>
(if (s15.toList == (⟨#[]⟩ : ByteArray).toList) = true then
some ((.bool (((l2.2 : Nat) : Int) == (0 : Int))), r13.2)
else
some ((.bool false), r13.2))
else
some ((.bool false), r13.2))
else
(if (n3 == (4 : Int)) = true then
((cell h1 (List.length h) 1).bind (getI .i64)).bind fun n16 =>
(if (n16 == (0 : Int)) = true then
((cell h1 (List.length h) 2).bind getStr).bind fun s17 =>
(if (s17.toList == (⟨#[]⟩ : ByteArray).toList) = true then
some ((.bool (decide (((l2.2 : Nat) : Int) ≤ (8 : Int)))), h1)
else
some ((.bool false), h1))
else
some ((.bool false), h1))
else
(if (n3 == (5 : Int)) = true then
((cell h1 (List.length h) 1).bind (getI .i64)).bind fun n18 =>
(if (n18 == (0 : Int)) = true then
((cell h1 (List.length h) 2).bind getStr).bind fun s19 =>
(if (s19.toList == (⟨#[]⟩ : ByteArray).toList) = true then
some ((.bool (decide (((l2.2 : Nat) : Int) ≤ (20 : Int)))), h1)
else
some ((.bool false), h1))
else
some ((.bool false), h1))
else
(if (n3 == (6 : Int)) = true then
((cell h1 (List.length h) 1).bind (getI .i64)).bind fun n20 =>
(if (n20 == (0 : Int)) = true then
((cell h1 (List.length h) 2).bind getStr).bind fun s21 =>
(if (decide ((s21.size : Int) ≤ (40 : Int))) = true then
some ((.bool (((l2.2 : Nat) : Int) == (0 : Int))), h1)
else
some ((.bool false), h1))
else
some ((.bool false), h1))
else
some ((.bool false), h1))))))) : Option (Value × AH)) := by kernel_rfl
theorem r60 {base : Nat} {v0_0 : Int} {v0_1 : Int} {v0_2 : ByteArray} {v0_3 : Option Addr} {v0_3n : Nat} {h : AH} {r : Value × AH} (hx :
((some (h ++ [some ⟨[(.int .i64 v0_0), (.int .i64 v0_1), (.string v0_2), (.slice v0_3 v0_3n v0_3n)], 27⟩])).bind fun h1 =>
((cell h1 (List.length h) 3).bind getS).bind fun l2 =>
((cell h1 (List.length h) 0).bind (getI .i64)).bind fun n3 =>
(if (n3 == (1 : Int)) = true then
((cell h1 (List.length h) 1).bind (getI .i64)).bind fun n4 =>
(run (Et base) 47 [(.int .i64 n4), (.int .i64 (-1000000 : Int)), (.int .i64 (1000000 : Int))] h1).bind fun r5 =>
((some r5.1).bind getB).bind fun b6 =>
(if b6 = true then
((cell r5.2 (List.length h) 2).bind getStr).bind fun s7 =>
(if (s7.toList == (⟨#[]⟩ : ByteArray).toList) = true then
some ((.bool (((l2.2 : Nat) : Int) == (0 : Int))), r5.2)
else
some ((.bool false), r5.2))
else
some ((.bool false), r5.2))
else
(if (n3 == (2 : Int)) = true then
((cell h1 (List.length h) 2).bind getStr).bind fun s8 =>
(run (Et base) 62 [(.string s8)] h1).bind fun r9 =>
((some r9.1).bind getB).bind fun b10 =>
(if b10 = true then
((cell r9.2 (List.length h) 1).bind (getI .i64)).bind fun n11 =>
(if (n11 == (0 : Int)) = true then
some ((.bool (((l2.2 : Nat) : Int) == (0 : Int))), r9.2)
else
some ((.bool false), r9.2))
else
some ((.bool false), r9.2))
else
(if (n3 == (3 : Int)) = true then
((cell h1 (List.length h) 1).bind (getI .i64)).bind fun n12 =>
(run (Et base) 47 [(.int .i64 n12), (.int .i64 (0 : Int)), (.int .i64 (99999 : Int))] h1).bind fun r13 =>
((some r13.1).bind getB).bind fun b14 =>
(if b14 = true then
((cell r13.2 (List.length h) 2).bind getStr).bind fun s15 =>
(if (s15.toList == (⟨#[]⟩ : ByteArray).toList) = true then
some ((.bool (((l2.2 : Nat) : Int) == (0 : Int))), r13.2)
else
some ((.bool false), r13.2))
else
some ((.bool false), r13.2))
else
(if (n3 == (4 : Int)) = true then
((cell h1 (List.length h) 1).bind (getI .i64)).bind fun n16 =>
(if (n16 == (0 : Int)) = true then
((cell h1 (List.length h) 2).bind getStr).bind fun s17 =>
(if (s17.toList == (⟨#[]⟩ : ByteArray).toList) = true then
some ((.bool (decide (((l2.2 : Nat) : Int) ≤ (8 : Int)))), h1)
else
some ((.bool false), h1))
else
some ((.bool false), h1))
else
(if (n3 == (5 : Int)) = true then
((cell h1 (List.length h) 1).bind (getI .i64)).bind fun n18 =>
(if (n18 == (0 : Int)) = true then
((cell h1 (List.length h) 2).bind getStr).bind fun s19 =>
(if (s19.toList == (⟨#[]⟩ : ByteArray).toList) = true then
some ((.bool (decide (((l2.2 : Nat) : Int) ≤ (20 : Int)))), h1)
else
some ((.bool false), h1))
else
some ((.bool false), h1))
else
(if (n3 == (6 : Int)) = true then
((cell h1 (List.length h) 1).bind (getI .i64)).bind fun n20 =>
(if (n20 == (0 : Int)) = true then
((cell h1 (List.length h) 2).bind getStr).bind fun s21 =>
(if (decide ((s21.size : Int) ≤ (40 : Int))) = true then
some ((.bool (((l2.2 : Nat) : Int) == (0 : Int))), h1)
else
some ((.bool false), h1))
else
some ((.bool false), h1))
else
some ((.bool false), h1)))))))) = some r) : run (Et base) 60 [(.agg #[(.int .i64 v0_0), (.int .i64 v0_1), (.string v0_2), (.slice v0_3 v0_3n v0_3n)])] h = some r := run_i Try.func60 (by kernel_rfl) ((f60_eq base v0_0 v0_1 v0_2 v0_3 v0_3n h).trans hx)
/-! impl.AtomOk (gates 0) -/
noncomputable def B61_0 (base : Nat) : Body := fun l h => lay s61_0 l fun s => exCode (Et base) (run (Et base)) loopL a61_0 (subC [1, 0, 1, 0, 0] (bodyC Try.f61)) s h (keepK s61_0 e61_0)
theorem B61_0_eq (base : Nat) (v0 : ByteArray) (v3 : Int) (h : AH) : B61_0 base [some (.string v0), some (.int .i64 v3)] h =
((if (decide (v3 < (v0.size : Int))) = true then
((if 0 ≤ v3 ∧ v3 < (v0.size : Int) then
(run (Et base) 63 [(.int .u8 ((v0.data.toList.getD (Int.toNat v3) 0).toNat : Int))] h).bind fun r2 =>
((some r2.1).bind getB).bind fun b3 =>
(if (!b3) = true then
(if (v3 == (0 : Int)) = true then
some (.inl ([some (.string v0), some (.int .i64 v3), some (.bool true)], r2.2))
else
(if 0 ≤ v3 ∧ v3 < (v0.size : Int) then
(run (Et base) 64 [(.int .u8 ((v0.data.toList.getD (Int.toNat v3) 0).toNat : Int))] r2.2).bind fun r4 =>
((some r4.1).bind getB).bind fun b5 =>
some (.inl ([some (.string v0), some (.int .i64 v3), some (.bool (!b5))], r4.2))
else none))
else
some (.inl ([some (.string v0), some (.int .i64 v3), some (.bool false)], r2.2)))
else none)).bind fun j1 => joinK j1 fun j1 =>
((sget j1.1 0).bind getStr).bind fun s6 =>
((sget (j1.1.tail) 0).bind (getI .i64)).bind fun n7 =>
((sget (j1.1.tail.tail) 0).bind getB).bind fun b8 =>
(if b8 = true then
some (1, [some (.bool false)], j1.2)
else
some (0, [some (.string s6), some (.int .i64 (IntKind.wrap .i64 (n7 + (1 : Int))))], j1.2))
else
some (2, [some (.string v0)], h)) : Option (Nat × Slots × AH)) := by kernel_rfl
theorem f61_eq (base : Nat) (v0 : ByteArray) (h : AH) : exFun (Et base) (run (Et base)) loopL a61 Try.f61 [(.string v0)] h =
((loopL (B61_0 base) [some (.string v0), some (.int .i64 (0 : Int))] h).bind fun q1 =>
(if q1.1 = 1 then
((sget q1.2.1 0).bind getB).bind fun b2 =>
some ((.bool b2), q1.2.2)
else
(if q1.1 = 2 then
((sget q1.2.1 0).bind getStr).bind fun s3 =>
(run (Et base) 44 [(.int .i64 (s3.size : Int)), (.int .i64 (1 : Int)), (.int .i64 (12 : Int))] q1.2.2).bind fun r4 =>
((some r4.1).bind getB).bind fun b5 =>
some ((.bool b5), r4.2)
else
none)) : Option (Value × AH)) := by kernel_rfl
theorem r61 {base : Nat} {v0 : ByteArray} {h : AH} {r : Value × AH} (hx :
((loopL (B61_0 base) [some (.string v0), some (.int .i64 (0 : Int))] h).bind fun q1 =>
(if q1.1 = 1 then
((sget q1.2.1 0).bind getB).bind fun b2 =>
some ((.bool b2), q1.2.2)
else
(if q1.1 = 2 then
((sget q1.2.1 0).bind getStr).bind fun s3 =>
(run (Et base) 44 [(.int .i64 (s3.size : Int)), (.int .i64 (1 : Int)), (.int .i64 (12 : Int))] q1.2.2).bind fun r4 =>
((some r4.1).bind getB).bind fun b5 =>
some ((.bool b5), r4.2)
else
none))) = some r) : run (Et base) 61 [(.string v0)] h = some r := run_i Try.func61 (by kernel_rfl) ((f61_eq base v0 h).trans hx)
/-! spec.AtomOk (gates 0) -/
noncomputable def B62_0 (base : Nat) : Body := fun l h => lay s62_0 l fun s => exCode (Et base) (run (Et base)) loopL a62_0 (subC [1, 0, 1, 0, 0] (bodyC Try.f62)) s h (keepK s62_0 e62_0)
theorem B62_0_eq (base : Nat) (v0 : ByteArray) (v3 : Int) (h : AH) : B62_0 base [some (.string v0), some (.int .i64 v3)] h =
((if (decide (v3 < (v0.size : Int))) = true then
(if 0 ≤ v3 ∧ v3 < (v0.size : Int) then
(run (Et base) 47 [(.int .i64 (IntKind.wrap .i64 ((v0.data.toList.getD (Int.toNat v3) 0).toNat : Int))), (.int .i64 (97 : Int)), (.int .i64 (122 : Int))] h).bind fun r1 =>
((some r1.1).bind getB).bind fun b2 =>
((if (!b2) = true then
(if (v3 == (0 : Int)) = true then
some (.inl ([some (.string v0), some (.int .i64 v3), some (.bool true)], r1.2))
else
(if 0 ≤ v3 ∧ v3 < (v0.size : Int) then
(run (Et base) 47 [(.int .i64 (IntKind.wrap .i64 ((v0.data.toList.getD (Int.toNat v3) 0).toNat : Int))), (.int .i64 (48 : Int)), (.int .i64 (57 : Int))] r1.2).bind fun r4 =>
((some r4.1).bind getB).bind fun b5 =>
some (.inl ([some (.string v0), some (.int .i64 v3), some (.bool (!b5))], r4.2))
else none))
else
some (.inl ([some (.string v0), some (.int .i64 v3), some (.bool false)], r1.2)))).bind fun j3 => joinK j3 fun j3 =>
((sget j3.1 0).bind getStr).bind fun s6 =>
((sget (j3.1.tail) 0).bind (getI .i64)).bind fun n7 =>
((sget (j3.1.tail.tail) 0).bind getB).bind fun b8 =>
(if b8 = true then
some (1, [some (.bool false)], j3.2)
else
some (0, [some (.string s6), some (.int .i64 (IntKind.wrap .i64 (n7 + (1 : Int))))], j3.2))
else none)
else
some (2, [some (.string v0)], h)) : Option (Nat × Slots × AH)) := by kernel_rfl
theorem f62_eq (base : Nat) (v0 : ByteArray) (h : AH) : exFun (Et base) (run (Et base)) loopL a62 Try.f62 [(.string v0)] h =
((loopL (B62_0 base) [some (.string v0), some (.int .i64 (0 : Int))] h).bind fun q1 =>
(if q1.1 = 1 then
((sget q1.2.1 0).bind getB).bind fun b2 =>
some ((.bool b2), q1.2.2)
else
(if q1.1 = 2 then
((sget q1.2.1 0).bind getStr).bind fun s3 =>
(run (Et base) 47 [(.int .i64 (s3.size : Int)), (.int .i64 (1 : Int)), (.int .i64 (12 : Int))] q1.2.2).bind fun r4 =>
((some r4.1).bind getB).bind fun b5 =>
some ((.bool b5), r4.2)
else
none)) : Option (Value × AH)) := by kernel_rfl
theorem r62 {base : Nat} {v0 : ByteArray} {h : AH} {r : Value × AH} (hx :
((loopL (B62_0 base) [some (.string v0), some (.int .i64 (0 : Int))] h).bind fun q1 =>
(if q1.1 = 1 then
((sget q1.2.1 0).bind getB).bind fun b2 =>
some ((.bool b2), q1.2.2)
else
(if q1.1 = 2 then
((sget q1.2.1 0).bind getStr).bind fun s3 =>
(run (Et base) 47 [(.int .i64 (s3.size : Int)), (.int .i64 (1 : Int)), (.int .i64 (12 : Int))] q1.2.2).bind fun r4 =>
((some r4.1).bind getB).bind fun b5 =>
some ((.bool b5), r4.2)
else
none))) = some r) : run (Et base) 62 [(.string v0)] h = some r := run_i Try.func62 (by kernel_rfl) ((f62_eq base v0 h).trans hx)
/-! impl.isSmall (gates 0) -/
theorem f63_eq (base : Nat) (v0 : Int) (h : AH) : exFun (Et base) (run (Et base)) loopL a63 Try.f63 [(.int .u8 v0)] h =
((if (decide (v0 ≥ (97 : Int))) = true then
some ((.bool (decide (v0 ≤ (122 : Int)))), h)
else
some ((.bool false), h)) : Option (Value × AH)) := by kernel_rfl
theorem r63 {base : Nat} {v0 : Int} {h : AH} {r : Value × AH} (hx :
((if (decide (v0 ≥ (97 : Int))) = true then
some ((.bool (decide (v0 ≤ (122 : Int)))), h)
else
some ((.bool false), h))) = some r) : run (Et base) 63 [(.int .u8 v0)] h = some r := run_i Try.func63 (by kernel_rfl) ((f63_eq base v0 h).trans hx)
/-! impl.isDigit (gates 0) -/
theorem f64_eq (base : Nat) (v0 : Int) (h : AH) : exFun (Et base) (run (Et base)) loopL a64 Try.f64 [(.int .u8 v0)] h =
((if (decide (v0 ≥ (48 : Int))) = true then
some ((.bool (decide (v0 ≤ (57 : Int)))), h)
else
some ((.bool false), h)) : Option (Value × AH)) := by kernel_rfl
theorem r64 {base : Nat} {v0 : Int} {h : AH} {r : Value × AH} (hx :
((if (decide (v0 ≥ (48 : Int))) = true then
some ((.bool (decide (v0 ≤ (57 : Int)))), h)
else
some ((.bool false), h))) = some r) : run (Et base) 64 [(.int .u8 v0)] h = some r := run_i Try.func64 (by kernel_rfl) ((f64_eq base v0 h).trans hx)
end Go.Proofs.Ytomcfongmahjaaa.Am
