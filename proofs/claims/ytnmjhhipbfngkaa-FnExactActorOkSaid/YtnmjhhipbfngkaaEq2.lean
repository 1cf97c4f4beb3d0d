/- What each of these functions comes to on the abstract machine, one equation a function and one a loop.
Conditions: none. -/
import Derived.Test.YtnmjhhipbfngkaaTb
set_option linter.unusedVariables false
namespace Go.Proofs.Ytnmjhhipbfngkaa.Am
open Go Go.RowKit
/-! spec.TermOk (gates 0) -/
theorem f63_eq (base : Nat) (v0_0 : Int) (v0_1 : Int) (v0_2 : ByteArray) (v0_3 : Option Addr) (v0_3n : Nat) (h : AH) : exFun (Et base) (run (Et base)) loopL a63 Try.f63 [(.agg #[(.int .i64 v0_0), (.int .i64 v0_1), (.string v0_2), (.slice v0_3 v0_3n v0_3n)])] h =
((some (h ++ [some ⟨[(.int .i64 v0_0), (.int .i64 v0_1), (.string v0_2), (.slice v0_3 v0_3n v0_3n)], 32⟩])).bind fun h1 =>
((cell h1 (List.length h) 0).bind (getI .i64)).bind fun n2 =>
((cell h1 (List.length h) 1).bind (getI .i64)).bind fun n3 =>
((cell h1 (List.length h) 2).bind getStr).bind fun s4 =>
((cell h1 (List.length h) 3).bind getS).bind fun l5 =>
(run (Et base) 117 [(.agg #[(.int .i64 n2), (.int .i64 n3), (.string s4), (.slice l5.1 l5.2 l5.2)]), (.int .i64 (6 : Int)), (.int .i64 (100 : Int))] h1).bind fun r6 =>
((some r6.1).bind (getI .i64)).bind fun n7 =>
some ((.bool (decide (n7 ≥ (0 : Int)))), r6.2) : Option (Value × AH)) := by kernel_rfl
theorem r63 {base : Nat} {v0_0 : Int} {v0_1 : Int} {v0_2 : ByteArray} {v0_3 : Option Addr} {v0_3n : Nat} {h : AH} {r : Value × AH} (hx :
((some (h ++ [some ⟨[(.int .i64 v0_0), (.int .i64 v0_1), (.string v0_2), (.slice v0_3 v0_3n v0_3n)], 32⟩])).bind fun h1 =>
((cell h1 (List.length h) 0).bind (getI .i64)).bind fun n2 =>
((cell h1 (List.length h) 1).bind (getI .i64)).bind fun n3 =>
((cell h1 (List.length h) 2).bind getStr).bind fun s4 =>
((cell h1 (List.length h) 3).bind getS).bind fun l5 =>
(run (Et base) 117 [(.agg #[(.int .i64 n2), (.int .i64 n3), (.string s4), (.slice l5.1 l5.2 l5.2)]), (.int .i64 (6 : Int)), (.int .i64 (100 : Int))] h1).bind fun r6 =>
((some r6.1).bind (getI .i64)).bind fun n7 =>
some ((.bool (decide (n7 ≥ (0 : Int)))), r6.2)) = some r) : run (Et base) 63 [(.agg #[(.int .i64 v0_0), (.int .i64 v0_1), (.string v0_2), (.slice v0_3 v0_3n v0_3n)])] h = some r := run_i Try.func63 (by kernel_rfl) ((f63_eq base v0_0 v0_1 v0_2 v0_3 v0_3n h).trans hx)
/-! impl.TermOk (gates 0) -/
theorem f68_eq (base : Nat) (v0_0 : Int) (v0_1 : Int) (v0_2 : ByteArray) (v0_3 : Option Addr) (v0_3n : Nat) (h : AH) : exFun (Et base) (run (Et base)) loopL a68 Try.f68 [(.agg #[(.int .i64 v0_0), (.int .i64 v0_1), (.string v0_2), (.slice v0_3 v0_3n v0_3n)])] h =
((some (h ++ [some ⟨[(.int .i64 v0_0), (.int .i64 v0_1), (.string v0_2), (.slice v0_3 v0_3n v0_3n)], 32⟩])).bind fun h1 =>
((cell h1 (List.length h) 0).bind (getI .i64)).bind fun n2 =>
((cell h1 (List.length h) 1).bind (getI .i64)).bind fun n3 =>
((cell h1 (List.length h) 2).bind getStr).bind fun s4 =>
((cell h1 (List.length h) 3).bind getS).bind fun l5 =>
(run (Et base) 118 [(.agg #[(.int .i64 n2), (.int .i64 n3), (.string s4), (.slice l5.1 l5.2 l5.2)]), (.int .i64 (1 : Int)), (.int .i64 (0 : Int))] h1).bind fun r6 =>
(getTup 2 r6.1).bind fun l7 =>
((l7[0]?).bind (getI .i64)).bind fun n8 =>
((l7[1]?).bind getB).bind fun b9 =>
some ((.bool b9), r6.2) : Option (Value × AH)) := by kernel_rfl
theorem r68 {base : Nat} {v0_0 : Int} {v0_1 : Int} {v0_2 : ByteArray} {v0_3 : Option Addr} {v0_3n : Nat} {h : AH} {r : Value × AH} (hx :
((some (h ++ [some ⟨[(.int .i64 v0_0), (.int .i64 v0_1), (.string v0_2), (.slice v0_3 v0_3n v0_3n)], 32⟩])).bind fun h1 =>
((cell h1 (List.length h) 0).bind (getI .i64)).bind fun n2 =>
((cell h1 (List.length h) 1).bind (getI .i64)).bind fun n3 =>
((cell h1 (List.length h) 2).bind getStr).bind fun s4 =>
((cell h1 (List.length h) 3).bind getS).bind fun l5 =>
(run (Et base) 118 [(.agg #[(.int .i64 n2), (.int .i64 n3), (.string s4), (.slice l5.1 l5.2 l5.2)]), (.int .i64 (1 : Int)), (.int .i64 (0 : Int))] h1).bind fun r6 =>
(getTup 2 r6.1).bind fun l7 =>
((l7[0]?).bind (getI .i64)).bind fun n8 =>
((l7[1]?).bind getB).bind fun b9 =>
some ((.bool b9), r6.2)) = some r) : run (Et base) 68 [(.agg #[(.int .i64 v0_0), (.int .i64 v0_1), (.string v0_2), (.slice v0_3 v0_3n v0_3n)])] h = some r := run_i Try.func68 (by kernel_rfl) ((f68_eq base v0_0 v0_1 v0_2 v0_3 v0_3n h).trans hx)
/-! spec.l1Look (gates 0) -/
noncomputable def B117_0 (base : Nat) : Body := fun l h => lay s117_0 l fun s => exCode (Et base) (run (Et base)) loopL a117_0 (subC [1, 1, 1, 0, 1, 0, 0] (bodyC Try.f117)) s h (keepK s117_0 e117_0)
theorem B117_0_eq (base : Nat) (v1 : Int) (v2 : Int) (v3 : Addr) (v7 : Int) (h : AH) : B117_0 base [some (.int .i64 v1), some (.int .i64 v2), some (.pointer (some v3)), some (.int .i64 v7)] h =
((((cell h v3.block (v3.off + 3)).bind getS).bind fun l2 =>
(if (decide (v7 < ((l2.2 : Nat) : Int))) = true then
some (.inl ([some (.int .i64 v1), some (.int .i64 v2), some (.pointer (some v3)), some (.int .i64 v7), some (.bool (decide (v2 ≥ (0 : Int))))], h))
else
some (.inl ([some (.int .i64 v1), some (.int .i64 v2), some (.pointer (some v3)), some (.int .i64 v7), some (.bool false)], h)))).bind fun j1 => joinK j1 fun j1 =>
((sget j1.1 0).bind (getI .i64)).bind fun n3 =>
((sget (j1.1.tail) 0).bind (getI .i64)).bind fun n4 =>
((sget (j1.1.tail.tail) 0).bind getA).bind fun d5 =>
((sget (j1.1.tail.tail.tail) 0).bind (getI .i64)).bind fun n6 =>
((sget (j1.1.tail.tail.tail.tail) 0).bind getB).bind fun b7 =>
(if b7 = true then
((cell j1.2 d5.block (d5.off + 3)).bind getS).bind fun l8 =>
(if 0 ≤ n6 ∧ n6 < ((l8.2 : Nat) : Int) then
((l8.1 : Option Addr)).bind fun a9 =>
((cell j1.2 a9.block (a9.off + Int.toNat n6 * 4)).bind (getI .i64)).bind fun n10 =>
((cell j1.2 a9.block ((a9.off + Int.toNat n6 * 4) + 1)).bind (getI .i64)).bind fun n11 =>
((cell j1.2 a9.block (((a9.off + Int.toNat n6 * 4) + 1) + 1)).bind getStr).bind fun s12 =>
((cell j1.2 a9.block ((((a9.off + Int.toNat n6 * 4) + 1) + 1) + 1)).bind getS).bind fun l13 =>
(run (Et base) 117 [(.agg #[(.int .i64 n10), (.int .i64 n11), (.string s12), (.slice l13.1 l13.2 l13.2)]), (.int .i64 (IntKind.wrap .i64 (n3 - (1 : Int)))), (.int .i64 n4)] j1.2).bind fun r14 =>
((some r14.1).bind (getI .i64)).bind fun n15 =>
some (0, [some (.int .i64 n3), some (.int .i64 n15), some (.pointer (some d5)), some (.int .i64 (IntKind.wrap .i64 (n6 + (1 : Int))))], r14.2)
else none)
else
some (2, [some (.int .i64 n4)], j1.2)) : Option (Nat × Slots × AH)) := by kernel_rfl
theorem f117_eq (base : Nat) (v0_0 : Int) (v0_1 : Int) (v0_2 : ByteArray) (v0_3 : Option Addr) (v0_3n : Nat) (v1 : Int) (v2 : Int) (h : AH) : exFun (Et base) (run (Et base)) loopL a117 Try.f117 [(.agg #[(.int .i64 v0_0), (.int .i64 v0_1), (.string v0_2), (.slice v0_3 v0_3n v0_3n)]), (.int .i64 v1), (.int .i64 v2)] h =
((some (h ++ [some ⟨[(.int .i64 v0_0), (.int .i64 v0_1), (.string v0_2), (.slice v0_3 v0_3n v0_3n)], 32⟩])).bind fun h1 =>
((if (decide (v1 < (1 : Int))) = true then
some (.inl ([some (.int .i64 v1), some (.int .i64 v2), some (.pointer (some ⟨(List.length h), 0, none⟩)), some (.bool true)], h1))
else
(if (decide (v2 < (1 : Int))) = true then
some (.inl ([some (.int .i64 v1), some (.int .i64 v2), some (.pointer (some ⟨(List.length h), 0, none⟩)), some (.bool true)], h1))
else
((cell h1 (List.length h) 0).bind (getI .i64)).bind fun n3 =>
((cell h1 (List.length h) 1).bind (getI .i64)).bind fun n4 =>
((cell h1 (List.length h) 2).bind getStr).bind fun s5 =>
((cell h1 (List.length h) 3).bind getS).bind fun l6 =>
(run (Et base) 139 [(.agg #[(.int .i64 n3), (.int .i64 n4), (.string s5), (.slice l6.1 l6.2 l6.2)])] h1).bind fun r7 =>
((some r7.1).bind getB).bind fun b8 =>
some (.inl ([some (.int .i64 v1), some (.int .i64 v2), some (.pointer (some ⟨(List.length h), 0, none⟩)), some (.bool (!b8))], r7.2))))).bind fun j2 => joinK j2 fun j2 =>
((sget j2.1 0).bind (getI .i64)).bind fun n9 =>
((sget (j2.1.tail) 0).bind (getI .i64)).bind fun n10 =>
((sget (j2.1.tail.tail) 0).bind getA).bind fun d11 =>
((sget (j2.1.tail.tail.tail) 0).bind getB).bind fun b12 =>
(if b12 = true then
some ((.int .i64 (-1 : Int)), j2.2)
else
(loopL (B117_0 base) [some (.int .i64 n9), some (.int .i64 (IntKind.wrap .i64 (n10 - (1 : Int)))), some (.pointer (some d11)), some (.int .i64 (0 : Int))] j2.2).bind fun q13 =>
(if q13.1 = 2 then
((sget q13.2.1 0).bind (getI .i64)).bind fun n14 =>
some ((.int .i64 n14), q13.2.2)
else
none)) : Option (Value × AH)) := by kernel_rfl
theorem r117 {base : Nat} {v0_0 : Int} {v0_1 : Int} {v0_2 : ByteArray} {v0_3 : Option Addr} {v0_3n : Nat} {v1 : Int} {v2 : Int} {h : AH} {r : Value × AH} (hx :
((some (h ++ [some ⟨[(.int .i64 v0_0), (.int .i64 v0_1), (.string v0_2), (.slice v0_3 v0_3n v0_3n)], 32⟩])).bind fun h1 =>
((if (decide (v1 < (1 : Int))) = true then
some (.inl ([some (.int .i64 v1), some (.int .i64 v2), some (.pointer (some ⟨(List.length h), 0, none⟩)), some (.bool true)], h1))
else
(if (decide (v2 < (1 : Int))) = true then
some (.inl ([some (.int .i64 v1), some (.int .i64 v2), some (.pointer (some ⟨(List.length h), 0, none⟩)), some (.bool true)], h1))
else
((cell h1 (List.length h) 0).bind (getI .i64)).bind fun n3 =>
((cell h1 (List.length h) 1).bind (getI .i64)).bind fun n4 =>
((cell h1 (List.length h) 2).bind getStr).bind fun s5 =>
((cell h1 (List.length h) 3).bind getS).bind fun l6 =>
(run (Et base) 139 [(.agg #[(.int .i64 n3), (.int .i64 n4), (.string s5), (.slice l6.1 l6.2 l6.2)])] h1).bind fun r7 =>
((some r7.1).bind getB).bind fun b8 =>
some (.inl ([some (.int .i64 v1), some (.int .i64 v2), some (.pointer (some ⟨(List.length h), 0, none⟩)), some (.bool (!b8))], r7.2))))).bind fun j2 => joinK j2 fun j2 =>
((sget j2.1 0).bind (getI .i64)).bind fun n9 =>
((sget (j2.1.tail) 0).bind (getI .i64)).bind fun n10 =>
((sget (j2.1.tail.tail) 0).bind getA).bind fun d11 =>
((sget (j2.1.tail.tail.tail) 0).bind getB).bind fun b12 =>
(if b12 = true then
some ((.int .i64 (-1 : Int)), j2.2)
else
(loopL (B117_0 base) [some (.int .i64 n9), some (.int .i64 (IntKind.wrap .i64 (n10 - (1 : Int)))), some (.pointer (some d11)), some (.int .i64 (0 : Int))] j2.2).bind fun q13 =>
(if q13.1 = 2 then
((sget q13.2.1 0).bind (getI .i64)).bind fun n14 =>
some ((.int .i64 n14), q13.2.2)
else
none))) = some r) : run (Et base) 117 [(.agg #[(.int .i64 v0_0), (.int .i64 v0_1), (.string v0_2), (.slice v0_3 v0_3n v0_3n)]), (.int .i64 v1), (.int .i64 v2)] h = some r := run_i Try.func117 (by kernel_rfl) ((f117_eq base v0_0 v0_1 v0_2 v0_3 v0_3n v1 v2 h).trans hx)
/-! impl.counted (gates 0) -/
noncomputable def B118_0 (base : Nat) : Body := fun l h => lay s118_0 l fun s => exCode (Et base) (run (Et base)) loopL a118_0 (subC [1, 1, 1, 0, 1, 0, 0] (bodyC Try.f118)) s h (keepK s118_0 e118_0)
theorem B118_0_eq (base : Nat) (v1 : Int) (v2 : Int) (v27 : Option Addr) (v27n : Nat) (v28 : Int) (v29 : Int) (h : AH) : B118_0 base [some (.int .i64 v1), some (.int .i64 v2), some (.slice v27 v27n v27n), some (.int .i64 v28), some (.int .i64 v29)] h =
((if (decide (v29 < v28)) = true then
(if 0 ≤ v29 ∧ v29 < ((v27n : Nat) : Int) then
((v27 : Option Addr)).bind fun a1 =>
((cell h a1.block (a1.off + Int.toNat v29 * 4)).bind (getI .i64)).bind fun n2 =>
((cell h a1.block ((a1.off + Int.toNat v29 * 4) + 1)).bind (getI .i64)).bind fun n3 =>
((cell h a1.block (((a1.off + Int.toNat v29 * 4) + 1) + 1)).bind getStr).bind fun s4 =>
((cell h a1.block ((((a1.off + Int.toNat v29 * 4) + 1) + 1) + 1)).bind getS).bind fun l5 =>
(some (h ++ [some ⟨[(.int .i64 0), (.int .i64 0), (.string ⟨#[]⟩), (.slice none 0 0)], 32⟩])).bind fun h6 =>
(wr base h6 (List.length h) 0 [(.int .i64 n2), (.int .i64 n3), (.string s4), (.slice l5.1 l5.2 l5.2)]).bind fun h7 =>
((cell h7 (List.length h) 0).bind (getI .i64)).bind fun n8 =>
((cell h7 (List.length h) 1).bind (getI .i64)).bind fun n9 =>
((cell h7 (List.length h) 2).bind getStr).bind fun s10 =>
((cell h7 (List.length h) 3).bind getS).bind fun l11 =>
(run (Et base) 118 [(.agg #[(.int .i64 n8), (.int .i64 n9), (.string s10), (.slice l11.1 l11.2 l11.2)]), (.int .i64 (IntKind.wrap .i64 (v1 + (1 : Int)))), (.int .i64 v2)] h7).bind fun r12 =>
(getTup 2 r12.1).bind fun l13 =>
((l13[0]?).bind (getI .i64)).bind fun n14 =>
((l13[1]?).bind getB).bind fun b15 =>
(if (!b15) = true then
some (1, [some (.int .i64 n14), some (.bool false)], r12.2)
else
some (0, [some (.int .i64 v1), some (.int .i64 n14), some (.slice v27 v27n v27n), some (.int .i64 v28), some (.int .i64 (IntKind.wrap .i64 (v29 + (1 : Int))))], r12.2))
else none)
else
some (2, [some (.int .i64 v2)], h)) : Option (Nat × Slots × AH)) := by kernel_rfl
theorem f118_eq (base : Nat) (v0_0 : Int) (v0_1 : Int) (v0_2 : ByteArray) (v0_3 : Option Addr) (v0_3n : Nat) (v1 : Int) (v2 : Int) (h : AH) : exFun (Et base) (run (Et base)) loopL a118 Try.f118 [(.agg #[(.int .i64 v0_0), (.int .i64 v0_1), (.string v0_2), (.slice v0_3 v0_3n v0_3n)]), (.int .i64 v1), (.int .i64 v2)] h =
((some (h ++ [some ⟨[(.int .i64 v0_0), (.int .i64 v0_1), (.string v0_2), (.slice v0_3 v0_3n v0_3n)], 32⟩])).bind fun h1 =>
((if (decide (v1 > (6 : Int))) = true then
some (.inl ([some (.int .i64 v1), some (.int .i64 (IntKind.wrap .i64 (v2 + (1 : Int)))), some (.pointer (some ⟨(List.length h), 0, none⟩)), some (.bool true)], h1))
else
(if (decide ((IntKind.wrap .i64 (v2 + (1 : Int))) > (100 : Int))) = true then
some (.inl ([some (.int .i64 v1), some (.int .i64 (IntKind.wrap .i64 (v2 + (1 : Int)))), some (.pointer (some ⟨(List.length h), 0, none⟩)), some (.bool true)], h1))
else
((cell h1 (List.length h) 0).bind (getI .i64)).bind fun n3 =>
((cell h1 (List.length h) 1).bind (getI .i64)).bind fun n4 =>
((cell h1 (List.length h) 2).bind getStr).bind fun s5 =>
((cell h1 (List.length h) 3).bind getS).bind fun l6 =>
(run (Et base) 140 [(.agg #[(.int .i64 n3), (.int .i64 n4), (.string s5), (.slice l6.1 l6.2 l6.2)])] h1).bind fun r7 =>
((some r7.1).bind getB).bind fun b8 =>
some (.inl ([some (.int .i64 v1), some (.int .i64 (IntKind.wrap .i64 (v2 + (1 : Int)))), some (.pointer (some ⟨(List.length h), 0, none⟩)), some (.bool (!b8))], r7.2))))).bind fun j2 => joinK j2 fun j2 =>
((sget j2.1 0).bind (getI .i64)).bind fun n9 =>
((sget (j2.1.tail) 0).bind (getI .i64)).bind fun n10 =>
((sget (j2.1.tail.tail) 0).bind getA).bind fun d11 =>
((sget (j2.1.tail.tail.tail) 0).bind getB).bind fun b12 =>
(if b12 = true then
some ((.tuple #[(.int .i64 n10), (.bool false)]), j2.2)
else
((cell j2.2 d11.block (d11.off + 3)).bind getS).bind fun l13 =>
(loopL (B118_0 base) [some (.int .i64 n9), some (.int .i64 n10), some (.slice l13.1 l13.2 l13.2), some (.int .i64 ((l13.2 : Nat) : Int)), some (.int .i64 (0 : Int))] j2.2).bind fun q14 =>
(if q14.1 = 1 then
((sget q14.2.1 0).bind (getI .i64)).bind fun n15 =>
((sget (q14.2.1.tail) 0).bind getB).bind fun b16 =>
some ((.tuple #[(.int .i64 n15), (.bool b16)]), q14.2.2)
else
(if q14.1 = 2 then
((sget q14.2.1 0).bind (getI .i64)).bind fun n17 =>
some ((.tuple #[(.int .i64 n17), (.bool true)]), q14.2.2)
else
none))) : Option (Value × AH)) := by kernel_rfl
theorem r118 {base : Nat} {v0_0 : Int} {v0_1 : Int} {v0_2 : ByteArray} {v0_3 : Option Addr} {v0_3n : Nat} {v1 : Int} {v2 : Int} {h : AH} {r : Value × AH} (hx :
((some (h ++ [some ⟨[(.int .i64 v0_0), (.int .i64 v0_1), (.string v0_2), (.slice v0_3 v0_3n v0_3n)], 32⟩])).bind fun h1 =>
((if (decide (v1 > (6 : Int))) = true then
some (.inl ([some (.int .i64 v1), some (.int .i64 (IntKind.wrap .i64 (v2 + (1 : Int)))), some (.pointer (some ⟨(List.length h), 0, none⟩)), some (.bool true)], h1))
else
(if (decide ((IntKind.wrap .i64 (v2 + (1 : Int))) > (100 : Int))) = true then
some (.inl ([some (.int .i64 v1), some (.int .i64 (IntKind.wrap .i64 (v2 + (1 : Int)))), some (.pointer (some ⟨(List.length h), 0, none⟩)), some (.bool true)], h1))
else
((cell h1 (List.length h) 0).bind (getI .i64)).bind fun n3 =>
((cell h1 (List.length h) 1).bind (getI .i64)).bind fun n4 =>
((cell h1 (List.length h) 2).bind getStr).bind fun s5 =>
((cell h1 (List.length h) 3).bind getS).bind fun l6 =>
(run (Et base) 140 [(.agg #[(.int .i64 n3), (.int .i64 n4), (.string s5), (.slice l6.1 l6.2 l6.2)])] h1).bind fun r7 =>
((some r7.1).bind getB).bind fun b8 =>
some (.inl ([some (.int .i64 v1), some (.int .i64 (IntKind.wrap .i64 (v2 + (1 : Int)))), some (.pointer (some ⟨(List.length h), 0, none⟩)), some (.bool (!b8))], r7.2))))).bind fun j2 => joinK j2 fun j2 =>
((sget j2.1 0).bind (getI .i64)).bind fun n9 =>
((sget (j2.1.tail) 0).bind (getI .i64)).bind fun n10 =>
((sget (j2.1.tail.tail) 0).bind getA).bind fun d11 =>
((sget (j2.1.tail.tail.tail) 0).bind getB).bind fun b12 =>
(if b12 = true then
some ((.tuple #[(.int .i64 n10), (.bool false)]), j2.2)
else
((cell j2.2 d11.block (d11.off + 3)).bind getS).bind fun l13 =>
(loopL (B118_0 base) [some (.int .i64 n9), some (.int .i64 n10), some (.slice l13.1 l13.2 l13.2), some (.int .i64 ((l13.2 : Nat) : Int)), some (.int .i64 (0 : Int))] j2.2).bind fun q14 =>
(if q14.1 = 1 then
((sget q14.2.1 0).bind (getI .i64)).bind fun n15 =>
((sget (q14.2.1.tail) 0).bind getB).bind fun b16 =>
some ((.tuple #[(.int .i64 n15), (.bool b16)]), q14.2.2)
else
(if q14.1 = 2 then
((sget q14.2.1 0).bind (getI .i64)).bind fun n17 =>
some ((.tuple #[(.int .i64 n17), (.bool true)]), q14.2.2)
else
none)))) = some r) : run (Et base) 118 [(.agg #[(.int .i64 v0_0), (.int .i64 v0_1), (.string v0_2), (.slice v0_3 v0_3n v0_3n)]), (.int .i64 v1), (.int .i64 v2)] h = some r := run_i Try.func118 (by kernel_rfl) ((f118_eq base v0_0 v0_1 v0_2 v0_3 v0_3n v1 v2 h).trans hx)
/-! spec.l1Shape (gates 0) -/
theorem f139_eq (base : Nat) (v0_0 : Int) (v0_1 : Int) (v0_2 : ByteArray) (v0_3 : Option Addr) (v0_3n : Nat) (h : AH) : exFun (Et base) (run (Et base)) loopL a139 Try.f139 [(.agg #[(.int .i64 v0_0), (.int .i64 v0_1), (.string v0_2), (.slice v0_3 v0_3n v0_3n)])] h =
((some (h ++ [some ⟨[(.int .i64 v0_0), (.int .i64 v0_1), (.string v0_2), (.slice v0_3 v0_3n v0_3n)], 32⟩])).bind fun h1 =>
((cell h1 (List.length h) 3).bind getS).bind fun l2 =>
((cell h1 (List.length h) 0).bind (getI .i64)).bind fun n3 =>
(if (n3 == (1 : Int)) = true then
((cell h1 (List.length h) 1).bind (getI .i64)).bind fun n4 =>
(run (Et base) 62 [(.int .i64 n4), (.int .i64 (-1000000 : Int)), (.int .i64 (1000000 : Int))] h1).bind fun r5 =>
((some r5.1).bind getB).bind fun b6 =>
(if b6 = true then
((cell r5.2 (List.length h) 2).bind getStr).bind fun s7 =>
(if (s7.toList == (⟨#[]⟩ : ByteArray).toList) = true then
some ((.bool (((l2.2 : Nat) : Int) == (0 : Int))), r5.2)
else
some ((.bool false), r5.2))
else
some ((.bool false), r5.2))
else
(if (n3 == (2 : Int)) = true then
((cell h1 (List.length h) 2).bind getStr).bind fun s8 =>
(run (Et base) 143 [(.string s8)] h1).bind fun r9 =>
((some r9.1).bind getB).bind fun b10 =>
(if b10 = true then
((cell r9.2 (List.length h) 1).bind (getI .i64)).bind fun n11 =>
(if (n11 == (0 : Int)) = true then
some ((.bool (((l2.2 : Nat) : Int) == (0 : Int))), r9.2)
else
some ((.bool false), r9.2))
else
some ((.bool false), r9.2))
else
(if (n3 == (3 : Int)) = true then
((cell h1 (List.length h) 1).bind (getI .i64)).bind fun n12 =>
(run (Et base) 62 [(.int .i64 n12), (.int .i64 (0 : Int)), (.int .i64 (99999 : Int))] h1).bind fun r13 =>
((some r13.1).bind getB).bind fun b14 =>
(if b14 = true then
((cell r13.2 (List.length h) 2).bind getStr).bind fun s15 =>
(if (s15.toList == (⟨#[]⟩ : ByteArray).toList) = true then
some ((.bool (((l2.2 : Nat) : Int) == (0 : Int))), r13.2)
else
some ((.bool false), r13.2))
else
some ((.bool false), r13.2))
else
(if (n3 == (4 : Int)) = true then
((cell h1 (List.length h) 1).bind (getI .i64)).bind fun n16 =>
(if (n16 == (0 : Int)) = true then
((cell h1 (List.length h) 2).bind getStr).bind fun s17 =>
(if (s17.toList == (⟨#[]⟩ : ByteArray).toList) = true then
some ((.bool (decide (((l2.2 : Nat) : Int) ≤ (8 : Int)))), h1)
else
some ((.bool false), h1))
else
some ((.bool false), h1))
else
(if (n3 == (5 : Int)) = true then
((cell h1 (List.length h) 1).bind (getI .i64)).bind fun n18 =>
(if (n18 == (0 : Int)) = true then
((cell h1 (List.length h) 2).bind getStr).bind fun s19 =>
(if (s19.toList == (⟨#[]⟩ : ByteArray).toList) = true then
some ((.bool (decide (((l2.2 : Nat) : Int) ≤ (20 : Int)))), h1)
else
some ((.bool false), h1))
else
some ((.bool false), h1))
else
(if (n3 == (6 : Int)) = true then
((cell h1 (List.length h) 1).bind (getI .i64)).bind fun n20 =>
(if (n20 == (0 : Int)) = true then
((cell h1 (List.length h) 2).bind getStr).bind fun s21 =>
(if (decide ((s21.size : Int) ≤ (40 : Int))) = true then
some ((.bool (((l2.2 : Nat) : Int) == (0 : Int))), h1)
else
some ((.bool false), h1))
else
some ((.bool false), h1))
else
some ((.bool false), h1))))))) : Option (Value × AH)) := by kernel_rfl
theorem r139 {base : Nat} {v0_0 : Int} {v0_1 : Int} {v0_2 : ByteArray} {v0_3 : Option Addr} {v0_3n : Nat} {h : AH} {r : Value × AH} (hx :
((some (h ++ [some ⟨[(.int .i64 v0_0), (.int .i64 v0_1), (.string v0_2), (.slice v0_3 v0_3n v0_3n)], 32⟩])).bind fun h1 =>
((cell h1 (List.length h) 3).bind getS).bind fun l2 =>
((cell h1 (List.length h) 0).bind (getI .i64)).bind fun n3 =>
(if (n3 == (1 : Int)) = true then
((cell h1 (List.length h) 1).bind (getI .i64)).bind fun n4 =>
(run (Et base) 62 [(.int .i64 n4), (.int .i64 (-1000000 : Int)), (.int .i64 (1000000 : Int))] h1).bind fun r5 =>
((some r5.1).bind getB).bind fun b6 =>
(if b6 = true then
((cell r5.2 (List.length h) 2).bind getStr).bind fun s7 =>
(if (s7.toList == (⟨#[]⟩ : ByteArray).toList) = true then
some ((.bool (((l2.2 : Nat) : Int) == (0 : Int))), r5.2)
else
some ((.bool false), r5.2))
else
some ((.bool false), r5.2))
else
(if (n3 == (2 : Int)) = true then
((cell h1 (List.length h) 2).bind getStr).bind fun s8 =>
(run (Et base) 143 [(.string s8)] h1).bind fun r9 =>
((some r9.1).bind getB).bind fun b10 =>
(if b10 = true then
((cell r9.2 (List.length h) 1).bind (getI .i64)).bind fun n11 =>
(if (n11 == (0 : Int)) = true then
some ((.bool (((l2.2 : Nat) : Int) == (0 : Int))), r9.2)
else
some ((.bool false), r9.2))
else
some ((.bool false), r9.2))
else
(if (n3 == (3 : Int)) = true then
((cell h1 (List.length h) 1).bind (getI .i64)).bind fun n12 =>
(run (Et base) 62 [(.int .i64 n12), (.int .i64 (0 : Int)), (.int .i64 (99999 : Int))] h1).bind fun r13 =>
((some r13.1).bind getB).bind fun b14 =>
(if b14 = true then
((cell r13.2 (List.length h) 2).bind getStr).bind fun s15 =>
(if (s15.toList == (⟨#[]⟩ : ByteArray).toList) = true then
some ((.bool (((l2.2 : Nat) : Int) == (0 : Int))), r13.2)
else
some ((.bool false), r13.2))
else
some ((.bool false), r13.2))
else
(if (n3 == (4 : Int)) = true then
((cell h1 (List.length h) 1).bind (getI .i64)).bind fun n16 =>
(if (n16 == (0 : Int)) = true then
((cell h1 (List.length h) 2).bind getStr).bind fun s17 =>
(if (s17.toList == (⟨#[]⟩ : ByteArray).toList) = true then
some ((.bool (decide (((l2.2 : Nat) : Int) ≤ (8 : Int)))), h1)
else
some ((.bool false), h1))
else
some ((.bool false), h1))
else
(if (n3 == (5 : Int)) = true then
((cell h1 (List.length h) 1).bind (getI .i64)).bind fun n18 =>
(if (n18 == (0 : Int)) = true then
((cell h1 (List.length h) 2).bind getStr).bind fun s19 =>
(if (s19.toList == (⟨#[]⟩ : ByteArray).toList) = true then
some ((.bool (decide (((l2.2 : Nat) : Int) ≤ (20 : Int)))), h1)
else
some ((.bool false), h1))
else
some ((.bool false), h1))
else
(if (n3 == (6 : Int)) = true then
((cell h1 (List.length h) 1).bind (getI .i64)).bind fun n20 =>
(if (n20 == (0 : Int)) = true then
((cell h1 (List.length h) 2).bind getStr).bind fun s21 =>
(if (decide ((s21.size : Int) ≤ (40 : Int))) = true then
some ((.bool (((l2.2 : Nat) : Int) == (0 : Int))), h1)
else
some ((.bool false), h1))
else
some ((.bool false), h1))
else
some ((.bool false), h1)))))))) = some r) : run (Et base) 139 [(.agg #[(.int .i64 v0_0), (.int .i64 v0_1), (.string v0_2), (.slice v0_3 v0_3n v0_3n)])] h = some r := run_i Try.func139 (by kernel_rfl) ((f139_eq base v0_0 v0_1 v0_2 v0_3 v0_3n h).trans hx)
/-! impl.fieldsOk (gates 0) -/
theorem f140_eq (base : Nat) (v0_0 : Int) (v0_1 : Int) (v0_2 : ByteArray) (v0_3 : Option Addr) (v0_3n : Nat) (h : AH) : exFun (Et base) (run (Et base)) loopL a140 Try.f140 [(.agg #[(.int .i64 v0_0), (.int .i64 v0_1), (.string v0_2), (.slice v0_3 v0_3n v0_3n)])] h =
((some (h ++ [some ⟨[(.int .i64 v0_0), (.int .i64 v0_1), (.string v0_2), (.slice v0_3 v0_3n v0_3n)], 32⟩])).bind fun h1 =>
((cell h1 (List.length h) 0).bind (getI .i64)).bind fun n2 =>
(if (n2 == (1 : Int)) = true then
((cell h1 (List.length h) 1).bind (getI .i64)).bind fun n3 =>
(run (Et base) 67 [(.int .i64 n3), (.int .i64 (-1000000 : Int)), (.int .i64 (1000000 : Int))] h1).bind fun r4 =>
((some r4.1).bind getB).bind fun b5 =>
(if b5 = true then
((cell r4.2 (List.length h) 2).bind getStr).bind fun s6 =>
(if (s6.toList == (⟨#[]⟩ : ByteArray).toList) = true then
((cell r4.2 (List.length h) 3).bind getS).bind fun l7 =>
some ((.bool (((l7.2 : Nat) : Int) == (0 : Int))), r4.2)
else
some ((.bool false), r4.2))
else
some ((.bool false), r4.2))
else
(if (n2 == (2 : Int)) = true then
((cell h1 (List.length h) 1).bind (getI .i64)).bind fun n8 =>
(if (n8 == (0 : Int)) = true then
((cell h1 (List.length h) 2).bind getStr).bind fun s9 =>
(run (Et base) 147 [(.string s9)] h1).bind fun r10 =>
((some r10.1).bind getB).bind fun b11 =>
(if b11 = true then
((cell r10.2 (List.length h) 3).bind getS).bind fun l12 =>
some ((.bool (((l12.2 : Nat) : Int) == (0 : Int))), r10.2)
else
some ((.bool false), r10.2))
else
some ((.bool false), h1))
else
(if (n2 == (3 : Int)) = true then
((cell h1 (List.length h) 1).bind (getI .i64)).bind fun n13 =>
(run (Et base) 67 [(.int .i64 n13), (.int .i64 (0 : Int)), (.int .i64 (99999 : Int))] h1).bind fun r14 =>
((some r14.1).bind getB).bind fun b15 =>
(if b15 = true then
((cell r14.2 (List.length h) 2).bind getStr).bind fun s16 =>
(if (s16.toList == (⟨#[]⟩ : ByteArray).toList) = true then
((cell r14.2 (List.length h) 3).bind getS).bind fun l17 =>
some ((.bool (((l17.2 : Nat) : Int) == (0 : Int))), r14.2)
else
some ((.bool false), r14.2))
else
some ((.bool false), r14.2))
else
(if (n2 == (4 : Int)) = true then
((cell h1 (List.length h) 1).bind (getI .i64)).bind fun n18 =>
(if (n18 == (0 : Int)) = true then
((cell h1 (List.length h) 2).bind getStr).bind fun s19 =>
(if (s19.toList == (⟨#[]⟩ : ByteArray).toList) = true then
((cell h1 (List.length h) 3).bind getS).bind fun l20 =>
some ((.bool (decide (((l20.2 : Nat) : Int) ≤ (8 : Int)))), h1)
else
some ((.bool false), h1))
else
some ((.bool false), h1))
else
(if (n2 == (5 : Int)) = true then
((cell h1 (List.length h) 1).bind (getI .i64)).bind fun n21 =>
(if (n21 == (0 : Int)) = true then
((cell h1 (List.length h) 2).bind getStr).bind fun s22 =>
(if (s22.toList == (⟨#[]⟩ : ByteArray).toList) = true then
((cell h1 (List.length h) 3).bind getS).bind fun l23 =>
some ((.bool (decide (((l23.2 : Nat) : Int) ≤ (20 : Int)))), h1)
else
some ((.bool false), h1))
else
some ((.bool false), h1))
else
(if (n2 == (6 : Int)) = true then
((cell h1 (List.length h) 1).bind (getI .i64)).bind fun n24 =>
(if (n24 == (0 : Int)) = true then
((cell h1 (List.length h) 2).bind getStr).bind fun s25 =>
(if (decide ((s25.size : Int) ≤ (40 : Int))) = true then
((cell h1 (List.length h) 3).bind getS).bind fun l26 =>
some ((.bool (((l26.2 : Nat) : Int) == (0 : Int))), h1)
else
some ((.bool false), h1))
else
some ((.bool false), h1))
else
some ((.bool false), h1))))))) : Option (Value × AH)) := by kernel_rfl
theorem r140 {base : Nat} {v0_0 : Int} {v0_1 : Int} {v0_2 : ByteArray} {v0_3 : Option Addr} {v0_3n : Nat} {h : AH} {r : Value × AH} (hx :
((some (h ++ [some ⟨[(.int .i64 v0_0), (.int .i64 v0_1), (.string v0_2), (.slice v0_3 v0_3n v0_3n)], 32⟩])).bind fun h1 =>
((cell h1 (List.length h) 0).bind (getI .i64)).bind fun n2 =>
(if (n2 == (1 : Int)) = true then
((cell h1 (List.length h) 1).bind (getI .i64)).bind fun n3 =>
(run (Et base) 67 [(.int .i64 n3), (.int .i64 (-1000000 : Int)), (.int .i64 (1000000 : Int))] h1).bind fun r4 =>
((some r4.1).bind getB).bind fun b5 =>
(if b5 = true then
((cell r4.2 (List.length h) 2).bind getStr).bind fun s6 =>
(if (s6.toList == (⟨#[]⟩ : ByteArray).toList) = true then
((cell r4.2 (List.length h) 3).bind getS).bind fun l7 =>
some ((.bool (((l7.2 : Nat) : Int) == (0 : Int))), r4.2)
else
some ((.bool false), r4.2))
else
some ((.bool false), r4.2))
else
(if (n2 == (2 : Int)) = true then
((cell h1 (List.length h) 1).bind (getI .i64)).bind fun n8 =>
(if (n8 == (0 : Int)) = true then
((cell h1 (List.length h) 2).bind getStr).bind fun s9 =>
(run (Et base) 147 [(.string s9)] h1).bind fun r10 =>
((some r10.1).bind getB).bind fun b11 =>
(if b11 = true then
((cell r10.2 (List.length h) 3).bind getS).bind fun l12 =>
some ((.bool (((l12.2 : Nat) : Int) == (0 : Int))), r10.2)
else
some ((.bool false), r10.2))
else
some ((.bool false), h1))
else
(if (n2 == (3 : Int)) = true then
((cell h1 (List.length h) 1).bind (getI .i64)).bind fun n13 =>
(run (Et base) 67 [(.int .i64 n13), (.int .i64 (0 : Int)), (.int .i64 (99999 : Int))] h1).bind fun r14 =>
((some r14.1).bind getB).bind fun b15 =>
(if b15 = true then
((cell r14.2 (List.length h) 2).bind getStr).bind fun s16 =>
(if (s16.toList == (⟨#[]⟩ : ByteArray).toList) = true then
((cell r14.2 (List.length h) 3).bind getS).bind fun l17 =>
some ((.bool (((l17.2 : Nat) : Int) == (0 : Int))), r14.2)
else
some ((.bool false), r14.2))
else
some ((.bool false), r14.2))
else
(if (n2 == (4 : Int)) = true then
((cell h1 (List.length h) 1).bind (getI .i64)).bind fun n18 =>
(if (n18 == (0 : Int)) = true then
((cell h1 (List.length h) 2).bind getStr).bind fun s19 =>
(if (s19.toList == (⟨#[]⟩ : ByteArray).toList) = true then
((cell h1 (List.length h) 3).bind getS).bind fun l20 =>
some ((.bool (decide (((l20.2 : Nat) : Int) ≤ (8 : Int)))), h1)
else
some ((.bool false), h1))
else
some ((.bool false), h1))
else
(if (n2 == (5 : Int)) = true then
((cell h1 (List.length h) 1).bind (getI .i64)).bind fun n21 =>
(if (n21 == (0 : Int)) = true then
((cell h1 (List.length h) 2).bind getStr).bind fun s22 =>
(if (s22.toList == (⟨#[]⟩ : ByteArray).toList) = true then
((cell h1 (List.length h) 3).bind getS).bind fun l23 =>
some ((.bool (decide (((l23.2 : Nat) : Int) ≤ (20 : Int)))), h1)
else
some ((.bool false), h1))
else
some ((.bool false), h1))
else
(if (n2 == (6 : Int)) = true then
((cell h1 (List.length h) 1).bind (getI .i64)).bind fun n24 =>
(if (n24 == (0 : Int)) = true then
((cell h1 (List.length h) 2).bind getStr).bind fun s25 =>
(if (decide ((s25.size : Int) ≤ (40 : Int))) = true then
((cell h1 (List.length h) 3).bind getS).bind fun l26 =>
some ((.bool (((l26.2 : Nat) : Int) == (0 : Int))), h1)
else
some ((.bool false), h1))
else
some ((.bool false), h1))
else
some ((.bool false), h1)))))))) = some r) : run (Et base) 140 [(.agg #[(.int .i64 v0_0), (.int .i64 v0_1), (.string v0_2), (.slice v0_3 v0_3n v0_3n)])] h = some r := run_i Try.func140 (by kernel_rfl) ((f140_eq base v0_0 v0_1 v0_2 v0_3 v0_3n h).trans hx)
/-! spec.AtomOk (gates 0) -/
noncomputable def B143_0 (base : Nat) : Body := fun l h => lay s143_0 l fun s => exCode (Et base) (run (Et base)) loopL a143_0 (subC [1, 0, 1, 0, 0] (bodyC Try.f143)) s h (keepK s143_0 e143_0)
theorem B143_0_eq (base : Nat) (v0 : ByteArray) (v3 : Int) (h : AH) : B143_0 base [some (.string v0), some (.int .i64 v3)] h =
((if (decide (v3 < (v0.size : Int))) = true then
(if 0 ≤ v3 ∧ v3 < (v0.size : Int) then
(run (Et base) 62 [(.int .i64 (IntKind.wrap .i64 ((v0.data.toList.getD (Int.toNat v3) 0).toNat : Int))), (.int .i64 (97 : Int)), (.int .i64 (122 : Int))] h).bind fun r1 =>
((some r1.1).bind getB).bind fun b2 =>
((if (!b2) = true then
(if (v3 == (0 : Int)) = true then
some (.inl ([some (.string v0), some (.int .i64 v3), some (.bool true)], r1.2))
else
(if 0 ≤ v3 ∧ v3 < (v0.size : Int) then
(run (Et base) 62 [(.int .i64 (IntKind.wrap .i64 ((v0.data.toList.getD (Int.toNat v3) 0).toNat : Int))), (.int .i64 (48 : Int)), (.int .i64 (57 : Int))] r1.2).bind fun r4 =>
((some r4.1).bind getB).bind fun b5 =>
some (.inl ([some (.string v0), some (.int .i64 v3), some (.bool (!b5))], r4.2))
else none))
else
some (.inl ([some (.string v0), some (.int .i64 v3), some (.bool false)], r1.2)))).bind fun j3 => joinK j3 fun j3 =>
((sget j3.1 0).bind getStr).bind fun s6 =>
((sget (j3.1.tail) 0).bind (getI .i64)).bind fun n7 =>
((sget (j3.1.tail.tail) 0).bind getB).bind fun b8 =>
(if b8 = true then
some (1, [some (.bool false)], j3.2)
else
some (0, [some (.string s6), some (.int .i64 (IntKind.wrap .i64 (n7 + (1 : Int))))], j3.2))
else none)
else
some (2, [some (.string v0)], h)) : Option (Nat × Slots × AH)) := by kernel_rfl
theorem f143_eq (base : Nat) (v0 : ByteArray) (h : AH) : exFun (Et base) (run (Et base)) loopL a143 Try.f143 [(.string v0)] h =
((loopL (B143_0 base) [some (.string v0), some (.int .i64 (0 : Int))] h).bind fun q1 =>
(if q1.1 = 1 then
((sget q1.2.1 0).bind getB).bind fun b2 =>
some ((.bool b2), q1.2.2)
else
(if q1.1 = 2 then
((sget q1.2.1 0).bind getStr).bind fun s3 =>
(run (Et base) 62 [(.int .i64 (s3.size : Int)), (.int .i64 (1 : Int)), (.int .i64 (12 : Int))] q1.2.2).bind fun r4 =>
((some r4.1).bind getB).bind fun b5 =>
some ((.bool b5), r4.2)
else
none)) : Option (Value × AH)) := by kernel_rfl
theorem r143 {base : Nat} {v0 : ByteArray} {h : AH} {r : Value × AH} (hx :
((loopL (B143_0 base) [some (.string v0), some (.int .i64 (0 : Int))] h).bind fun q1 =>
(if q1.1 = 1 then
((sget q1.2.1 0).bind getB).bind fun b2 =>
some ((.bool b2), q1.2.2)
else
(if q1.1 = 2 then
((sget q1.2.1 0).bind getStr).bind fun s3 =>
(run (Et base) 62 [(.int .i64 (s3.size : Int)), (.int .i64 (1 : Int)), (.int .i64 (12 : Int))] q1.2.2).bind fun r4 =>
((some r4.1).bind getB).bind fun b5 =>
some ((.bool b5), r4.2)
else
none))) = some r) : run (Et base) 143 [(.string v0)] h = some r := run_i Try.func143 (by kernel_rfl) ((f143_eq base v0 h).trans hx)
/-! impl.AtomOk (gates 0) -/
noncomputable def B147_0 (base : Nat) : Body := fun l h => lay s147_0 l fun s => exCode (Et base) (run (Et base)) loopL a147_0 (subC [1, 0, 1, 0, 0] (bodyC Try.f147)) s h (keepK s147_0 e147_0)
theorem B147_0_eq (base : Nat) (v0 : ByteArray) (v3 : Int) (h : AH) : B147_0 base [some (.string v0), some (.int .i64 v3)] h =
((if (decide (v3 < (v0.size : Int))) = true then
((if 0 ≤ v3 ∧ v3 < (v0.size : Int) then
(run (Et base) 161 [(.int .u8 ((v0.data.toList.getD (Int.toNat v3) 0).toNat : Int))] h).bind fun r2 =>
((some r2.1).bind getB).bind fun b3 =>
(if (!b3) = true then
(if (v3 == (0 : Int)) = true then
some (.inl ([some (.string v0), some (.int .i64 v3), some (.bool true)], r2.2))
else
(if 0 ≤ v3 ∧ v3 < (v0.size : Int) then
(run (Et base) 162 [(.int .u8 ((v0.data.toList.getD (Int.toNat v3) 0).toNat : Int))] r2.2).bind fun r4 =>
((some r4.1).bind getB).bind fun b5 =>
some (.inl ([some (.string v0), some (.int .i64 v3), some (.bool (!b5))], r4.2))
else none))
else
some (.inl ([some (.string v0), some (.int .i64 v3), some (.bool false)], r2.2)))
else none)).bind fun j1 => joinK j1 fun j1 =>
((sget j1.1 0).bind getStr).bind fun s6 =>
((sget (j1.1.tail) 0).bind (getI .i64)).bind fun n7 =>
((sget (j1.1.tail.tail) 0).bind getB).bind fun b8 =>
(if b8 = true then
some (1, [some (.bool false)], j1.2)
else
some (0, [some (.string s6), some (.int .i64 (IntKind.wrap .i64 (n7 + (1 : Int))))], j1.2))
else
some (2, [some (.string v0)], h)) : Option (Nat × Slots × AH)) := by kernel_rfl
theorem f147_eq (base : Nat) (v0 : ByteArray) (h : AH) : exFun (Et base) (run (Et base)) loopL a147 Try.f147 [(.string v0)] h =
((loopL (B147_0 base) [some (.string v0), some (.int .i64 (0 : Int))] h).bind fun q1 =>
(if q1.1 = 1 then
((sget q1.2.1 0).bind getB).bind fun b2 =>
some ((.bool b2), q1.2.2)
else
(if q1.1 = 2 then
((sget q1.2.1 0).bind getStr).bind fun s3 =>
(run (Et base) 67 [(.int .i64 (s3.size : Int)), (.int .i64 (1 : Int)), (.int .i64 (12 : Int))] q1.2.2).bind fun r4 =>
((some r4.1).bind getB).bind fun b5 =>
some ((.bool b5), r4.2)
else
none)) : Option (Value × AH)) := by kernel_rfl
theorem r147 {base : Nat} {v0 : ByteArray} {h : AH} {r : Value × AH} (hx :
((loopL (B147_0 base) [some (.string v0), some (.int .i64 (0 : Int))] h).bind fun q1 =>
(if q1.1 = 1 then
((sget q1.2.1 0).bind getB).bind fun b2 =>
some ((.bool b2), q1.2.2)
else
(if q1.1 = 2 then
((sget q1.2.1 0).bind getStr).bind fun s3 =>
(run (Et base) 67 [(.int .i64 (s3.size : Int)), (.int .i64 (1 : Int)), (.int .i64 (12 : Int))] q1.2.2).bind fun r4 =>
((some r4.1).bind getB).bind fun b5 =>
some ((.bool b5), r4.2)
else
none))) = some r) : run (Et base) 147 [(.string v0)] h = some r := run_i Try.func147 (by kernel_rfl) ((f147_eq base v0 h).trans hx)
/-! impl.isSmall (gates 0) -/
theorem f161_eq (base : Nat) (v0 : Int) (h : AH) : exFun (Et base) (run (Et base)) loopL a161 Try.f161 [(.int .u8 v0)] h =
((if (decide (v0 ≥ (97 : Int))) = true then
some ((.bool (decide (v0 ≤ (122 : Int)))), h)
else
some ((.bool false), h)) : Option (Value × AH)) := by kernel_rfl
theorem r161 {base : Nat} {v0 : Int} {h : AH} {r : Value × AH} (hx :
((if (decide (v0 ≥ (97 : Int))) = true then
some ((.bool (decide (v0 ≤ (122 : Int)))), h)
else
some ((.bool false), h))) = some r) : run (Et base) 161 [(.int .u8 v0)] h = some r := run_i Try.func161 (by kernel_rfl) ((f161_eq base v0 h).trans hx)
/-! impl.isDigit (gates 0) -/
theorem f162_eq (base : Nat) (v0 : Int) (h : AH) : exFun (Et base) (run (Et base)) loopL a162 Try.f162 [(.int .u8 v0)] h =
((if (decide (v0 ≥ (48 : Int))) = true then
some ((.bool (decide (v0 ≤ (57 : Int)))), h)
else
some ((.bool false), h)) : Option (Value × AH)) := by kernel_rfl
theorem r162 {base : Nat} {v0 : Int} {h : AH} {r : Value × AH} (hx :
((if (decide (v0 ≥ (48 : Int))) = true then
some ((.bool (decide (v0 ≤ (57 : Int)))), h)
else
some ((.bool false), h))) = some r) : run (Et base) 162 [(.int .u8 v0)] h = some r := run_i Try.func162 (by kernel_rfl) ((f162_eq base v0 h).trans hx)
/-! spec.l1In (gates 0) -/
theorem f62_eq (base : Nat) (v0 : Int) (v1 : Int) (v2 : Int) (h : AH) : exFun (Et base) (run (Et base)) loopL a62 Try.f62 [(.int .i64 v0), (.int .i64 v1), (.int .i64 v2)] h =
((if (decide (v0 ≥ v1)) = true then
some ((.bool (decide (v0 ≤ v2))), h)
else
some ((.bool false), h)) : Option (Value × AH)) := by kernel_rfl
theorem r62 {base : Nat} {v0 : Int} {v1 : Int} {v2 : Int} {h : AH} {r : Value × AH} (hx :
((if (decide (v0 ≥ v1)) = true then
some ((.bool (decide (v0 ≤ v2))), h)
else
some ((.bool false), h))) = some r) : run (Et base) 62 [(.int .i64 v0), (.int .i64 v1), (.int .i64 v2)] h = some r := run_i Try.func62 (by kernel_rfl) ((f62_eq base v0 v1 v2 h).trans hx)
/-! impl.in (gates 0) -/
theorem f67_eq (base : Nat) (v0 : Int) (v1 : Int) (v2 : Int) (h : AH) : exFun (Et base) (run (Et base)) loopL a67 Try.f67 [(.int .i64 v0), (.int .i64 v1), (.int .i64 v2)] h =
((if (decide (v0 ≥ v1)) = true then
some ((.bool (decide (v0 ≤ v2))), h)
else
some ((.bool false), h)) : Option (Value × AH)) := by kernel_rfl
theorem r67 {base : Nat} {v0 : Int} {v1 : Int} {v2 : Int} {h : AH} {r : Value × AH} (hx :
((if (decide (v0 ≥ v1)) = true then
some ((.bool (decide (v0 ≤ v2))), h)
else
some ((.bool false), h))) = some r) : run (Et base) 67 [(.int .i64 v0), (.int .i64 v1), (.int .i64 v2)] h = some r := run_i Try.func67 (by kernel_rfl) ((f67_eq base v0 v1 v2 h).trans hx)
/-! laws.markText (gates 0) -/
noncomputable def B83_0 (base : Nat) : Body := fun l h => lay s83_0 l fun s => exCode (Et base) (run (Et base)) loopL a83_0 (subC [1, 1, 1, 0, 0, 0] (bodyC Try.f83)) s h (keepK s83_0 e83_0)
theorem B83_0_eq (base : Nat) (v0 : Int) (v3 : ByteArray) (h : AH) : B83_0 base [some (.int .i64 v0), some (.string v3)] h =
((if (decide (v0 > (0 : Int))) = true then
(some (h ++ [some ⟨[(.int .u8 (IntKind.wrap .u8 (IntKind.wrap .i64 ((48 : Int) + (Int.tmod v0 (10 : Int))))))], 5⟩])).bind fun h1 =>
((rawAt h1 (some ⟨(List.length h), 0, none⟩) 1).bind u8s).bind fun z2 =>
(if (bstr z2).size + v3.size ≤ 9223372036854775807 then
some (0, [some (.int .i64 (IntKind.wrap .i64 (Int.tdiv v0 (10 : Int)))), some (.string ((bstr z2) ++ v3))], h1)
else none)
else
some (2, [some (.string v3)], h)) : Option (Nat × Slots × AH)) := by kernel_rfl
theorem f83_eq (base : Nat) (v0 : Int) (h : AH) : exFun (Et base) (run (Et base)) loopL a83 Try.f83 [(.int .i64 v0)] h =
((if (decide (v0 ≤ (0 : Int))) = true then
some ((.string (⟨#[109, 48]⟩ : ByteArray)), h)
else
(loopL (B83_0 base) [some (.int .i64 v0), some (.string (⟨#[]⟩ : ByteArray))] h).bind fun q1 =>
(if q1.1 = 2 then
((sget q1.2.1 0).bind getStr).bind fun s2 =>
(if (⟨#[109]⟩ : ByteArray).size + s2.size ≤ 9223372036854775807 then
some ((.string ((⟨#[109]⟩ : ByteArray) ++ s2)), q1.2.2)
else none)
else
none)) : Option (Value × AH)) := by kernel_rfl
theorem r83 {base : Nat} {v0 : Int} {h : AH} {r : Value × AH} (hx :
((if (decide (v0 ≤ (0 : Int))) = true then
some ((.string (⟨#[109, 48]⟩ : ByteArray)), h)
else
(loopL (B83_0 base) [some (.int .i64 v0), some (.string (⟨#[]⟩ : ByteArray))] h).bind fun q1 =>
(if q1.1 = 2 then
((sget q1.2.1 0).bind getStr).bind fun s2 =>
(if (⟨#[109]⟩ : ByteArray).size + s2.size ≤ 9223372036854775807 then
some ((.string ((⟨#[109]⟩ : ByteArray) ++ s2)), q1.2.2)
else none)
else
none))) = some r) : run (Et base) 83 [(.int .i64 v0)] h = some r := run_i Try.func83 (by kernel_rfl) ((f83_eq base v0 h).trans hx)
/-! laws.markTermS (gates 0) -/
noncomputable def B72_0 (base : Nat) : Body := fun l h => lay s72_0 l fun s => exCode (Et base) (run (Et base)) loopL a72_0 (subC [1, 0, 1, 0, 0] (bodyC Try.f72)) s h (keepK s72_0 e72_0)
theorem B72_0_eq (base : Nat) (v0 : Option Addr) (v0n : Nat) (v1 : Int) (v5 : Int) (h : AH) : B72_0 base [some (.slice v0 v0n v0n), some (.int .i64 v1), some (.int .i64 v5)] h =
((if (decide (v5 < ((v0n : Nat) : Int))) = true then
(if 0 ≤ v5 ∧ v5 < ((v0n : Nat) : Int) then
((v0 : Option Addr)).bind fun a1 =>
(wr base h a1.block ((a1.off + Int.toNat v5 * 4) + 0) [(.int .i64 v1)]).bind fun h2 =>
(if 0 ≤ v5 ∧ v5 < ((v0n : Nat) : Int) then
((v0 : Option Addr)).bind fun a3 =>
(wr base h2 a3.block ((a3.off + Int.toNat v5 * 4) + 1) [(.int .i64 (IntKind.wrap .i64 (v1 + (1 : Int))))]).bind fun h4 =>
(run (Et base) 83 [(.int .i64 (IntKind.wrap .i64 ((IntKind.wrap .i64 (v1 + (1 : Int))) + (1 : Int))))] h4).bind fun r5 =>
((some r5.1).bind getStr).bind fun s6 =>
(if 0 ≤ v5 ∧ v5 < ((v0n : Nat) : Int) then
((v0 : Option Addr)).bind fun a7 =>
(wr base r5.2 a7.block ((a7.off + Int.toNat v5 * 4) + 2) [(.string s6)]).bind fun h8 =>
(if 0 ≤ v5 ∧ v5 < ((v0n : Nat) : Int) then
((v0 : Option Addr)).bind fun a9 =>
((cell h8 a9.block ((a9.off + Int.toNat v5 * 4) + 3)).bind getS).bind fun l10 =>
(run (Et base) 72 [(.slice l10.1 l10.2 l10.2), (.int .i64 (IntKind.wrap .i64 ((IntKind.wrap .i64 ((IntKind.wrap .i64 (v1 + (1 : Int))) + (1 : Int))) + (1 : Int))))] h8).bind fun r11 =>
((some r11.1).bind (getI .i64)).bind fun n12 =>
some (0, [some (.slice v0 v0n v0n), some (.int .i64 n12), some (.int .i64 (IntKind.wrap .i64 (v5 + (1 : Int))))], r11.2)
else none)
else none)
else none)
else none)
else
some (2, [some (.int .i64 v1)], h)) : Option (Nat × Slots × AH)) := by kernel_rfl
theorem f72_eq (base : Nat) (v0 : Option Addr) (v0n : Nat) (v1 : Int) (h : AH) : exFun (Et base) (run (Et base)) loopL a72 Try.f72 [(.slice v0 v0n v0n), (.int .i64 v1)] h =
((loopL (B72_0 base) [some (.slice v0 v0n v0n), some (.int .i64 v1), some (.int .i64 (0 : Int))] h).bind fun q1 =>
(if q1.1 = 2 then
((sget q1.2.1 0).bind (getI .i64)).bind fun n2 =>
some ((.int .i64 n2), q1.2.2)
else
none) : Option (Value × AH)) := by kernel_rfl
theorem r72 {base : Nat} {v0 : Option Addr} {v0n : Nat} {v1 : Int} {h : AH} {r : Value × AH} (hx :
((loopL (B72_0 base) [some (.slice v0 v0n v0n), some (.int .i64 v1), some (.int .i64 (0 : Int))] h).bind fun q1 =>
(if q1.1 = 2 then
((sget q1.2.1 0).bind (getI .i64)).bind fun n2 =>
some ((.int .i64 n2), q1.2.2)
else
none)) = some r) : run (Et base) 72 [(.slice v0 v0n v0n), (.int .i64 v1)] h = some r := run_i Try.func72 (by kernel_rfl) ((f72_eq base v0 v0n v1 h).trans hx)
/-! laws.heldTermS (gates 0) -/
noncomputable def B74_0 (base : Nat) : Body := fun l h => lay s74_0 l fun s => exCode (Et base) (run (Et base)) loopL a74_0 (subC [1, 0, 1, 0, 0] (bodyC Try.f74)) s h (keepK s74_0 e74_0)
theorem B74_0_eq (base : Nat) (v0 : Option Addr) (v0n : Nat) (v1 : Int) (v5 : Int) (h : AH) : B74_0 base [some (.slice v0 v0n v0n), some (.int .i64 v1), some (.int .i64 v5)] h =
((if (decide (v5 < ((v0n : Nat) : Int))) = true then
(if 0 ≤ v5 ∧ v5 < ((v0n : Nat) : Int) then
((v0 : Option Addr)).bind fun a1 =>
((cell h a1.block ((a1.off + Int.toNat v5 * 4) + 0)).bind (getI .i64)).bind fun n2 =>
(if (n2 != v1) = true then
some (1, [some (.int .i64 (-1 : Int))], h)
else
(if 0 ≤ v5 ∧ v5 < ((v0n : Nat) : Int) then
((v0 : Option Addr)).bind fun a3 =>
((cell h a3.block ((a3.off + Int.toNat v5 * 4) + 1)).bind (getI .i64)).bind fun n4 =>
(if (n4 != (IntKind.wrap .i64 (v1 + (1 : Int)))) = true then
some (1, [some (.int .i64 (-1 : Int))], h)
else
(if 0 ≤ v5 ∧ v5 < ((v0n : Nat) : Int) then
((v0 : Option Addr)).bind fun a5 =>
((cell h a5.block ((a5.off + Int.toNat v5 * 4) + 2)).bind getStr).bind fun s6 =>
(run (Et base) 83 [(.int .i64 (IntKind.wrap .i64 ((IntKind.wrap .i64 (v1 + (1 : Int))) + (1 : Int))))] h).bind fun r7 =>
((some r7.1).bind getStr).bind fun s8 =>
(gate (sameA h r7.2 (some ⟨a5.block, ((a5.off + Int.toNat v5 * 4) + 2), none⟩) 1)
((if (!(s6.toList == s8.toList)) = true then
some (1, [some (.int .i64 (-1 : Int))], r7.2)
else
(if 0 ≤ v5 ∧ v5 < ((v0n : Nat) : Int) then
((v0 : Option Addr)).bind fun a9 =>
((cell r7.2 a9.block ((a9.off + Int.toNat v5 * 4) + 3)).bind getS).bind fun l10 =>
(run (Et base) 74 [(.slice l10.1 l10.2 l10.2), (.int .i64 (IntKind.wrap .i64 ((IntKind.wrap .i64 ((IntKind.wrap .i64 (v1 + (1 : Int))) + (1 : Int))) + (1 : Int))))] r7.2).bind fun r11 =>
((some r11.1).bind (getI .i64)).bind fun n12 =>
(if (decide (n12 < (0 : Int))) = true then
some (1, [some (.int .i64 (-1 : Int))], r11.2)
else
some (0, [some (.slice v0 v0n v0n), some (.int .i64 n12), some (.int .i64 (IntKind.wrap .i64 (v5 + (1 : Int))))], r11.2))
else none))))
else none))
else none))
else none)
else
some (2, [some (.int .i64 v1)], h)) : Option (Nat × Slots × AH)) := by kernel_rfl
theorem f74_eq (base : Nat) (v0 : Option Addr) (v0n : Nat) (v1 : Int) (h : AH) : exFun (Et base) (run (Et base)) loopL a74 Try.f74 [(.slice v0 v0n v0n), (.int .i64 v1)] h =
((loopL (B74_0 base) [some (.slice v0 v0n v0n), some (.int .i64 v1), some (.int .i64 (0 : Int))] h).bind fun q1 =>
(if q1.1 = 1 then
((sget q1.2.1 0).bind (getI .i64)).bind fun n2 =>
some ((.int .i64 n2), q1.2.2)
else
(if q1.1 = 2 then
((sget q1.2.1 0).bind (getI .i64)).bind fun n3 =>
some ((.int .i64 n3), q1.2.2)
else
none)) : Option (Value × AH)) := by kernel_rfl
theorem r74 {base : Nat} {v0 : Option Addr} {v0n : Nat} {v1 : Int} {h : AH} {r : Value × AH} (hx :
((loopL (B74_0 base) [some (.slice v0 v0n v0n), some (.int .i64 v1), some (.int .i64 (0 : Int))] h).bind fun q1 =>
(if q1.1 = 1 then
((sget q1.2.1 0).bind (getI .i64)).bind fun n2 =>
some ((.int .i64 n2), q1.2.2)
else
(if q1.1 = 2 then
((sget q1.2.1 0).bind (getI .i64)).bind fun n3 =>
some ((.int .i64 n3), q1.2.2)
else
none))) = some r) : run (Et base) 74 [(.slice v0 v0n v0n), (.int .i64 v1)] h = some r := run_i Try.func74 (by kernel_rfl) ((f74_eq base v0 v0n v1 h).trans hx)
/-! impl.copyTerm (gates 0) -/
theorem f69_eq (base : Nat) (v0_0 : Int) (v0_1 : Int) (v0_2 : ByteArray) (v0_3 : Option Addr) (v0_3n : Nat) (h : AH) : exFun (Et base) (run (Et base)) loopL a69 Try.f69 [(.agg #[(.int .i64 v0_0), (.int .i64 v0_1), (.string v0_2), (.slice v0_3 v0_3n v0_3n)])] h =
((some (h ++ [some ⟨[(.int .i64 v0_0), (.int .i64 v0_1), (.string v0_2), (.slice v0_3 v0_3n v0_3n)], 32⟩])).bind fun h1 =>
(some (h1 ++ [some ⟨[(.int .i64 0), (.int .i64 0), (.string ⟨#[]⟩), (.slice none 0 0)], 32⟩])).bind fun h2 =>
((cell h2 (List.length h) 3).bind getS).bind fun l3 =>
(run (Et base) 119 [(.slice l3.1 l3.2 l3.2)] h2).bind fun r4 =>
((some r4.1).bind getS).bind fun l5 =>
(wr base r4.2 (List.length h) 3 [(.slice l5.1 l5.2 l5.2)]).bind fun h6 =>
((cell h6 (List.length h) 0).bind (getI .i64)).bind fun n7 =>
((cell h6 (List.length h) 1).bind (getI .i64)).bind fun n8 =>
((cell h6 (List.length h) 2).bind getStr).bind fun s9 =>
((cell h6 (List.length h) 3).bind getS).bind fun l10 =>
(wr base h6 (List.length h1) 0 [(.int .i64 n7), (.int .i64 n8), (.string s9), (.slice l10.1 l10.2 l10.2)]).bind fun h11 =>
((cell h11 (List.length h1) 0).bind (getI .i64)).bind fun n12 =>
((cell h11 (List.length h1) 1).bind (getI .i64)).bind fun n13 =>
((cell h11 (List.length h1) 2).bind getStr).bind fun s14 =>
((cell h11 (List.length h1) 3).bind getS).bind fun l15 =>
some ((.agg #[(.int .i64 n12), (.int .i64 n13), (.string s14), (.slice l15.1 l15.2 l15.2)]), h11) : Option (Value × AH)) := by kernel_rfl
theorem r69 {base : Nat} {v0_0 : Int} {v0_1 : Int} {v0_2 : ByteArray} {v0_3 : Option Addr} {v0_3n : Nat} {h : AH} {r : Value × AH} (hx :
((some (h ++ [some ⟨[(.int .i64 v0_0), (.int .i64 v0_1), (.string v0_2), (.slice v0_3 v0_3n v0_3n)], 32⟩])).bind fun h1 =>
(some (h1 ++ [some ⟨[(.int .i64 0), (.int .i64 0), (.string ⟨#[]⟩), (.slice none 0 0)], 32⟩])).bind fun h2 =>
((cell h2 (List.length h) 3).bind getS).bind fun l3 =>
(run (Et base) 119 [(.slice l3.1 l3.2 l3.2)] h2).bind fun r4 =>
((some r4.1).bind getS).bind fun l5 =>
(wr base r4.2 (List.length h) 3 [(.slice l5.1 l5.2 l5.2)]).bind fun h6 =>
((cell h6 (List.length h) 0).bind (getI .i64)).bind fun n7 =>
((cell h6 (List.length h) 1).bind (getI .i64)).bind fun n8 =>
((cell h6 (List.length h) 2).bind getStr).bind fun s9 =>
((cell h6 (List.length h) 3).bind getS).bind fun l10 =>
(wr base h6 (List.length h1) 0 [(.int .i64 n7), (.int .i64 n8), (.string s9), (.slice l10.1 l10.2 l10.2)]).bind fun h11 =>
((cell h11 (List.length h1) 0).bind (getI .i64)).bind fun n12 =>
((cell h11 (List.length h1) 1).bind (getI .i64)).bind fun n13 =>
((cell h11 (List.length h1) 2).bind getStr).bind fun s14 =>
((cell h11 (List.length h1) 3).bind getS).bind fun l15 =>
some ((.agg #[(.int .i64 n12), (.int .i64 n13), (.string s14), (.slice l15.1 l15.2 l15.2)]), h11)) = some r) : run (Et base) 69 [(.agg #[(.int .i64 v0_0), (.int .i64 v0_1), (.string v0_2), (.slice v0_3 v0_3n v0_3n)])] h = some r := run_i Try.func69 (by kernel_rfl) ((f69_eq base v0_0 v0_1 v0_2 v0_3 v0_3n h).trans hx)
/-! impl.copyTerms (gates 0) -/
noncomputable def B119_0 (base : Nat) : Body := fun l h => lay s119_0 l fun s => exCode (Et base) (run (Et base)) loopL a119_0 (subC [1, 1, 0, 1, 0, 0] (bodyC Try.f119)) s h (keepK s119_0 e119_0)
theorem B119_0_eq (base : Nat) (v3 : Option Addr) (v3n : Nat) (v6 : Option Addr) (v6n : Nat) (v7 : Int) (v8 : Int) (h : AH) : B119_0 base [some (.slice v3 v3n v3n), some (.slice v6 v6n v6n), some (.int .i64 v7), some (.int .i64 v8)] h =
((if (decide (v8 < v7)) = true then
(if 0 ≤ v8 ∧ v8 < ((v6n : Nat) : Int) then
((v6 : Option Addr)).bind fun a1 =>
((cell h a1.block (a1.off + Int.toNat v8 * 4)).bind (getI .i64)).bind fun n2 =>
((cell h a1.block ((a1.off + Int.toNat v8 * 4) + 1)).bind (getI .i64)).bind fun n3 =>
((cell h a1.block (((a1.off + Int.toNat v8 * 4) + 1) + 1)).bind getStr).bind fun s4 =>
((cell h a1.block ((((a1.off + Int.toNat v8 * 4) + 1) + 1) + 1)).bind getS).bind fun l5 =>
(some (h ++ [some ⟨[(.int .i64 0), (.int .i64 0), (.string ⟨#[]⟩), (.slice none 0 0)], 32⟩])).bind fun h6 =>
(wr base h6 (List.length h) 0 [(.int .i64 n2), (.int .i64 n3), (.string s4), (.slice l5.1 l5.2 l5.2)]).bind fun h7 =>
((cell h7 (List.length h) 0).bind (getI .i64)).bind fun n8 =>
((cell h7 (List.length h) 1).bind (getI .i64)).bind fun n9 =>
((cell h7 (List.length h) 2).bind getStr).bind fun s10 =>
((cell h7 (List.length h) 3).bind getS).bind fun l11 =>
(run (Et base) 69 [(.agg #[(.int .i64 n8), (.int .i64 n9), (.string s10), (.slice l11.1 l11.2 l11.2)])] h7).bind fun r12 =>
((some r12.1).bind (getAgg 4)).bind fun l13 =>
((l13[0]?).bind (getI .i64)).bind fun n14 =>
((l13[1]?).bind (getI .i64)).bind fun n15 =>
((l13[2]?).bind getStr).bind fun s16 =>
((l13[3]?).bind getS).bind fun l17 =>
(some (r12.2 ++ [some ⟨[(.int .i64 n14), (.int .i64 n15), (.string s16), (.slice l17.1 l17.2 l17.2)], 32⟩])).bind fun h18 =>
(app base h18 32 4 56 v3 v3n (rawAt h18 (some ⟨(List.length r12.2), 0, none⟩) (1 * 4)) 1).bind fun p19 =>
((some p19.1).bind getS).bind fun l20 =>
some (0, [some (.slice l20.1 l20.2 l20.2), some (.slice v6 v6n v6n), some (.int .i64 v7), some (.int .i64 (IntKind.wrap .i64 (v8 + (1 : Int))))], p19.2)
else none)
else
some (2, [some (.slice v3 v3n v3n)], h)) : Option (Nat × Slots × AH)) := by kernel_rfl
theorem f119_eq (base : Nat) (v0 : Option Addr) (v0n : Nat) (h : AH) : exFun (Et base) (run (Et base)) loopL a119 Try.f119 [(.slice v0 v0n v0n)] h =
((loopL (B119_0 base) [some (.slice none 0 0), some (.slice v0 v0n v0n), some (.int .i64 ((v0n : Nat) : Int)), some (.int .i64 (0 : Int))] h).bind fun q1 =>
(if q1.1 = 2 then
((sget q1.2.1 0).bind getS).bind fun l2 =>
some ((.slice l2.1 l2.2 l2.2), q1.2.2)
else
none) : Option (Value × AH)) := by kernel_rfl
theorem r119 {base : Nat} {v0 : Option Addr} {v0n : Nat} {h : AH} {r : Value × AH} (hx :
((loopL (B119_0 base) [some (.slice none 0 0), some (.slice v0 v0n v0n), some (.int .i64 ((v0n : Nat) : Int)), some (.int .i64 (0 : Int))] h).bind fun q1 =>
(if q1.1 = 2 then
((sget q1.2.1 0).bind getS).bind fun l2 =>
some ((.slice l2.1 l2.2 l2.2), q1.2.2)
else
none)) = some r) : run (Et base) 119 [(.slice v0 v0n v0n)] h = some r := run_i Try.func119 (by kernel_rfl) ((f119_eq base v0 v0n h).trans hx)
/-! spec.ActorNew (gates 0) -/
noncomputable def B12_0 (base : Nat) : Body := fun l h => lay s12_0 l fun s => exCode (Et base) (run (Et base)) loopL a12_0 (subC [1, 1, 1, 0, 1, 0, 0] (bodyC Try.f12)) s h (keepK s12_0 e12_0)
theorem B12_0_eq (base : Nat) (v6 : Addr) (v7 : Addr) (v8 : Int) (h : AH) : B12_0 base [some (.pointer (some v6)), some (.pointer (some v7)), some (.int .i64 v8)] h =
((if (decide (v8 < (8 : Int))) = true then
((cell h v7.block (v7.off + 2)).bind getS).bind fun l1 =>
(run (Et base) 65 [(.int .i64 (0 : Int))] h).bind fun r2 =>
((some r2.1).bind (getAgg 4)).bind fun l3 =>
((l3[0]?).bind (getI .i64)).bind fun n4 =>
((l3[1]?).bind (getI .i64)).bind fun n5 =>
((l3[2]?).bind getStr).bind fun s6 =>
((l3[3]?).bind getS).bind fun l7 =>
(gate (sameA h r2.2 (some ⟨v7.block, (v7.off + 2), none⟩) 1)
((gate (neA (some ⟨v7.block, (v7.off + 2), none⟩) (List.length r2.2))
((some (r2.2 ++ [some ⟨[(.int .i64 n4), (.int .i64 n5), (.string s6), (.slice l7.1 l7.2 l7.2)], 32⟩])).bind fun h8 =>
(app base h8 32 4 56 l1.1 l1.2 (rawAt h8 (some ⟨(List.length r2.2), 0, none⟩) (1 * 4)) 1).bind fun p9 =>
((some p9.1).bind getS).bind fun l10 =>
(wr base p9.2 v7.block (v7.off + 2) [(.slice l10.1 l10.2 l10.2)]).bind fun h11 =>
some (0, [some (.pointer (some v6)), some (.pointer (some v7)), some (.int .i64 (IntKind.wrap .i64 (v8 + (1 : Int))))], h11)))))
else
some (2, [some (.pointer (some v6)), some (.pointer (some v7))], h)) : Option (Nat × Slots × AH)) := by kernel_rfl
theorem f12_eq (base : Nat) (v0 : Int) (v1 : Int) (v2_0 : Int) (v2_1 : Int) (v2_2 : ByteArray) (v2_3 : Option Addr) (v2_3n : Nat) (h : AH) : exFun (Et base) (run (Et base)) loopL a12 Try.f12 [(.int .i64 v0), (.int .i64 v1), (.agg #[(.int .i64 v2_0), (.int .i64 v2_1), (.string v2_2), (.slice v2_3 v2_3n v2_3n)])] h =
((some (h ++ [some ⟨[(.int .i64 v2_0), (.int .i64 v2_1), (.string v2_2), (.slice v2_3 v2_3n v2_3n)], 32⟩])).bind fun h1 =>
(some (h1 ++ [some ⟨[(.int .i64 0), (.int .i64 0), (.slice none 0 0), (.slice none 0 0), (.slice none 0 0)], 29⟩])).bind fun h2 =>
((run (Et base) 62 [(.int .i64 v0), (.int .i64 (1 : Int)), (.int .i64 (99999 : Int))] h2).bind fun r4 =>
((some r4.1).bind getB).bind fun b5 =>
(if (!b5) = true then
some (.inl ([some (.int .i64 v0), some (.int .i64 v1), some (.pointer (some ⟨(List.length h), 0, none⟩)), some (.pointer (some ⟨(List.length h1), 0, none⟩)), some (.bool true)], r4.2))
else
(if (decide (v1 < (0 : Int))) = true then
some (.inl ([some (.int .i64 v0), some (.int .i64 v1), some (.pointer (some ⟨(List.length h), 0, none⟩)), some (.pointer (some ⟨(List.length h1), 0, none⟩)), some (.bool true)], r4.2))
else
((cell r4.2 (List.length h) 0).bind (getI .i64)).bind fun n6 =>
((cell r4.2 (List.length h) 1).bind (getI .i64)).bind fun n7 =>
((cell r4.2 (List.length h) 2).bind getStr).bind fun s8 =>
((cell r4.2 (List.length h) 3).bind getS).bind fun l9 =>
(run (Et base) 63 [(.agg #[(.int .i64 n6), (.int .i64 n7), (.string s8), (.slice l9.1 l9.2 l9.2)])] r4.2).bind fun r10 =>
((some r10.1).bind getB).bind fun b11 =>
some (.inl ([some (.int .i64 v0), some (.int .i64 v1), some (.pointer (some ⟨(List.length h), 0, none⟩)), some (.pointer (some ⟨(List.length h1), 0, none⟩)), some (.bool (!b11))], r10.2))))).bind fun j3 => joinK j3 fun j3 =>
((sget j3.1 0).bind (getI .i64)).bind fun n12 =>
((sget (j3.1.tail) 0).bind (getI .i64)).bind fun n13 =>
((sget (j3.1.tail.tail) 0).bind getA).bind fun d14 =>
((sget (j3.1.tail.tail.tail) 0).bind getA).bind fun d15 =>
((sget (j3.1.tail.tail.tail.tail) 0).bind getB).bind fun b16 =>
(if b16 = true then
(wr base j3.2 d15.block d15.off [(.int .i64 (0 : Int)), (.int .i64 (0 : Int)), (.slice none 0 0), (.slice none 0 0), (.slice none 0 0)]).bind fun h17 =>
((cell h17 d15.block d15.off).bind (getI .i64)).bind fun n18 =>
((cell h17 d15.block (d15.off + 1)).bind (getI .i64)).bind fun n19 =>
((cell h17 d15.block ((d15.off + 1) + 1)).bind getS).bind fun l20 =>
((cell h17 d15.block (((d15.off + 1) + 1) + 1)).bind getS).bind fun l21 =>
((cell h17 d15.block ((((d15.off + 1) + 1) + 1) + 1)).bind getS).bind fun l22 =>
some ((.agg #[(.int .i64 n18), (.int .i64 n19), (.slice l20.1 l20.2 l20.2), (.slice l21.1 l21.2 l21.2), (.slice l22.1 l22.2 l22.2)]), h17)
else
((cell j3.2 d14.block d14.off).bind (getI .i64)).bind fun n23 =>
((cell j3.2 d14.block (d14.off + 1)).bind (getI .i64)).bind fun n24 =>
((cell j3.2 d14.block ((d14.off + 1) + 1)).bind getStr).bind fun s25 =>
((cell j3.2 d14.block (((d14.off + 1) + 1) + 1)).bind getS).bind fun l26 =>
(run (Et base) 64 [(.agg #[(.int .i64 n23), (.int .i64 n24), (.string s25), (.slice l26.1 l26.2 l26.2)])] j3.2).bind fun r27 =>
((some r27.1).bind (getAgg 4)).bind fun l28 =>
((l28[0]?).bind (getI .i64)).bind fun n29 =>
((l28[1]?).bind (getI .i64)).bind fun n30 =>
((l28[2]?).bind getStr).bind fun s31 =>
((l28[3]?).bind getS).bind fun l32 =>
(some (r27.2 ++ [some ⟨[(.int .i64 n29), (.int .i64 n30), (.string s31), (.slice l32.1 l32.2 l32.2)], 32⟩])).bind fun h33 =>
(some (h33 ++ [some ⟨[(.int .i64 0), (.int .i64 0), (.slice none 0 0), (.slice none 0 0), (.slice none 0 0)], 29⟩])).bind fun h34 =>
(wr base h34 (List.length h33) 0 [(.int .i64 n12), (.int .i64 n13), (.slice (some ⟨(List.length r27.2), 0, none⟩) 1 1), (.slice none 0 0), (.slice none 0 0)]).bind fun h35 =>
(loopL (B12_0 base) [some (.pointer (some d15)), some (.pointer (some ⟨(List.length h33), 0, none⟩)), some (.int .i64 (1 : Int))] h35).bind fun q36 =>
(if q36.1 = 2 then
((sget q36.2.1 0).bind getA).bind fun d37 =>
((sget (q36.2.1.tail) 0).bind getA).bind fun d38 =>
((cell q36.2.2 d38.block d38.off).bind (getI .i64)).bind fun n39 =>
((cell q36.2.2 d38.block (d38.off + 1)).bind (getI .i64)).bind fun n40 =>
((cell q36.2.2 d38.block ((d38.off + 1) + 1)).bind getS).bind fun l41 =>
((cell q36.2.2 d38.block (((d38.off + 1) + 1) + 1)).bind getS).bind fun l42 =>
((cell q36.2.2 d38.block ((((d38.off + 1) + 1) + 1) + 1)).bind getS).bind fun l43 =>
(wr base q36.2.2 d37.block d37.off [(.int .i64 n39), (.int .i64 n40), (.slice l41.1 l41.2 l41.2), (.slice l42.1 l42.2 l42.2), (.slice l43.1 l43.2 l43.2)]).bind fun h44 =>
((cell h44 d37.block d37.off).bind (getI .i64)).bind fun n45 =>
((cell h44 d37.block (d37.off + 1)).bind (getI .i64)).bind fun n46 =>
((cell h44 d37.block ((d37.off + 1) + 1)).bind getS).bind fun l47 =>
((cell h44 d37.block (((d37.off + 1) + 1) + 1)).bind getS).bind fun l48 =>
((cell h44 d37.block ((((d37.off + 1) + 1) + 1) + 1)).bind getS).bind fun l49 =>
some ((.agg #[(.int .i64 n45), (.int .i64 n46), (.slice l47.1 l47.2 l47.2), (.slice l48.1 l48.2 l48.2), (.slice l49.1 l49.2 l49.2)]), h44)
else
none)) : Option (Value × AH)) := by kernel_rfl
theorem r12 {base : Nat} {v0 : Int} {v1 : Int} {v2_0 : Int} {v2_1 : Int} {v2_2 : ByteArray} {v2_3 : Option Addr} {v2_3n : Nat} {h : AH} {r : Value × AH} (hx :
((some (h ++ [some ⟨[(.int .i64 v2_0), (.int .i64 v2_1), (.string v2_2), (.slice v2_3 v2_3n v2_3n)], 32⟩])).bind fun h1 =>
(some (h1 ++ [some ⟨[(.int .i64 0), (.int .i64 0), (.slice none 0 0), (.slice none 0 0), (.slice none 0 0)], 29⟩])).bind fun h2 =>
((run (Et base) 62 [(.int .i64 v0), (.int .i64 (1 : Int)), (.int .i64 (99999 : Int))] h2).bind fun r4 =>
((some r4.1).bind getB).bind fun b5 =>
(if (!b5) = true then
some (.inl ([some (.int .i64 v0), some (.int .i64 v1), some (.pointer (some ⟨(List.length h), 0, none⟩)), some (.pointer (some ⟨(List.length h1), 0, none⟩)), some (.bool true)], r4.2))
else
(if (decide (v1 < (0 : Int))) = true then
some (.inl ([some (.int .i64 v0), some (.int .i64 v1), some (.pointer (some ⟨(List.length h), 0, none⟩)), some (.pointer (some ⟨(List.length h1), 0, none⟩)), some (.bool true)], r4.2))
else
((cell r4.2 (List.length h) 0).bind (getI .i64)).bind fun n6 =>
((cell r4.2 (List.length h) 1).bind (getI .i64)).bind fun n7 =>
((cell r4.2 (List.length h) 2).bind getStr).bind fun s8 =>
((cell r4.2 (List.length h) 3).bind getS).bind fun l9 =>
(run (Et base) 63 [(.agg #[(.int .i64 n6), (.int .i64 n7), (.string s8), (.slice l9.1 l9.2 l9.2)])] r4.2).bind fun r10 =>
((some r10.1).bind getB).bind fun b11 =>
some (.inl ([some (.int .i64 v0), some (.int .i64 v1), some (.pointer (some ⟨(List.length h), 0, none⟩)), some (.pointer (some ⟨(List.length h1), 0, none⟩)), some (.bool (!b11))], r10.2))))).bind fun j3 => joinK j3 fun j3 =>
((sget j3.1 0).bind (getI .i64)).bind fun n12 =>
((sget (j3.1.tail) 0).bind (getI .i64)).bind fun n13 =>
((sget (j3.1.tail.tail) 0).bind getA).bind fun d14 =>
((sget (j3.1.tail.tail.tail) 0).bind getA).bind fun d15 =>
((sget (j3.1.tail.tail.tail.tail) 0).bind getB).bind fun b16 =>
(if b16 = true then
(wr base j3.2 d15.block d15.off [(.int .i64 (0 : Int)), (.int .i64 (0 : Int)), (.slice none 0 0), (.slice none 0 0), (.slice none 0 0)]).bind fun h17 =>
((cell h17 d15.block d15.off).bind (getI .i64)).bind fun n18 =>
((cell h17 d15.block (d15.off + 1)).bind (getI .i64)).bind fun n19 =>
((cell h17 d15.block ((d15.off + 1) + 1)).bind getS).bind fun l20 =>
((cell h17 d15.block (((d15.off + 1) + 1) + 1)).bind getS).bind fun l21 =>
((cell h17 d15.block ((((d15.off + 1) + 1) + 1) + 1)).bind getS).bind fun l22 =>
some ((.agg #[(.int .i64 n18), (.int .i64 n19), (.slice l20.1 l20.2 l20.2), (.slice l21.1 l21.2 l21.2), (.slice l22.1 l22.2 l22.2)]), h17)
else
((cell j3.2 d14.block d14.off).bind (getI .i64)).bind fun n23 =>
((cell j3.2 d14.block (d14.off + 1)).bind (getI .i64)).bind fun n24 =>
((cell j3.2 d14.block ((d14.off + 1) + 1)).bind getStr).bind fun s25 =>
((cell j3.2 d14.block (((d14.off + 1) + 1) + 1)).bind getS).bind fun l26 =>
(run (Et base) 64 [(.agg #[(.int .i64 n23), (.int .i64 n24), (.string s25), (.slice l26.1 l26.2 l26.2)])] j3.2).bind fun r27 =>
((some r27.1).bind (getAgg 4)).bind fun l28 =>
((l28[0]?).bind (getI .i64)).bind fun n29 =>
((l28[1]?).bind (getI .i64)).bind fun n30 =>
((l28[2]?).bind getStr).bind fun s31 =>
((l28[3]?).bind getS).bind fun l32 =>
(some (r27.2 ++ [some ⟨[(.int .i64 n29), (.int .i64 n30), (.string s31), (.slice l32.1 l32.2 l32.2)], 32⟩])).bind fun h33 =>
(some (h33 ++ [some ⟨[(.int .i64 0), (.int .i64 0), (.slice none 0 0), (.slice none 0 0), (.slice none 0 0)], 29⟩])).bind fun h34 =>
(wr base h34 (List.length h33) 0 [(.int .i64 n12), (.int .i64 n13), (.slice (some ⟨(List.length r27.2), 0, none⟩) 1 1), (.slice none 0 0), (.slice none 0 0)]).bind fun h35 =>
(loopL (B12_0 base) [some (.pointer (some d15)), some (.pointer (some ⟨(List.length h33), 0, none⟩)), some (.int .i64 (1 : Int))] h35).bind fun q36 =>
(if q36.1 = 2 then
((sget q36.2.1 0).bind getA).bind fun d37 =>
((sget (q36.2.1.tail) 0).bind getA).bind fun d38 =>
((cell q36.2.2 d38.block d38.off).bind (getI .i64)).bind fun n39 =>
((cell q36.2.2 d38.block (d38.off + 1)).bind (getI .i64)).bind fun n40 =>
((cell q36.2.2 d38.block ((d38.off + 1) + 1)).bind getS).bind fun l41 =>
((cell q36.2.2 d38.block (((d38.off + 1) + 1) + 1)).bind getS).bind fun l42 =>
((cell q36.2.2 d38.block ((((d38.off + 1) + 1) + 1) + 1)).bind getS).bind fun l43 =>
(wr base q36.2.2 d37.block d37.off [(.int .i64 n39), (.int .i64 n40), (.slice l41.1 l41.2 l41.2), (.slice l42.1 l42.2 l42.2), (.slice l43.1 l43.2 l43.2)]).bind fun h44 =>
((cell h44 d37.block d37.off).bind (getI .i64)).bind fun n45 =>
((cell h44 d37.block (d37.off + 1)).bind (getI .i64)).bind fun n46 =>
((cell h44 d37.block ((d37.off + 1) + 1)).bind getS).bind fun l47 =>
((cell h44 d37.block (((d37.off + 1) + 1) + 1)).bind getS).bind fun l48 =>
((cell h44 d37.block ((((d37.off + 1) + 1) + 1) + 1)).bind getS).bind fun l49 =>
some ((.agg #[(.int .i64 n45), (.int .i64 n46), (.slice l47.1 l47.2 l47.2), (.slice l48.1 l48.2 l48.2), (.slice l49.1 l49.2 l49.2)]), h44)
else
none))) = some r) : run (Et base) 12 [(.int .i64 v0), (.int .i64 v1), (.agg #[(.int .i64 v2_0), (.int .i64 v2_1), (.string v2_2), (.slice v2_3 v2_3n v2_3n)])] h = some r := run_i Try.func12 (by kernel_rfl) ((f12_eq base v0 v1 v2_0 v2_1 v2_2 v2_3 v2_3n h).trans hx)
/-! impl.ActorNew (gates 0) -/
noncomputable def B14_0 (base : Nat) : Body := fun l h => lay s14_0 l fun s => exCode (Et base) (run (Et base)) loopL a14_0 (subC [1, 1, 1, 0, 0, 0] (bodyC Try.f14)) s h (keepK s14_0 e14_0)
theorem B14_0_eq (base : Nat) (v6 : Addr) (v7 : Addr) (h : AH) : B14_0 base [some (.pointer (some v6)), some (.pointer (some v7))] h =
(((cell h v7.block (v7.off + 2)).bind getS).bind fun l1 =>
(if (decide (((l1.2 : Nat) : Int) < (8 : Int))) = true then
((cell h v7.block (v7.off + 2)).bind getS).bind fun l2 =>
(some (h ++ [some ⟨[(.int .i64 (1 : Int)), (.int .i64 (0 : Int)), (.string (⟨#[]⟩ : ByteArray)), (.slice none 0 0)], 32⟩])).bind fun h3 =>
(app base h3 32 4 56 l2.1 l2.2 (rawAt h3 (some ⟨(List.length h), 0, none⟩) (1 * 4)) 1).bind fun p4 =>
((some p4.1).bind getS).bind fun l5 =>
(wr base p4.2 v7.block (v7.off + 2) [(.slice l5.1 l5.2 l5.2)]).bind fun h6 =>
some (0, [some (.pointer (some v6)), some (.pointer (some v7))], h6)
else
some (2, [some (.pointer (some v6)), some (.pointer (some v7))], h)) : Option (Nat × Slots × AH)) := by kernel_rfl
theorem f14_eq (base : Nat) (v0 : Int) (v1 : Int) (v2_0 : Int) (v2_1 : Int) (v2_2 : ByteArray) (v2_3 : Option Addr) (v2_3n : Nat) (h : AH) : exFun (Et base) (run (Et base)) loopL a14 Try.f14 [(.int .i64 v0), (.int .i64 v1), (.agg #[(.int .i64 v2_0), (.int .i64 v2_1), (.string v2_2), (.slice v2_3 v2_3n v2_3n)])] h =
((some (h ++ [some ⟨[(.int .i64 v2_0), (.int .i64 v2_1), (.string v2_2), (.slice v2_3 v2_3n v2_3n)], 32⟩])).bind fun h1 =>
(some (h1 ++ [some ⟨[(.int .i64 0), (.int .i64 0), (.slice none 0 0), (.slice none 0 0), (.slice none 0 0)], 29⟩])).bind fun h2 =>
((run (Et base) 67 [(.int .i64 v0), (.int .i64 (1 : Int)), (.int .i64 (99999 : Int))] h2).bind fun r4 =>
((some r4.1).bind getB).bind fun b5 =>
(if (!b5) = true then
some (.inl ([some (.int .i64 v0), some (.int .i64 v1), some (.pointer (some ⟨(List.length h), 0, none⟩)), some (.pointer (some ⟨(List.length h1), 0, none⟩)), some (.bool true)], r4.2))
else
(if (decide (v1 < (0 : Int))) = true then
some (.inl ([some (.int .i64 v0), some (.int .i64 v1), some (.pointer (some ⟨(List.length h), 0, none⟩)), some (.pointer (some ⟨(List.length h1), 0, none⟩)), some (.bool true)], r4.2))
else
((cell r4.2 (List.length h) 0).bind (getI .i64)).bind fun n6 =>
((cell r4.2 (List.length h) 1).bind (getI .i64)).bind fun n7 =>
((cell r4.2 (List.length h) 2).bind getStr).bind fun s8 =>
((cell r4.2 (List.length h) 3).bind getS).bind fun l9 =>
(run (Et base) 68 [(.agg #[(.int .i64 n6), (.int .i64 n7), (.string s8), (.slice l9.1 l9.2 l9.2)])] r4.2).bind fun r10 =>
((some r10.1).bind getB).bind fun b11 =>
some (.inl ([some (.int .i64 v0), some (.int .i64 v1), some (.pointer (some ⟨(List.length h), 0, none⟩)), some (.pointer (some ⟨(List.length h1), 0, none⟩)), some (.bool (!b11))], r10.2))))).bind fun j3 => joinK j3 fun j3 =>
((sget j3.1 0).bind (getI .i64)).bind fun n12 =>
((sget (j3.1.tail) 0).bind (getI .i64)).bind fun n13 =>
((sget (j3.1.tail.tail) 0).bind getA).bind fun d14 =>
((sget (j3.1.tail.tail.tail) 0).bind getA).bind fun d15 =>
((sget (j3.1.tail.tail.tail.tail) 0).bind getB).bind fun b16 =>
(if b16 = true then
(wr base j3.2 d15.block d15.off [(.int .i64 (0 : Int)), (.int .i64 (0 : Int)), (.slice none 0 0), (.slice none 0 0), (.slice none 0 0)]).bind fun h17 =>
((cell h17 d15.block d15.off).bind (getI .i64)).bind fun n18 =>
((cell h17 d15.block (d15.off + 1)).bind (getI .i64)).bind fun n19 =>
((cell h17 d15.block ((d15.off + 1) + 1)).bind getS).bind fun l20 =>
((cell h17 d15.block (((d15.off + 1) + 1) + 1)).bind getS).bind fun l21 =>
((cell h17 d15.block ((((d15.off + 1) + 1) + 1) + 1)).bind getS).bind fun l22 =>
some ((.agg #[(.int .i64 n18), (.int .i64 n19), (.slice l20.1 l20.2 l20.2), (.slice l21.1 l21.2 l21.2), (.slice l22.1 l22.2 l22.2)]), h17)
else
((cell j3.2 d14.block d14.off).bind (getI .i64)).bind fun n23 =>
((cell j3.2 d14.block (d14.off + 1)).bind (getI .i64)).bind fun n24 =>
((cell j3.2 d14.block ((d14.off + 1) + 1)).bind getStr).bind fun s25 =>
((cell j3.2 d14.block (((d14.off + 1) + 1) + 1)).bind getS).bind fun l26 =>
(run (Et base) 69 [(.agg #[(.int .i64 n23), (.int .i64 n24), (.string s25), (.slice l26.1 l26.2 l26.2)])] j3.2).bind fun r27 =>
((some r27.1).bind (getAgg 4)).bind fun l28 =>
((l28[0]?).bind (getI .i64)).bind fun n29 =>
((l28[1]?).bind (getI .i64)).bind fun n30 =>
((l28[2]?).bind getStr).bind fun s31 =>
((l28[3]?).bind getS).bind fun l32 =>
(some (r27.2 ++ [some ⟨[(.int .i64 n29), (.int .i64 n30), (.string s31), (.slice l32.1 l32.2 l32.2)], 32⟩])).bind fun h33 =>
(some (h33 ++ [some ⟨[(.int .i64 0), (.int .i64 0), (.slice none 0 0), (.slice none 0 0), (.slice none 0 0)], 29⟩])).bind fun h34 =>
(wr base h34 (List.length h33) 0 [(.int .i64 n12), (.int .i64 n13), (.slice (some ⟨(List.length r27.2), 0, none⟩) 1 1), (.slice none 0 0), (.slice none 0 0)]).bind fun h35 =>
(loopL (B14_0 base) [some (.pointer (some d15)), some (.pointer (some ⟨(List.length h33), 0, none⟩))] h35).bind fun q36 =>
(if q36.1 = 2 then
((sget q36.2.1 0).bind getA).bind fun d37 =>
((sget (q36.2.1.tail) 0).bind getA).bind fun d38 =>
((cell q36.2.2 d38.block d38.off).bind (getI .i64)).bind fun n39 =>
((cell q36.2.2 d38.block (d38.off + 1)).bind (getI .i64)).bind fun n40 =>
((cell q36.2.2 d38.block ((d38.off + 1) + 1)).bind getS).bind fun l41 =>
((cell q36.2.2 d38.block (((d38.off + 1) + 1) + 1)).bind getS).bind fun l42 =>
((cell q36.2.2 d38.block ((((d38.off + 1) + 1) + 1) + 1)).bind getS).bind fun l43 =>
(wr base q36.2.2 d37.block d37.off [(.int .i64 n39), (.int .i64 n40), (.slice l41.1 l41.2 l41.2), (.slice l42.1 l42.2 l42.2), (.slice l43.1 l43.2 l43.2)]).bind fun h44 =>
((cell h44 d37.block d37.off).bind (getI .i64)).bind fun n45 =>
((cell h44 d37.block (d37.off + 1)).bind (getI .i64)).bind fun n46 =>
((cell h44 d37.block ((d37.off + 1) + 1)).bind getS).bind fun l47 =>
((cell h44 d37.block (((d37.off + 1) + 1) + 1)).bind getS).bind fun l48 =>
((cell h44 d37.block ((((d37.off + 1) + 1) + 1) + 1)).bind getS).bind fun l49 =>
some ((.agg #[(.int .i64 n45), (.int .i64 n46), (.slice l47.1 l47.2 l47.2), (.slice l48.1 l48.2 l48.2), (.slice l49.1 l49.2 l49.2)]), h44)
else
none)) : Option (Value × AH)) := by kernel_rfl
theorem r14 {base : Nat} {v0 : Int} {v1 : Int} {v2_0 : Int} {v2_1 : Int} {v2_2 : ByteArray} {v2_3 : Option Addr} {v2_3n : Nat} {h : AH} {r : Value × AH} (hx :
((some (h ++ [some ⟨[(.int .i64 v2_0), (.int .i64 v2_1), (.string v2_2), (.slice v2_3 v2_3n v2_3n)], 32⟩])).bind fun h1 =>
(some (h1 ++ [some ⟨[(.int .i64 0), (.int .i64 0), (.slice none 0 0), (.slice none 0 0), (.slice none 0 0)], 29⟩])).bind fun h2 =>
((run (Et base) 67 [(.int .i64 v0), (.int .i64 (1 : Int)), (.int .i64 (99999 : Int))] h2).bind fun r4 =>
((some r4.1).bind getB).bind fun b5 =>
(if (!b5) = true then
some (.inl ([some (.int .i64 v0), some (.int .i64 v1), some (.pointer (some ⟨(List.length h), 0, none⟩)), some (.pointer (some ⟨(List.length h1), 0, none⟩)), some (.bool true)], r4.2))
else
(if (decide (v1 < (0 : Int))) = true then
some (.inl ([some (.int .i64 v0), some (.int .i64 v1), some (.pointer (some ⟨(List.length h), 0, none⟩)), some (.pointer (some ⟨(List.length h1), 0, none⟩)), some (.bool true)], r4.2))
else
((cell r4.2 (List.length h) 0).bind (getI .i64)).bind fun n6 =>
((cell r4.2 (List.length h) 1).bind (getI .i64)).bind fun n7 =>
((cell r4.2 (List.length h) 2).bind getStr).bind fun s8 =>
((cell r4.2 (List.length h) 3).bind getS).bind fun l9 =>
(run (Et base) 68 [(.agg #[(.int .i64 n6), (.int .i64 n7), (.string s8), (.slice l9.1 l9.2 l9.2)])] r4.2).bind fun r10 =>
((some r10.1).bind getB).bind fun b11 =>
some (.inl ([some (.int .i64 v0), some (.int .i64 v1), some (.pointer (some ⟨(List.length h), 0, none⟩)), some (.pointer (some ⟨(List.length h1), 0, none⟩)), some (.bool (!b11))], r10.2))))).bind fun j3 => joinK j3 fun j3 =>
((sget j3.1 0).bind (getI .i64)).bind fun n12 =>
((sget (j3.1.tail) 0).bind (getI .i64)).bind fun n13 =>
((sget (j3.1.tail.tail) 0).bind getA).bind fun d14 =>
((sget (j3.1.tail.tail.tail) 0).bind getA).bind fun d15 =>
((sget (j3.1.tail.tail.tail.tail) 0).bind getB).bind fun b16 =>
(if b16 = true then
(wr base j3.2 d15.block d15.off [(.int .i64 (0 : Int)), (.int .i64 (0 : Int)), (.slice none 0 0), (.slice none 0 0), (.slice none 0 0)]).bind fun h17 =>
((cell h17 d15.block d15.off).bind (getI .i64)).bind fun n18 =>
((cell h17 d15.block (d15.off + 1)).bind (getI .i64)).bind fun n19 =>
((cell h17 d15.block ((d15.off + 1) + 1)).bind getS).bind fun l20 =>
((cell h17 d15.block (((d15.off + 1) + 1) + 1)).bind getS).bind fun l21 =>
((cell h17 d15.block ((((d15.off + 1) + 1) + 1) + 1)).bind getS).bind fun l22 =>
some ((.agg #[(.int .i64 n18), (.int .i64 n19), (.slice l20.1 l20.2 l20.2), (.slice l21.1 l21.2 l21.2), (.slice l22.1 l22.2 l22.2)]), h17)
else
((cell j3.2 d14.block d14.off).bind (getI .i64)).bind fun n23 =>
((cell j3.2 d14.block (d14.off + 1)).bind (getI .i64)).bind fun n24 =>
((cell j3.2 d14.block ((d14.off + 1) + 1)).bind getStr).bind fun s25 =>
((cell j3.2 d14.block (((d14.off + 1) + 1) + 1)).bind getS).bind fun l26 =>
(run (Et base) 69 [(.agg #[(.int .i64 n23), (.int .i64 n24), (.string s25), (.slice l26.1 l26.2 l26.2)])] j3.2).bind fun r27 =>
((some r27.1).bind (getAgg 4)).bind fun l28 =>
((l28[0]?).bind (getI .i64)).bind fun n29 =>
((l28[1]?).bind (getI .i64)).bind fun n30 =>
((l28[2]?).bind getStr).bind fun s31 =>
((l28[3]?).bind getS).bind fun l32 =>
(some (r27.2 ++ [some ⟨[(.int .i64 n29), (.int .i64 n30), (.string s31), (.slice l32.1 l32.2 l32.2)], 32⟩])).bind fun h33 =>
(some (h33 ++ [some ⟨[(.int .i64 0), (.int .i64 0), (.slice none 0 0), (.slice none 0 0), (.slice none 0 0)], 29⟩])).bind fun h34 =>
(wr base h34 (List.length h33) 0 [(.int .i64 n12), (.int .i64 n13), (.slice (some ⟨(List.length r27.2), 0, none⟩) 1 1), (.slice none 0 0), (.slice none 0 0)]).bind fun h35 =>
(loopL (B14_0 base) [some (.pointer (some d15)), some (.pointer (some ⟨(List.length h33), 0, none⟩))] h35).bind fun q36 =>
(if q36.1 = 2 then
((sget q36.2.1 0).bind getA).bind fun d37 =>
((sget (q36.2.1.tail) 0).bind getA).bind fun d38 =>
((cell q36.2.2 d38.block d38.off).bind (getI .i64)).bind fun n39 =>
((cell q36.2.2 d38.block (d38.off + 1)).bind (getI .i64)).bind fun n40 =>
((cell q36.2.2 d38.block ((d38.off + 1) + 1)).bind getS).bind fun l41 =>
((cell q36.2.2 d38.block (((d38.off + 1) + 1) + 1)).bind getS).bind fun l42 =>
((cell q36.2.2 d38.block ((((d38.off + 1) + 1) + 1) + 1)).bind getS).bind fun l43 =>
(wr base q36.2.2 d37.block d37.off [(.int .i64 n39), (.int .i64 n40), (.slice l41.1 l41.2 l41.2), (.slice l42.1 l42.2 l42.2), (.slice l43.1 l43.2 l43.2)]).bind fun h44 =>
((cell h44 d37.block d37.off).bind (getI .i64)).bind fun n45 =>
((cell h44 d37.block (d37.off + 1)).bind (getI .i64)).bind fun n46 =>
((cell h44 d37.block ((d37.off + 1) + 1)).bind getS).bind fun l47 =>
((cell h44 d37.block (((d37.off + 1) + 1) + 1)).bind getS).bind fun l48 =>
((cell h44 d37.block ((((d37.off + 1) + 1) + 1) + 1)).bind getS).bind fun l49 =>
some ((.agg #[(.int .i64 n45), (.int .i64 n46), (.slice l47.1 l47.2 l47.2), (.slice l48.1 l48.2 l48.2), (.slice l49.1 l49.2 l49.2)]), h44)
else
none))) = some r) : run (Et base) 14 [(.int .i64 v0), (.int .i64 v1), (.agg #[(.int .i64 v2_0), (.int .i64 v2_1), (.string v2_2), (.slice v2_3 v2_3n v2_3n)])] h = some r := run_i Try.func14 (by kernel_rfl) ((f14_eq base v0 v1 v2_0 v2_1 v2_2 v2_3 v2_3n h).trans hx)
/-! laws.eqActor (gates 0) -/
theorem f15_eq (base : Nat) (v0_0 : Int) (v0_1 : Int) (v0_2 : Option Addr) (v0_2n : Nat) (v0_3 : Option Addr) (v0_3n : Nat) (v0_4 : Option Addr) (v0_4n : Nat) (v1_0 : Int) (v1_1 : Int) (v1_2 : Option Addr) (v1_2n : Nat) (v1_3 : Option Addr) (v1_3n : Nat) (v1_4 : Option Addr) (v1_4n : Nat) (h : AH) : exFun (Et base) (run (Et base)) loopL a15 Try.f15 [(.agg #[(.int .i64 v0_0), (.int .i64 v0_1), (.slice v0_2 v0_2n v0_2n), (.slice v0_3 v0_3n v0_3n), (.slice v0_4 v0_4n v0_4n)]), (.agg #[(.int .i64 v1_0), (.int .i64 v1_1), (.slice v1_2 v1_2n v1_2n), (.slice v1_3 v1_3n v1_3n), (.slice v1_4 v1_4n v1_4n)])] h =
((some (h ++ [some ⟨[(.int .i64 v0_0), (.int .i64 v0_1), (.slice v0_2 v0_2n v0_2n), (.slice v0_3 v0_3n v0_3n), (.slice v0_4 v0_4n v0_4n)], 29⟩])).bind fun h1 =>
(some (h1 ++ [some ⟨[(.int .i64 v1_0), (.int .i64 v1_1), (.slice v1_2 v1_2n v1_2n), (.slice v1_3 v1_3n v1_3n), (.slice v1_4 v1_4n v1_4n)], 29⟩])).bind fun h2 =>
((cell h2 (List.length h) 0).bind (getI .i64)).bind fun n3 =>
((cell h2 (List.length h1) 0).bind (getI .i64)).bind fun n4 =>
(if (n3 != n4) = true then
some ((.bool false), h2)
else
((cell h2 (List.length h) 1).bind (getI .i64)).bind fun n5 =>
((cell h2 (List.length h1) 1).bind (getI .i64)).bind fun n6 =>
(if (n5 != n6) = true then
some ((.bool false), h2)
else
((cell h2 (List.length h) 2).bind getS).bind fun l7 =>
((cell h2 (List.length h1) 2).bind getS).bind fun l8 =>
(run (Et base) 70 [(.slice l7.1 l7.2 l7.2), (.slice l8.1 l8.2 l8.2)] h2).bind fun r9 =>
((some r9.1).bind getB).bind fun b10 =>
(if (!b10) = true then
some ((.bool false), r9.2)
else
((cell r9.2 (List.length h) 3).bind getS).bind fun l11 =>
((cell r9.2 (List.length h1) 3).bind getS).bind fun l12 =>
(run (Et base) 70 [(.slice l11.1 l11.2 l11.2), (.slice l12.1 l12.2 l12.2)] r9.2).bind fun r13 =>
((some r13.1).bind getB).bind fun b14 =>
(if (!b14) = true then
some ((.bool false), r13.2)
else
((cell r13.2 (List.length h) 4).bind getS).bind fun l15 =>
((cell r13.2 (List.length h1) 4).bind getS).bind fun l16 =>
(run (Et base) 71 [(.slice l15.1 l15.2 l15.2), (.slice l16.1 l16.2 l16.2)] r13.2).bind fun r17 =>
((some r17.1).bind getB).bind fun b18 =>
(if (!b18) = true then
some ((.bool false), r17.2)
else
some ((.bool true), r17.2)))))) : Option (Value × AH)) := by kernel_rfl
theorem r15 {base : Nat} {v0_0 : Int} {v0_1 : Int} {v0_2 : Option Addr} {v0_2n : Nat} {v0_3 : Option Addr} {v0_3n : Nat} {v0_4 : Option Addr} {v0_4n : Nat} {v1_0 : Int} {v1_1 : Int} {v1_2 : Option Addr} {v1_2n : Nat} {v1_3 : Option Addr} {v1_3n : Nat} {v1_4 : Option Addr} {v1_4n : Nat} {h : AH} {r : Value × AH} (hx :
((some (h ++ [some ⟨[(.int .i64 v0_0), (.int .i64 v0_1), (.slice v0_2 v0_2n v0_2n), (.slice v0_3 v0_3n v0_3n), (.slice v0_4 v0_4n v0_4n)], 29⟩])).bind fun h1 =>
(some (h1 ++ [some ⟨[(.int .i64 v1_0), (.int .i64 v1_1), (.slice v1_2 v1_2n v1_2n), (.slice v1_3 v1_3n v1_3n), (.slice v1_4 v1_4n v1_4n)], 29⟩])).bind fun h2 =>
((cell h2 (List.length h) 0).bind (getI .i64)).bind fun n3 =>
((cell h2 (List.length h1) 0).bind (getI .i64)).bind fun n4 =>
(if (n3 != n4) = true then
some ((.bool false), h2)
else
((cell h2 (List.length h) 1).bind (getI .i64)).bind fun n5 =>
((cell h2 (List.length h1) 1).bind (getI .i64)).bind fun n6 =>
(if (n5 != n6) = true then
some ((.bool false), h2)
else
((cell h2 (List.length h) 2).bind getS).bind fun l7 =>
((cell h2 (List.length h1) 2).bind getS).bind fun l8 =>
(run (Et base) 70 [(.slice l7.1 l7.2 l7.2), (.slice l8.1 l8.2 l8.2)] h2).bind fun r9 =>
((some r9.1).bind getB).bind fun b10 =>
(if (!b10) = true then
some ((.bool false), r9.2)
else
((cell r9.2 (List.length h) 3).bind getS).bind fun l11 =>
((cell r9.2 (List.length h1) 3).bind getS).bind fun l12 =>
(run (Et base) 70 [(.slice l11.1 l11.2 l11.2), (.slice l12.1 l12.2 l12.2)] r9.2).bind fun r13 =>
((some r13.1).bind getB).bind fun b14 =>
(if (!b14) = true then
some ((.bool false), r13.2)
else
((cell r13.2 (List.length h) 4).bind getS).bind fun l15 =>
((cell r13.2 (List.length h1) 4).bind getS).bind fun l16 =>
(run (Et base) 71 [(.slice l15.1 l15.2 l15.2), (.slice l16.1 l16.2 l16.2)] r13.2).bind fun r17 =>
((some r17.1).bind getB).bind fun b18 =>
(if (!b18) = true then
some ((.bool false), r17.2)
else
some ((.bool true), r17.2))))))) = some r) : run (Et base) 15 [(.agg #[(.int .i64 v0_0), (.int .i64 v0_1), (.slice v0_2 v0_2n v0_2n), (.slice v0_3 v0_3n v0_3n), (.slice v0_4 v0_4n v0_4n)]), (.agg #[(.int .i64 v1_0), (.int .i64 v1_1), (.slice v1_2 v1_2n v1_2n), (.slice v1_3 v1_3n v1_3n), (.slice v1_4 v1_4n v1_4n)])] h = some r := run_i Try.func15 (by kernel_rfl) ((f15_eq base v0_0 v0_1 v0_2 v0_2n v0_3 v0_3n v0_4 v0_4n v1_0 v1_1 v1_2 v1_2n v1_3 v1_3n v1_4 v1_4n h).trans hx)
/-! laws.markTerm (gates 0) -/
theorem f17_eq (base : Nat) (v0_0 : Int) (v0_1 : Int) (v0_2 : ByteArray) (v0_3 : Option Addr) (v0_3n : Nat) (v1 : Int) (h : AH) : exFun (Et base) (run (Et base)) loopL a17 Try.f17 [(.agg #[(.int .i64 v0_0), (.int .i64 v0_1), (.string v0_2), (.slice v0_3 v0_3n v0_3n)]), (.int .i64 v1)] h =
((some (h ++ [some ⟨[(.int .i64 v0_0), (.int .i64 v0_1), (.string v0_2), (.slice v0_3 v0_3n v0_3n)], 32⟩])).bind fun h1 =>
((cell h1 (List.length h) 3).bind getS).bind fun l2 =>
(run (Et base) 72 [(.slice l2.1 l2.2 l2.2), (.int .i64 v1)] h1).bind fun r3 =>
((some r3.1).bind (getI .i64)).bind fun n4 =>
some ((.int .i64 n4), r3.2) : Option (Value × AH)) := by kernel_rfl
theorem r17 {base : Nat} {v0_0 : Int} {v0_1 : Int} {v0_2 : ByteArray} {v0_3 : Option Addr} {v0_3n : Nat} {v1 : Int} {h : AH} {r : Value × AH} (hx :
((some (h ++ [some ⟨[(.int .i64 v0_0), (.int .i64 v0_1), (.string v0_2), (.slice v0_3 v0_3n v0_3n)], 32⟩])).bind fun h1 =>
((cell h1 (List.length h) 3).bind getS).bind fun l2 =>
(run (Et base) 72 [(.slice l2.1 l2.2 l2.2), (.int .i64 v1)] h1).bind fun r3 =>
((some r3.1).bind (getI .i64)).bind fun n4 =>
some ((.int .i64 n4), r3.2)) = some r) : run (Et base) 17 [(.agg #[(.int .i64 v0_0), (.int .i64 v0_1), (.string v0_2), (.slice v0_3 v0_3n v0_3n)]), (.int .i64 v1)] h = some r := run_i Try.func17 (by kernel_rfl) ((f17_eq base v0_0 v0_1 v0_2 v0_3 v0_3n v1 h).trans hx)
/-! laws.markActor (gates 0) -/
theorem f18_eq (base : Nat) (v0_0 : Int) (v0_1 : Int) (v0_2 : Option Addr) (v0_2n : Nat) (v0_3 : Option Addr) (v0_3n : Nat) (v0_4 : Option Addr) (v0_4n : Nat) (v1 : Int) (h : AH) : exFun (Et base) (run (Et base)) loopL a18 Try.f18 [(.agg #[(.int .i64 v0_0), (.int .i64 v0_1), (.slice v0_2 v0_2n v0_2n), (.slice v0_3 v0_3n v0_3n), (.slice v0_4 v0_4n v0_4n)]), (.int .i64 v1)] h =
((some (h ++ [some ⟨[(.int .i64 v0_0), (.int .i64 v0_1), (.slice v0_2 v0_2n v0_2n), (.slice v0_3 v0_3n v0_3n), (.slice v0_4 v0_4n v0_4n)], 29⟩])).bind fun h1 =>
((cell h1 (List.length h) 2).bind getS).bind fun l2 =>
(run (Et base) 72 [(.slice l2.1 l2.2 l2.2), (.int .i64 v1)] h1).bind fun r3 =>
((some r3.1).bind (getI .i64)).bind fun n4 =>
((cell r3.2 (List.length h) 3).bind getS).bind fun l5 =>
(run (Et base) 72 [(.slice l5.1 l5.2 l5.2), (.int .i64 n4)] r3.2).bind fun r6 =>
((some r6.1).bind (getI .i64)).bind fun n7 =>
((cell r6.2 (List.length h) 4).bind getS).bind fun l8 =>
(run (Et base) 73 [(.slice l8.1 l8.2 l8.2), (.int .i64 n7)] r6.2).bind fun r9 =>
((some r9.1).bind (getI .i64)).bind fun n10 =>
some ((.int .i64 n10), r9.2) : Option (Value × AH)) := by kernel_rfl
theorem r18 {base : Nat} {v0_0 : Int} {v0_1 : Int} {v0_2 : Option Addr} {v0_2n : Nat} {v0_3 : Option Addr} {v0_3n : Nat} {v0_4 : Option Addr} {v0_4n : Nat} {v1 : Int} {h : AH} {r : Value × AH} (hx :
((some (h ++ [some ⟨[(.int .i64 v0_0), (.int .i64 v0_1), (.slice v0_2 v0_2n v0_2n), (.slice v0_3 v0_3n v0_3n), (.slice v0_4 v0_4n v0_4n)], 29⟩])).bind fun h1 =>
((cell h1 (List.length h) 2).bind getS).bind fun l2 =>
(run (Et base) 72 [(.slice l2.1 l2.2 l2.2), (.int .i64 v1)] h1).bind fun r3 =>
((some r3.1).bind (getI .i64)).bind fun n4 =>
((cell r3.2 (List.length h) 3).bind getS).bind fun l5 =>
(run (Et base) 72 [(.slice l5.1 l5.2 l5.2), (.int .i64 n4)] r3.2).bind fun r6 =>
((some r6.1).bind (getI .i64)).bind fun n7 =>
((cell r6.2 (List.length h) 4).bind getS).bind fun l8 =>
(run (Et base) 73 [(.slice l8.1 l8.2 l8.2), (.int .i64 n7)] r6.2).bind fun r9 =>
((some r9.1).bind (getI .i64)).bind fun n10 =>
some ((.int .i64 n10), r9.2)) = some r) : run (Et base) 18 [(.agg #[(.int .i64 v0_0), (.int .i64 v0_1), (.slice v0_2 v0_2n v0_2n), (.slice v0_3 v0_3n v0_3n), (.slice v0_4 v0_4n v0_4n)]), (.int .i64 v1)] h = some r := run_i Try.func18 (by kernel_rfl) ((f18_eq base v0_0 v0_1 v0_2 v0_2n v0_3 v0_3n v0_4 v0_4n v1 h).trans hx)
/-! laws.heldActor (gates 0) -/
theorem f19_eq (base : Nat) (v0_0 : Int) (v0_1 : Int) (v0_2 : Option Addr) (v0_2n : Nat) (v0_3 : Option Addr) (v0_3n : Nat) (v0_4 : Option Addr) (v0_4n : Nat) (v1 : Int) (h : AH) : exFun (Et base) (run (Et base)) loopL a19 Try.f19 [(.agg #[(.int .i64 v0_0), (.int .i64 v0_1), (.slice v0_2 v0_2n v0_2n), (.slice v0_3 v0_3n v0_3n), (.slice v0_4 v0_4n v0_4n)]), (.int .i64 v1)] h =
((some (h ++ [some ⟨[(.int .i64 v0_0), (.int .i64 v0_1), (.slice v0_2 v0_2n v0_2n), (.slice v0_3 v0_3n v0_3n), (.slice v0_4 v0_4n v0_4n)], 29⟩])).bind fun h1 =>
((cell h1 (List.length h) 2).bind getS).bind fun l2 =>
(run (Et base) 74 [(.slice l2.1 l2.2 l2.2), (.int .i64 v1)] h1).bind fun r3 =>
((some r3.1).bind (getI .i64)).bind fun n4 =>
(if (decide (n4 < (0 : Int))) = true then
some ((.int .i64 (-1 : Int)), r3.2)
else
((cell r3.2 (List.length h) 3).bind getS).bind fun l5 =>
(run (Et base) 74 [(.slice l5.1 l5.2 l5.2), (.int .i64 n4)] r3.2).bind fun r6 =>
((some r6.1).bind (getI .i64)).bind fun n7 =>
(if (decide (n7 < (0 : Int))) = true then
some ((.int .i64 (-1 : Int)), r6.2)
else
((cell r6.2 (List.length h) 4).bind getS).bind fun l8 =>
(run (Et base) 75 [(.slice l8.1 l8.2 l8.2), (.int .i64 n7)] r6.2).bind fun r9 =>
((some r9.1).bind (getI .i64)).bind fun n10 =>
(if (decide (n10 < (0 : Int))) = true then
some ((.int .i64 (-1 : Int)), r9.2)
else
some ((.int .i64 n10), r9.2)))) : Option (Value × AH)) := by kernel_rfl
theorem r19 {base : Nat} {v0_0 : Int} {v0_1 : Int} {v0_2 : Option Addr} {v0_2n : Nat} {v0_3 : Option Addr} {v0_3n : Nat} {v0_4 : Option Addr} {v0_4n : Nat} {v1 : Int} {h : AH} {r : Value × AH} (hx :
((some (h ++ [some ⟨[(.int .i64 v0_0), (.int .i64 v0_1), (.slice v0_2 v0_2n v0_2n), (.slice v0_3 v0_3n v0_3n), (.slice v0_4 v0_4n v0_4n)], 29⟩])).bind fun h1 =>
((cell h1 (List.length h) 2).bind getS).bind fun l2 =>
(run (Et base) 74 [(.slice l2.1 l2.2 l2.2), (.int .i64 v1)] h1).bind fun r3 =>
((some r3.1).bind (getI .i64)).bind fun n4 =>
(if (decide (n4 < (0 : Int))) = true then
some ((.int .i64 (-1 : Int)), r3.2)
else
((cell r3.2 (List.length h) 3).bind getS).bind fun l5 =>
(run (Et base) 74 [(.slice l5.1 l5.2 l5.2), (.int .i64 n4)] r3.2).bind fun r6 =>
((some r6.1).bind (getI .i64)).bind fun n7 =>
(if (decide (n7 < (0 : Int))) = true then
some ((.int .i64 (-1 : Int)), r6.2)
else
((cell r6.2 (List.length h) 4).bind getS).bind fun l8 =>
(run (Et base) 75 [(.slice l8.1 l8.2 l8.2), (.int .i64 n7)] r6.2).bind fun r9 =>
((some r9.1).bind (getI .i64)).bind fun n10 =>
(if (decide (n10 < (0 : Int))) = true then
some ((.int .i64 (-1 : Int)), r9.2)
else
some ((.int .i64 n10), r9.2))))) = some r) : run (Et base) 19 [(.agg #[(.int .i64 v0_0), (.int .i64 v0_1), (.slice v0_2 v0_2n v0_2n), (.slice v0_3 v0_3n v0_3n), (.slice v0_4 v0_4n v0_4n)]), (.int .i64 v1)] h = some r := run_i Try.func19 (by kernel_rfl) ((f19_eq base v0_0 v0_1 v0_2 v0_2n v0_3 v0_3n v0_4 v0_4n v1 h).trans hx)
/-! laws.FnExactActorNew (gates 1) -/
theorem f3_eq (base : Nat) (v0 : Int) (v1 : Int) (v2_0 : Int) (v2_1 : Int) (v2_2 : ByteArray) (v2_3 : Option Addr) (v2_3n : Nat) (h : AH) : exFun (Et base) (run (Et base)) loopL a3 Try.f3 [(.int .i64 v0), (.int .i64 v1), (.agg #[(.int .i64 v2_0), (.int .i64 v2_1), (.string v2_2), (.slice v2_3 v2_3n v2_3n)])] h =
((some (h ++ [some ⟨[(.int .i64 v2_0), (.int .i64 v2_1), (.string v2_2), (.slice v2_3 v2_3n v2_3n)], 24⟩])).bind fun h1 =>
((cell h1 (List.length h) 0).bind (getI .i64)).bind fun n2 =>
((cell h1 (List.length h) 1).bind (getI .i64)).bind fun n3 =>
((cell h1 (List.length h) 2).bind getStr).bind fun s4 =>
((cell h1 (List.length h) 3).bind getS).bind fun l5 =>
(run (Et base) 11 [(.agg #[(.int .i64 n2), (.int .i64 n3), (.string s4), (.slice l5.1 l5.2 l5.2)]), (.int .i64 (1048576 : Int))] h1).bind fun r6 =>
((some r6.1).bind (getI .i64)).bind fun n7 =>
(if (decide (n7 < (0 : Int))) = true then
some ((.bool true), r6.2)
else
((cell r6.2 (List.length h) 0).bind (getI .i64)).bind fun n8 =>
((cell r6.2 (List.length h) 1).bind (getI .i64)).bind fun n9 =>
((cell r6.2 (List.length h) 2).bind getStr).bind fun s10 =>
((cell r6.2 (List.length h) 3).bind getS).bind fun l11 =>
(run (Et base) 13 [(.agg #[(.int .i64 n8), (.int .i64 n9), (.string s10), (.slice l11.1 l11.2 l11.2)])] r6.2).bind fun r12 =>
((some r12.1).bind (getAgg 4)).bind fun l13 =>
((l13[0]?).bind (getI .i64)).bind fun n14 =>
((l13[1]?).bind (getI .i64)).bind fun n15 =>
((l13[2]?).bind getStr).bind fun s16 =>
((l13[3]?).bind getS).bind fun l17 =>
(run (Et base) 12 [(.int .i64 v0), (.int .i64 v1), (.agg #[(.int .i64 n14), (.int .i64 n15), (.string s16), (.slice l17.1 l17.2 l17.2)])] r12.2).bind fun r18 =>
((some r18.1).bind (getAgg 5)).bind fun l19 =>
((l19[0]?).bind (getI .i64)).bind fun n20 =>
((l19[1]?).bind (getI .i64)).bind fun n21 =>
((l19[2]?).bind getS).bind fun l22 =>
((l19[3]?).bind getS).bind fun l23 =>
((l19[4]?).bind getS).bind fun l24 =>
(some (r18.2 ++ [some ⟨[(.int .i64 0), (.int .i64 0), (.slice none 0 0), (.slice none 0 0), (.slice none 0 0)], 29⟩])).bind fun h25 =>
(wr base h25 (List.length r18.2) 0 [(.int .i64 n20), (.int .i64 n21), (.slice l22.1 l22.2 l22.2), (.slice l23.1 l23.2 l23.2), (.slice l24.1 l24.2 l24.2)]).bind fun h26 =>
((cell h26 (List.length h) 0).bind (getI .i64)).bind fun n27 =>
((cell h26 (List.length h) 1).bind (getI .i64)).bind fun n28 =>
((cell h26 (List.length h) 2).bind getStr).bind fun s29 =>
((cell h26 (List.length h) 3).bind getS).bind fun l30 =>
(run (Et base) 13 [(.agg #[(.int .i64 n27), (.int .i64 n28), (.string s29), (.slice l30.1 l30.2 l30.2)])] h26).bind fun r31 =>
((some r31.1).bind (getAgg 4)).bind fun l32 =>
((l32[0]?).bind (getI .i64)).bind fun n33 =>
((l32[1]?).bind (getI .i64)).bind fun n34 =>
((l32[2]?).bind getStr).bind fun s35 =>
((l32[3]?).bind getS).bind fun l36 =>
(some (r31.2 ++ [some ⟨[(.int .i64 0), (.int .i64 0), (.string ⟨#[]⟩), (.slice none 0 0)], 32⟩])).bind fun h37 =>
(wr base h37 (List.length r31.2) 0 [(.int .i64 n33), (.int .i64 n34), (.string s35), (.slice l36.1 l36.2 l36.2)]).bind fun h38 =>
((cell h38 (List.length r31.2) 0).bind (getI .i64)).bind fun n39 =>
((cell h38 (List.length r31.2) 1).bind (getI .i64)).bind fun n40 =>
((cell h38 (List.length r31.2) 2).bind getStr).bind fun s41 =>
((cell h38 (List.length r31.2) 3).bind getS).bind fun l42 =>
(run (Et base) 14 [(.int .i64 v0), (.int .i64 v1), (.agg #[(.int .i64 n39), (.int .i64 n40), (.string s41), (.slice l42.1 l42.2 l42.2)])] h38).bind fun r43 =>
((some r43.1).bind (getAgg 5)).bind fun l44 =>
((l44[0]?).bind (getI .i64)).bind fun n45 =>
((l44[1]?).bind (getI .i64)).bind fun n46 =>
((l44[2]?).bind getS).bind fun l47 =>
((l44[3]?).bind getS).bind fun l48 =>
((l44[4]?).bind getS).bind fun l49 =>
(some (r43.2 ++ [some ⟨[(.int .i64 0), (.int .i64 0), (.slice none 0 0), (.slice none 0 0), (.slice none 0 0)], 29⟩])).bind fun h50 =>
(wr base h50 (List.length r43.2) 0 [(.int .i64 n45), (.int .i64 n46), (.slice l47.1 l47.2 l47.2), (.slice l48.1 l48.2 l48.2), (.slice l49.1 l49.2 l49.2)]).bind fun h51 =>
((cell h51 (List.length r43.2) 0).bind (getI .i64)).bind fun n52 =>
((cell h51 (List.length r43.2) 1).bind (getI .i64)).bind fun n53 =>
((cell h51 (List.length r43.2) 2).bind getS).bind fun l54 =>
((cell h51 (List.length r43.2) 3).bind getS).bind fun l55 =>
((cell h51 (List.length r43.2) 4).bind getS).bind fun l56 =>
((cell h51 (List.length r18.2) 0).bind (getI .i64)).bind fun n57 =>
((cell h51 (List.length r18.2) 1).bind (getI .i64)).bind fun n58 =>
((cell h51 (List.length r18.2) 2).bind getS).bind fun l59 =>
((cell h51 (List.length r18.2) 3).bind getS).bind fun l60 =>
((cell h51 (List.length r18.2) 4).bind getS).bind fun l61 =>
(run (Et base) 15 [(.agg #[(.int .i64 n52), (.int .i64 n53), (.slice l54.1 l54.2 l54.2), (.slice l55.1 l55.2 l55.2), (.slice l56.1 l56.2 l56.2)]), (.agg #[(.int .i64 n57), (.int .i64 n58), (.slice l59.1 l59.2 l59.2), (.slice l60.1 l60.2 l60.2), (.slice l61.1 l61.2 l61.2)])] h51).bind fun r62 =>
((some r62.1).bind getB).bind fun b63 =>
(if (!b63) = true then
some ((.bool false), r62.2)
else
((cell r62.2 (List.length r31.2) 0).bind (getI .i64)).bind fun n64 =>
((cell r62.2 (List.length r31.2) 1).bind (getI .i64)).bind fun n65 =>
((cell r62.2 (List.length r31.2) 2).bind getStr).bind fun s66 =>
((cell r62.2 (List.length r31.2) 3).bind getS).bind fun l67 =>
((cell r62.2 (List.length h) 0).bind (getI .i64)).bind fun n68 =>
((cell r62.2 (List.length h) 1).bind (getI .i64)).bind fun n69 =>
((cell r62.2 (List.length h) 2).bind getStr).bind fun s70 =>
((cell r62.2 (List.length h) 3).bind getS).bind fun l71 =>
(run (Et base) 13 [(.agg #[(.int .i64 n68), (.int .i64 n69), (.string s70), (.slice l71.1 l71.2 l71.2)])] r62.2).bind fun r72 =>
((some r72.1).bind (getAgg 4)).bind fun l73 =>
((l73[0]?).bind (getI .i64)).bind fun n74 =>
((l73[1]?).bind (getI .i64)).bind fun n75 =>
((l73[2]?).bind getStr).bind fun s76 =>
((l73[3]?).bind getS).bind fun l77 =>
(gate (sameA r62.2 r72.2 (some ⟨(List.length r31.2), 0, none⟩) 4)
((run (Et base) 16 [(.agg #[(.int .i64 n64), (.int .i64 n65), (.string s66), (.slice l67.1 l67.2 l67.2)]), (.agg #[(.int .i64 n74), (.int .i64 n75), (.string s76), (.slice l77.1 l77.2 l77.2)])] r72.2).bind fun r78 =>
((some r78.1).bind getB).bind fun b79 =>
(if (!b79) = true then
some ((.bool false), r78.2)
else
((cell r78.2 (List.length r31.2) 0).bind (getI .i64)).bind fun n80 =>
((cell r78.2 (List.length r31.2) 1).bind (getI .i64)).bind fun n81 =>
((cell r78.2 (List.length r31.2) 2).bind getStr).bind fun s82 =>
((cell r78.2 (List.length r31.2) 3).bind getS).bind fun l83 =>
(run (Et base) 17 [(.agg #[(.int .i64 n80), (.int .i64 n81), (.string s82), (.slice l83.1 l83.2 l83.2)]), (.int .i64 (1 : Int))] r78.2).bind fun r84 =>
((some r84.1).bind (getI .i64)).bind fun n85 =>
((if (decide (n85 < (0 : Int))) = true then
some (.inl ([some (.int .i64 v0), some (.int .i64 v1), some (.pointer (some ⟨(List.length h), 0, none⟩)), some (.pointer (some ⟨(List.length r18.2), 0, none⟩)), some (.pointer (some ⟨(List.length r43.2), 0, none⟩)), some (.bool true)], r84.2))
else
((cell r84.2 (List.length r43.2) 0).bind (getI .i64)).bind fun n87 =>
((cell r84.2 (List.length r43.2) 1).bind (getI .i64)).bind fun n88 =>
((cell r84.2 (List.length r43.2) 2).bind getS).bind fun l89 =>
((cell r84.2 (List.length r43.2) 3).bind getS).bind fun l90 =>
((cell r84.2 (List.length r43.2) 4).bind getS).bind fun l91 =>
((cell r84.2 (List.length r18.2) 0).bind (getI .i64)).bind fun n92 =>
((cell r84.2 (List.length r18.2) 1).bind (getI .i64)).bind fun n93 =>
((cell r84.2 (List.length r18.2) 2).bind getS).bind fun l94 =>
((cell r84.2 (List.length r18.2) 3).bind getS).bind fun l95 =>
((cell r84.2 (List.length r18.2) 4).bind getS).bind fun l96 =>
(run (Et base) 15 [(.agg #[(.int .i64 n87), (.int .i64 n88), (.slice l89.1 l89.2 l89.2), (.slice l90.1 l90.2 l90.2), (.slice l91.1 l91.2 l91.2)]), (.agg #[(.int .i64 n92), (.int .i64 n93), (.slice l94.1 l94.2 l94.2), (.slice l95.1 l95.2 l95.2), (.slice l96.1 l96.2 l96.2)])] r84.2).bind fun r97 =>
((some r97.1).bind getB).bind fun b98 =>
some (.inl ([some (.int .i64 v0), some (.int .i64 v1), some (.pointer (some ⟨(List.length h), 0, none⟩)), some (.pointer (some ⟨(List.length r18.2), 0, none⟩)), some (.pointer (some ⟨(List.length r43.2), 0, none⟩)), some (.bool (!b98))], r97.2)))).bind fun j86 => joinK j86 fun j86 =>
((sget j86.1 0).bind (getI .i64)).bind fun n99 =>
((sget (j86.1.tail) 0).bind (getI .i64)).bind fun n100 =>
((sget (j86.1.tail.tail) 0).bind getA).bind fun d101 =>
((sget (j86.1.tail.tail.tail) 0).bind getA).bind fun d102 =>
((sget (j86.1.tail.tail.tail.tail) 0).bind getA).bind fun d103 =>
((sget (j86.1.tail.tail.tail.tail.tail) 0).bind getB).bind fun b104 =>
(if b104 = true then
some ((.bool false), j86.2)
else
((cell j86.2 d103.block d103.off).bind (getI .i64)).bind fun n105 =>
((cell j86.2 d103.block (d103.off + 1)).bind (getI .i64)).bind fun n106 =>
((cell j86.2 d103.block ((d103.off + 1) + 1)).bind getS).bind fun l107 =>
((cell j86.2 d103.block (((d103.off + 1) + 1) + 1)).bind getS).bind fun l108 =>
((cell j86.2 d103.block ((((d103.off + 1) + 1) + 1) + 1)).bind getS).bind fun l109 =>
(run (Et base) 18 [(.agg #[(.int .i64 n105), (.int .i64 n106), (.slice l107.1 l107.2 l107.2), (.slice l108.1 l108.2 l108.2), (.slice l109.1 l109.2 l109.2)]), (.int .i64 (1 : Int))] j86.2).bind fun r110 =>
((some r110.1).bind (getI .i64)).bind fun n111 =>
((cell r110.2 d103.block d103.off).bind (getI .i64)).bind fun n112 =>
((cell r110.2 d103.block (d103.off + 1)).bind (getI .i64)).bind fun n113 =>
((cell r110.2 d103.block ((d103.off + 1) + 1)).bind getS).bind fun l114 =>
((cell r110.2 d103.block (((d103.off + 1) + 1) + 1)).bind getS).bind fun l115 =>
((cell r110.2 d103.block ((((d103.off + 1) + 1) + 1) + 1)).bind getS).bind fun l116 =>
(run (Et base) 19 [(.agg #[(.int .i64 n112), (.int .i64 n113), (.slice l114.1 l114.2 l114.2), (.slice l115.1 l115.2 l115.2), (.slice l116.1 l116.2 l116.2)]), (.int .i64 (1 : Int))] r110.2).bind fun r117 =>
((some r117.1).bind (getI .i64)).bind fun n118 =>
(if (decide (n118 < (0 : Int))) = true then
some ((.bool false), r117.2)
else
(if (n118 != n111) = true then
some ((.bool false), r117.2)
else
((cell r117.2 d101.block d101.off).bind (getI .i64)).bind fun n119 =>
((cell r117.2 d101.block (d101.off + 1)).bind (getI .i64)).bind fun n120 =>
((cell r117.2 d101.block ((d101.off + 1) + 1)).bind getStr).bind fun s121 =>
((cell r117.2 d101.block (((d101.off + 1) + 1) + 1)).bind getS).bind fun l122 =>
(run (Et base) 13 [(.agg #[(.int .i64 n119), (.int .i64 n120), (.string s121), (.slice l122.1 l122.2 l122.2)])] r117.2).bind fun r123 =>
((some r123.1).bind (getAgg 4)).bind fun l124 =>
((l124[0]?).bind (getI .i64)).bind fun n125 =>
((l124[1]?).bind (getI .i64)).bind fun n126 =>
((l124[2]?).bind getStr).bind fun s127 =>
((l124[3]?).bind getS).bind fun l128 =>
(run (Et base) 14 [(.int .i64 n99), (.int .i64 n100), (.agg #[(.int .i64 n125), (.int .i64 n126), (.string s127), (.slice l128.1 l128.2 l128.2)])] r123.2).bind fun r129 =>
((some r129.1).bind (getAgg 5)).bind fun l130 =>
((l130[0]?).bind (getI .i64)).bind fun n131 =>
((l130[1]?).bind (getI .i64)).bind fun n132 =>
((l130[2]?).bind getS).bind fun l133 =>
((l130[3]?).bind getS).bind fun l134 =>
((l130[4]?).bind getS).bind fun l135 =>
(some (r129.2 ++ [some ⟨[(.int .i64 0), (.int .i64 0), (.slice none 0 0), (.slice none 0 0), (.slice none 0 0)], 29⟩])).bind fun h136 =>
(wr base h136 (List.length r129.2) 0 [(.int .i64 n131), (.int .i64 n132), (.slice l133.1 l133.2 l133.2), (.slice l134.1 l134.2 l134.2), (.slice l135.1 l135.2 l135.2)]).bind fun h137 =>
((cell h137 (List.length r129.2) 0).bind (getI .i64)).bind fun n138 =>
((cell h137 (List.length r129.2) 1).bind (getI .i64)).bind fun n139 =>
((cell h137 (List.length r129.2) 2).bind getS).bind fun l140 =>
((cell h137 (List.length r129.2) 3).bind getS).bind fun l141 =>
((cell h137 (List.length r129.2) 4).bind getS).bind fun l142 =>
((cell h137 d102.block d102.off).bind (getI .i64)).bind fun n143 =>
((cell h137 d102.block (d102.off + 1)).bind (getI .i64)).bind fun n144 =>
((cell h137 d102.block ((d102.off + 1) + 1)).bind getS).bind fun l145 =>
((cell h137 d102.block (((d102.off + 1) + 1) + 1)).bind getS).bind fun l146 =>
((cell h137 d102.block ((((d102.off + 1) + 1) + 1) + 1)).bind getS).bind fun l147 =>
(run (Et base) 15 [(.agg #[(.int .i64 n138), (.int .i64 n139), (.slice l140.1 l140.2 l140.2), (.slice l141.1 l141.2 l141.2), (.slice l142.1 l142.2 l142.2)]), (.agg #[(.int .i64 n143), (.int .i64 n144), (.slice l145.1 l145.2 l145.2), (.slice l146.1 l146.2 l146.2), (.slice l147.1 l147.2 l147.2)])] h137).bind fun r148 =>
((some r148.1).bind getB).bind fun b149 =>
(if (!b149) = true then
some ((.bool false), r148.2)
else
((cell r148.2 d103.block d103.off).bind (getI .i64)).bind fun n150 =>
((cell r148.2 d103.block (d103.off + 1)).bind (getI .i64)).bind fun n151 =>
((cell r148.2 d103.block ((d103.off + 1) + 1)).bind getS).bind fun l152 =>
((cell r148.2 d103.block (((d103.off + 1) + 1) + 1)).bind getS).bind fun l153 =>
((cell r148.2 d103.block ((((d103.off + 1) + 1) + 1) + 1)).bind getS).bind fun l154 =>
(run (Et base) 19 [(.agg #[(.int .i64 n150), (.int .i64 n151), (.slice l152.1 l152.2 l152.2), (.slice l153.1 l153.2 l153.2), (.slice l154.1 l154.2 l154.2)]), (.int .i64 (1 : Int))] r148.2).bind fun r155 =>
((some r155.1).bind (getI .i64)).bind fun n156 =>
(if (decide (n156 < (0 : Int))) = true then
some ((.bool false), r155.2)
else
(if (n156 != n111) = true then
some ((.bool false), r155.2)
else
some ((.bool true), r155.2)))))))))))) : Option (Value × AH)) := by kernel_rfl
theorem r3 {base : Nat} {v0 : Int} {v1 : Int} {v2_0 : Int} {v2_1 : Int} {v2_2 : ByteArray} {v2_3 : Option Addr} {v2_3n : Nat} {h : AH} {r : Value × AH} (hx :
((some (h ++ [some ⟨[(.int .i64 v2_0), (.int .i64 v2_1), (.string v2_2), (.slice v2_3 v2_3n v2_3n)], 24⟩])).bind fun h1 =>
((cell h1 (List.length h) 0).bind (getI .i64)).bind fun n2 =>
((cell h1 (List.length h) 1).bind (getI .i64)).bind fun n3 =>
((cell h1 (List.length h) 2).bind getStr).bind fun s4 =>
((cell h1 (List.length h) 3).bind getS).bind fun l5 =>
(run (Et base) 11 [(.agg #[(.int .i64 n2), (.int .i64 n3), (.string s4), (.slice l5.1 l5.2 l5.2)]), (.int .i64 (1048576 : Int))] h1).bind fun r6 =>
((some r6.1).bind (getI .i64)).bind fun n7 =>
(if (decide (n7 < (0 : Int))) = true then
some ((.bool true), r6.2)
else
((cell r6.2 (List.length h) 0).bind (getI .i64)).bind fun n8 =>
((cell r6.2 (List.length h) 1).bind (getI .i64)).bind fun n9 =>
((cell r6.2 (List.length h) 2).bind getStr).bind fun s10 =>
((cell r6.2 (List.length h) 3).bind getS).bind fun l11 =>
(run (Et base) 13 [(.agg #[(.int .i64 n8), (.int .i64 n9), (.string s10), (.slice l11.1 l11.2 l11.2)])] r6.2).bind fun r12 =>
((some r12.1).bind (getAgg 4)).bind fun l13 =>
((l13[0]?).bind (getI .i64)).bind fun n14 =>
((l13[1]?).bind (getI .i64)).bind fun n15 =>
((l13[2]?).bind getStr).bind fun s16 =>
((l13[3]?).bind getS).bind fun l17 =>
(run (Et base) 12 [(.int .i64 v0), (.int .i64 v1), (.agg #[(.int .i64 n14), (.int .i64 n15), (.string s16), (.slice l17.1 l17.2 l17.2)])] r12.2).bind fun r18 =>
((some r18.1).bind (getAgg 5)).bind fun l19 =>
((l19[0]?).bind (getI .i64)).bind fun n20 =>
((l19[1]?).bind (getI .i64)).bind fun n21 =>
((l19[2]?).bind getS).bind fun l22 =>
((l19[3]?).bind getS).bind fun l23 =>
((l19[4]?).bind getS).bind fun l24 =>
(some (r18.2 ++ [some ⟨[(.int .i64 0), (.int .i64 0), (.slice none 0 0), (.slice none 0 0), (.slice none 0 0)], 29⟩])).bind fun h25 =>
(wr base h25 (List.length r18.2) 0 [(.int .i64 n20), (.int .i64 n21), (.slice l22.1 l22.2 l22.2), (.slice l23.1 l23.2 l23.2), (.slice l24.1 l24.2 l24.2)]).bind fun h26 =>
((cell h26 (List.length h) 0).bind (getI .i64)).bind fun n27 =>
((cell h26 (List.length h) 1).bind (getI .i64)).bind fun n28 =>
((cell h26 (List.length h) 2).bind getStr).bind fun s29 =>
((cell h26 (List.length h) 3).bind getS).bind fun l30 =>
(run (Et base) 13 [(.agg #[(.int .i64 n27), (.int .i64 n28), (.string s29), (.slice l30.1 l30.2 l30.2)])] h26).bind fun r31 =>
((some r31.1).bind (getAgg 4)).bind fun l32 =>
((l32[0]?).bind (getI .i64)).bind fun n33 =>
((l32[1]?).bind (getI .i64)).bind fun n34 =>
((l32[2]?).bind getStr).bind fun s35 =>
((l32[3]?).bind getS).bind fun l36 =>
(some (r31.2 ++ [some ⟨[(.int .i64 0), (.int .i64 0), (.string ⟨#[]⟩), (.slice none 0 0)], 32⟩])).bind fun h37 =>
(wr base h37 (List.length r31.2) 0 [(.int .i64 n33), (.int .i64 n34), (.string s35), (.slice l36.1 l36.2 l36.2)]).bind fun h38 =>
((cell h38 (List.length r31.2) 0).bind (getI .i64)).bind fun n39 =>
((cell h38 (List.length r31.2) 1).bind (getI .i64)).bind fun n40 =>
((cell h38 (List.length r31.2) 2).bind getStr).bind fun s41 =>
((cell h38 (List.length r31.2) 3).bind getS).bind fun l42 =>
(run (Et base) 14 [(.int .i64 v0), (.int .i64 v1), (.agg #[(.int .i64 n39), (.int .i64 n40), (.string s41), (.slice l42.1 l42.2 l42.2)])] h38).bind fun r43 =>
((some r43.1).bind (getAgg 5)).bind fun l44 =>
((l44[0]?).bind (getI .i64)).bind fun n45 =>
((l44[1]?).bind (getI .i64)).bind fun n46 =>
((l44[2]?).bind getS).bind fun l47 =>
((l44[3]?).bind getS).bind fun l48 =>
((l44[4]?).bind getS).bind fun l49 =>
(some (r43.2 ++ [some ⟨[(.int .i64 0), (.int .i64 0), (.slice none 0 0), (.slice none 0 0), (.slice none 0 0)], 29⟩])).bind fun h50 =>
(wr base h50 (List.length r43.2) 0 [(.int .i64 n45), (.int .i64 n46), (.slice l47.1 l47.2 l47.2), (.slice l48.1 l48.2 l48.2), (.slice l49.1 l49.2 l49.2)]).bind fun h51 =>
((cell h51 (List.length r43.2) 0).bind (getI .i64)).bind fun n52 =>
((cell h51 (List.length r43.2) 1).bind (getI .i64)).bind fun n53 =>
((cell h51 (List.length r43.2) 2).bind getS).bind fun l54 =>
((cell h51 (List.length r43.2) 3).bind getS).bind fun l55 =>
((cell h51 (List.length r43.2) 4).bind getS).bind fun l56 =>
((cell h51 (List.length r18.2) 0).bind (getI .i64)).bind fun n57 =>
((cell h51 (List.length r18.2) 1).bind (getI .i64)).bind fun n58 =>
((cell h51 (List.length r18.2) 2).bind getS).bind fun l59 =>
((cell h51 (List.length r18.2) 3).bind getS).bind fun l60 =>
((cell h51 (List.length r18.2) 4).bind getS).bind fun l61 =>
(run (Et base) 15 [(.agg #[(.int .i64 n52), (.int .i64 n53), (.slice l54.1 l54.2 l54.2), (.slice l55.1 l55.2 l55.2), (.slice l56.1 l56.2 l56.2)]), (.agg #[(.int .i64 n57), (.int .i64 n58), (.slice l59.1 l59.2 l59.2), (.slice l60.1 l60.2 l60.2), (.slice l61.1 l61.2 l61.2)])] h51).bind fun r62 =>
((some r62.1).bind getB).bind fun b63 =>
(if (!b63) = true then
some ((.bool false), r62.2)
else
((cell r62.2 (List.length r31.2) 0).bind (getI .i64)).bind fun n64 =>
((cell r62.2 (List.length r31.2) 1).bind (getI .i64)).bind fun n65 =>
((cell r62.2 (List.length r31.2) 2).bind getStr).bind fun s66 =>
((cell r62.2 (List.length r31.2) 3).bind getS).bind fun l67 =>
((cell r62.2 (List.length h) 0).bind (getI .i64)).bind fun n68 =>
((cell r62.2 (List.length h) 1).bind (getI .i64)).bind fun n69 =>
((cell r62.2 (List.length h) 2).bind getStr).bind fun s70 =>
((cell r62.2 (List.length h) 3).bind getS).bind fun l71 =>
(run (Et base) 13 [(.agg #[(.int .i64 n68), (.int .i64 n69), (.string s70), (.slice l71.1 l71.2 l71.2)])] r62.2).bind fun r72 =>
((some r72.1).bind (getAgg 4)).bind fun l73 =>
((l73[0]?).bind (getI .i64)).bind fun n74 =>
((l73[1]?).bind (getI .i64)).bind fun n75 =>
((l73[2]?).bind getStr).bind fun s76 =>
((l73[3]?).bind getS).bind fun l77 =>
(gate (sameA r62.2 r72.2 (some ⟨(List.length r31.2), 0, none⟩) 4)
((run (Et base) 16 [(.agg #[(.int .i64 n64), (.int .i64 n65), (.string s66), (.slice l67.1 l67.2 l67.2)]), (.agg #[(.int .i64 n74), (.int .i64 n75), (.string s76), (.slice l77.1 l77.2 l77.2)])] r72.2).bind fun r78 =>
((some r78.1).bind getB).bind fun b79 =>
(if (!b79) = true then
some ((.bool false), r78.2)
else
((cell r78.2 (List.length r31.2) 0).bind (getI .i64)).bind fun n80 =>
((cell r78.2 (List.length r31.2) 1).bind (getI .i64)).bind fun n81 =>
((cell r78.2 (List.length r31.2) 2).bind getStr).bind fun s82 =>
((cell r78.2 (List.length r31.2) 3).bind getS).bind fun l83 =>
(run (Et base) 17 [(.agg #[(.int .i64 n80), (.int .i64 n81), (.string s82), (.slice l83.1 l83.2 l83.2)]), (.int .i64 (1 : Int))] r78.2).bind fun r84 =>
((some r84.1).bind (getI .i64)).bind fun n85 =>
((if (decide (n85 < (0 : Int))) = true then
some (.inl ([some (.int .i64 v0), some (.int .i64 v1), some (.pointer (some ⟨(List.length h), 0, none⟩)), some (.pointer (some ⟨(List.length r18.2), 0, none⟩)), some (.pointer (some ⟨(List.length r43.2), 0, none⟩)), some (.bool true)], r84.2))
else
((cell r84.2 (List.length r43.2) 0).bind (getI .i64)).bind fun n87 =>
((cell r84.2 (List.length r43.2) 1).bind (getI .i64)).bind fun n88 =>
((cell r84.2 (List.length r43.2) 2).bind getS).bind fun l89 =>
((cell r84.2 (List.length r43.2) 3).bind getS).bind fun l90 =>
((cell r84.2 (List.length r43.2) 4).bind getS).bind fun l91 =>
((cell r84.2 (List.length r18.2) 0).bind (getI .i64)).bind fun n92 =>
((cell r84.2 (List.length r18.2) 1).bind (getI .i64)).bind fun n93 =>
((cell r84.2 (List.length r18.2) 2).bind getS).bind fun l94 =>
((cell r84.2 (List.length r18.2) 3).bind getS).bind fun l95 =>
((cell r84.2 (List.length r18.2) 4).bind getS).bind fun l96 =>
(run (Et base) 15 [(.agg #[(.int .i64 n87), (.int .i64 n88), (.slice l89.1 l89.2 l89.2), (.slice l90.1 l90.2 l90.2), (.slice l91.1 l91.2 l91.2)]), (.agg #[(.int .i64 n92), (.int .i64 n93), (.slice l94.1 l94.2 l94.2), (.slice l95.1 l95.2 l95.2), (.slice l96.1 l96.2 l96.2)])] r84.2).bind fun r97 =>
((some r97.1).bind getB).bind fun b98 =>
some (.inl ([some (.int .i64 v0), some (.int .i64 v1), some (.pointer (some ⟨(List.length h), 0, none⟩)), some (.pointer (some ⟨(List.length r18.2), 0, none⟩)), some (.pointer (some ⟨(List.length r43.2), 0, none⟩)), some (.bool (!b98))], r97.2)))).bind fun j86 => joinK j86 fun j86 =>
((sget j86.1 0).bind (getI .i64)).bind fun n99 =>
((sget (j86.1.tail) 0).bind (getI .i64)).bind fun n100 =>
((sget (j86.1.tail.tail) 0).bind getA).bind fun d101 =>
((sget (j86.1.tail.tail.tail) 0).bind getA).bind fun d102 =>
((sget (j86.1.tail.tail.tail.tail) 0).bind getA).bind fun d103 =>
((sget (j86.1.tail.tail.tail.tail.tail) 0).bind getB).bind fun b104 =>
(if b104 = true then
some ((.bool false), j86.2)
else
((cell j86.2 d103.block d103.off).bind (getI .i64)).bind fun n105 =>
((cell j86.2 d103.block (d103.off + 1)).bind (getI .i64)).bind fun n106 =>
((cell j86.2 d103.block ((d103.off + 1) + 1)).bind getS).bind fun l107 =>
((cell j86.2 d103.block (((d103.off + 1) + 1) + 1)).bind getS).bind fun l108 =>
((cell j86.2 d103.block ((((d103.off + 1) + 1) + 1) + 1)).bind getS).bind fun l109 =>
(run (Et base) 18 [(.agg #[(.int .i64 n105), (.int .i64 n106), (.slice l107.1 l107.2 l107.2), (.slice l108.1 l108.2 l108.2), (.slice l109.1 l109.2 l109.2)]), (.int .i64 (1 : Int))] j86.2).bind fun r110 =>
((some r110.1).bind (getI .i64)).bind fun n111 =>
((cell r110.2 d103.block d103.off).bind (getI .i64)).bind fun n112 =>
((cell r110.2 d103.block (d103.off + 1)).bind (getI .i64)).bind fun n113 =>
((cell r110.2 d103.block ((d103.off + 1) + 1)).bind getS).bind fun l114 =>
((cell r110.2 d103.block (((d103.off + 1) + 1) + 1)).bind getS).bind fun l115 =>
((cell r110.2 d103.block ((((d103.off + 1) + 1) + 1) + 1)).bind getS).bind fun l116 =>
(run (Et base) 19 [(.agg #[(.int .i64 n112), (.int .i64 n113), (.slice l114.1 l114.2 l114.2), (.slice l115.1 l115.2 l115.2), (.slice l116.1 l116.2 l116.2)]), (.int .i64 (1 : Int))] r110.2).bind fun r117 =>
((some r117.1).bind (getI .i64)).bind fun n118 =>
(if (decide (n118 < (0 : Int))) = true then
some ((.bool false), r117.2)
else
(if (n118 != n111) = true then
some ((.bool false), r117.2)
else
((cell r117.2 d101.block d101.off).bind (getI .i64)).bind fun n119 =>
((cell r117.2 d101.block (d101.off + 1)).bind (getI .i64)).bind fun n120 =>
((cell r117.2 d101.block ((d101.off + 1) + 1)).bind getStr).bind fun s121 =>
((cell r117.2 d101.block (((d101.off + 1) + 1) + 1)).bind getS).bind fun l122 =>
(run (Et base) 13 [(.agg #[(.int .i64 n119), (.int .i64 n120), (.string s121), (.slice l122.1 l122.2 l122.2)])] r117.2).bind fun r123 =>
((some r123.1).bind (getAgg 4)).bind fun l124 =>
((l124[0]?).bind (getI .i64)).bind fun n125 =>
((l124[1]?).bind (getI .i64)).bind fun n126 =>
((l124[2]?).bind getStr).bind fun s127 =>
((l124[3]?).bind getS).bind fun l128 =>
(run (Et base) 14 [(.int .i64 n99), (.int .i64 n100), (.agg #[(.int .i64 n125), (.int .i64 n126), (.string s127), (.slice l128.1 l128.2 l128.2)])] r123.2).bind fun r129 =>
((some r129.1).bind (getAgg 5)).bind fun l130 =>
((l130[0]?).bind (getI .i64)).bind fun n131 =>
((l130[1]?).bind (getI .i64)).bind fun n132 =>
((l130[2]?).bind getS).bind fun l133 =>
((l130[3]?).bind getS).bind fun l134 =>
((l130[4]?).bind getS).bind fun l135 =>
(some (r129.2 ++ [some ⟨[(.int .i64 0), (.int .i64 0), (.slice none 0 0), (.slice none 0 0), (.slice none 0 0)], 29⟩])).bind fun h136 =>
(wr base h136 (List.length r129.2) 0 [(.int .i64 n131), (.int .i64 n132), (.slice l133.1 l133.2 l133.2), (.slice l134.1 l134.2 l134.2), (.slice l135.1 l135.2 l135.2)]).bind fun h137 =>
((cell h137 (List.length r129.2) 0).bind (getI .i64)).bind fun n138 =>
((cell h137 (List.length r129.2) 1).bind (getI .i64)).bind fun n139 =>
((cell h137 (List.length r129.2) 2).bind getS).bind fun l140 =>
((cell h137 (List.length r129.2) 3).bind getS).bind fun l141 =>
((cell h137 (List.length r129.2) 4).bind getS).bind fun l142 =>
((cell h137 d102.block d102.off).bind (getI .i64)).bind fun n143 =>
((cell h137 d102.block (d102.off + 1)).bind (getI .i64)).bind fun n144 =>
((cell h137 d102.block ((d102.off + 1) + 1)).bind getS).bind fun l145 =>
((cell h137 d102.block (((d102.off + 1) + 1) + 1)).bind getS).bind fun l146 =>
((cell h137 d102.block ((((d102.off + 1) + 1) + 1) + 1)).bind getS).bind fun l147 =>
(run (Et base) 15 [(.agg #[(.int .i64 n138), (.int .i64 n139), (.slice l140.1 l140.2 l140.2), (.slice l141.1 l141.2 l141.2), (.slice l142.1 l142.2 l142.2)]), (.agg #[(.int .i64 n143), (.int .i64 n144), (.slice l145.1 l145.2 l145.2), (.slice l146.1 l146.2 l146.2), (.slice l147.1 l147.2 l147.2)])] h137).bind fun r148 =>
((some r148.1).bind getB).bind fun b149 =>
(if (!b149) = true then
some ((.bool false), r148.2)
else
((cell r148.2 d103.block d103.off).bind (getI .i64)).bind fun n150 =>
((cell r148.2 d103.block (d103.off + 1)).bind (getI .i64)).bind fun n151 =>
((cell r148.2 d103.block ((d103.off + 1) + 1)).bind getS).bind fun l152 =>
((cell r148.2 d103.block (((d103.off + 1) + 1) + 1)).bind getS).bind fun l153 =>
((cell r148.2 d103.block ((((d103.off + 1) + 1) + 1) + 1)).bind getS).bind fun l154 =>
(run (Et base) 19 [(.agg #[(.int .i64 n150), (.int .i64 n151), (.slice l152.1 l152.2 l152.2), (.slice l153.1 l153.2 l153.2), (.slice l154.1 l154.2 l154.2)]), (.int .i64 (1 : Int))] r148.2).bind fun r155 =>
((some r155.1).bind (getI .i64)).bind fun n156 =>
(if (decide (n156 < (0 : Int))) = true then
some ((.bool false), r155.2)
else
(if (n156 != n111) = true then
some ((.bool false), r155.2)
else
some ((.bool true), r155.2))))))))))))) = some r) : run (Et base) 3 [(.int .i64 v0), (.int .i64 v1), (.agg #[(.int .i64 v2_0), (.int .i64 v2_1), (.string v2_2), (.slice v2_3 v2_3n v2_3n)])] h = some r := run_i Try.func3 (by kernel_rfl) ((f3_eq base v0 v1 v2_0 v2_1 v2_2 v2_3 v2_3n h).trans hx)
end Go.Proofs.Ytnmjhhipbfngkaa.Am
