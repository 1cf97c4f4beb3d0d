/- What each of these functions comes to on the abstract machine, one equation a function and one a loop.
Conditions: none. -/
import Derived.Test.YtnmjhhipbfngkaaTb
set_option linter.unusedVariables false
set_option maxRecDepth 100000
namespace Go.Proofs.Ytnmjhhipbfngkaa.Am
open Go Go.RowKit
/-! laws.eqSaidS (gates 0) -/
noncomputable def B105_0 (base : Nat) : Body := fun l h => lay s105_0 l fun s => exCode (Et base) (run (Et base)) loopL a105_0 (subC [1, 1, 0, 1, 0, 0] (bodyC Try.f105)) s h (keepK s105_0 e105_0)
theorem B105_0_eq (base : Nat) (v0 : Option Addr) (v0n : Nat) (v1 : Option Addr) (v1n : Nat) (v5 : Int) (h : AH) : B105_0 base [some (.slice v0 v0n v0n), some (.slice v1 v1n v1n), some (.int .i64 v5)] h =
((if (decide (v5 < ((v0n : Nat) : Int))) = true then
(if 0 ≤ v5 ∧ v5 < ((v0n : Nat) : Int) then
((v0 : Option Addr)).bind fun a1 =>
((cell h a1.block (a1.off + Int.toNat v5 * 6)).bind (getI .i64)).bind fun n2 =>
((cell h a1.block ((a1.off + Int.toNat v5 * 6) + 1)).bind (getI .i64)).bind fun n3 =>
((cell h a1.block (((a1.off + Int.toNat v5 * 6) + 1) + 1)).bind (getI .i64)).bind fun n4 =>
((cell h a1.block ((((a1.off + Int.toNat v5 * 6) + 1) + 1) + 1)).bind (getI .i64)).bind fun n5 =>
((cell h a1.block (((((a1.off + Int.toNat v5 * 6) + 1) + 1) + 1) + 1)).bind getStr).bind fun s6 =>
((cell h a1.block ((((((a1.off + Int.toNat v5 * 6) + 1) + 1) + 1) + 1) + 1)).bind getS).bind fun l7 =>
(if 0 ≤ v5 ∧ v5 < ((v1n : Nat) : Int) then
((v1 : Option Addr)).bind fun a8 =>
((cell h a8.block (a8.off + Int.toNat v5 * 6)).bind (getI .i64)).bind fun n9 =>
((cell h a8.block ((a8.off + Int.toNat v5 * 6) + 1)).bind (getI .i64)).bind fun n10 =>
((cell h a8.block (((a8.off + Int.toNat v5 * 6) + 1) + 1)).bind (getI .i64)).bind fun n11 =>
((cell h a8.block ((((a8.off + Int.toNat v5 * 6) + 1) + 1) + 1)).bind (getI .i64)).bind fun n12 =>
((cell h a8.block (((((a8.off + Int.toNat v5 * 6) + 1) + 1) + 1) + 1)).bind getStr).bind fun s13 =>
((cell h a8.block ((((((a8.off + Int.toNat v5 * 6) + 1) + 1) + 1) + 1) + 1)).bind getS).bind fun l14 =>
(run (Et base) 132 [(.agg #[(.int .i64 n2), (.int .i64 n3), (.int .i64 n4), (.int .i64 n5), (.string s6), (.slice l7.1 l7.2 l7.2)]), (.agg #[(.int .i64 n9), (.int .i64 n10), (.int .i64 n11), (.int .i64 n12), (.string s13), (.slice l14.1 l14.2 l14.2)])] h).bind fun r15 =>
((some r15.1).bind getB).bind fun b16 =>
(if (!b16) = true then
some (1, [some (.bool false)], r15.2)
else
some (0, [some (.slice v0 v0n v0n), some (.slice v1 v1n v1n), some (.int .i64 (IntKind.wrap .i64 (v5 + (1 : Int))))], r15.2))
else none)
else none)
else
some (2, [], h)) : Option (Nat × Slots × AH)) := by kernel_rfl
theorem f105_eq (base : Nat) (v0 : Option Addr) (v0n : Nat) (v1 : Option Addr) (v1n : Nat) (h : AH) : exFun (Et base) (run (Et base)) loopL a105 Try.f105 [(.slice v0 v0n v0n), (.slice v1 v1n v1n)] h =
((if (((v0n : Nat) : Int) != ((v1n : Nat) : Int)) = true then
some ((.bool false), h)
else
(loopL (B105_0 base) [some (.slice v0 v0n v0n), some (.slice v1 v1n v1n), some (.int .i64 (0 : Int))] h).bind fun q1 =>
(if q1.1 = 1 then
((sget q1.2.1 0).bind getB).bind fun b2 =>
some ((.bool b2), q1.2.2)
else
(if q1.1 = 2 then
some ((.bool true), q1.2.2)
else
none))) : Option (Value × AH)) := by kernel_rfl
theorem r105 {base : Nat} {v0 : Option Addr} {v0n : Nat} {v1 : Option Addr} {v1n : Nat} {h : AH} {r : Value × AH} (hx :
((if (((v0n : Nat) : Int) != ((v1n : Nat) : Int)) = true then
some ((.bool false), h)
else
(loopL (B105_0 base) [some (.slice v0 v0n v0n), some (.slice v1 v1n v1n), some (.int .i64 (0 : Int))] h).bind fun q1 =>
(if q1.1 = 1 then
((sget q1.2.1 0).bind getB).bind fun b2 =>
some ((.bool b2), q1.2.2)
else
(if q1.1 = 2 then
some ((.bool true), q1.2.2)
else
none)))) = some r) : run (Et base) 105 [(.slice v0 v0n v0n), (.slice v1 v1n v1n)] h = some r := run_i Try.func105 (by kernel_rfl) ((f105_eq base v0 v0n v1 v1n h).trans hx)
/-! spec.l1Look (gates 0) -/
noncomputable def B117_0 (base : Nat) : Body := fun l h => lay s117_0 l fun s => exCode (Et base) (run (Et base)) loopL a117_0 (subC [1, 1, 1, 0, 1, 0, 0] (bodyC Try.f117)) s h (keepK s117_0 e117_0)
theorem B117_0_eq (base : Nat) (v1 : Int) (v2 : Int) (v3 : Addr) (v7 : Int) (h : AH) : B117_0 base [some (.int .i64 v1), some (.int .i64 v2), some (.pointer (some v3)), some (.int .i64 v7)] h =
((((cell h v3.block (v3.off + 3)).bind getS).bind fun l2 =>
(if (decide (v7 < ((l2.2 : Nat) : Int))) = true then
some (.inl ([some (.int .i64 v1), some (.int .i64 v2), some (.pointer (some v3)), some (.int .i64 v7), some (.bool (decide (v2 ≥ (0 : Int))))], h))
else
some (.inl ([some (.int .i64 v1), some (.int .i64 v2), some (.pointer (some v3)), some (.int .i64 v7), some (.bool false)], h)))).bind fun j1 => joinK j1 fun j1 =>
((sget j1.1 0).bind (getI .i64)).bind fun n3 =>
((sget (j1.1.tail) 0).bind (getI .i64)).bind fun n4 =>
((sget (j1.1.tail.tail) 0).bind getA).bind fun d5 =>
((sget (j1.1.tail.tail.tail) 0).bind (getI .i64)).bind fun n6 =>
((sget (j1.1.tail.tail.tail.tail) 0).bind getB).bind fun b7 =>
(if b7 = true then
((cell j1.2 d5.block (d5.off + 3)).bind getS).bind fun l8 =>
(if 0 ≤ n6 ∧ n6 < ((l8.2 : Nat) : Int) then
((l8.1 : Option Addr)).bind fun a9 =>
((cell j1.2 a9.block (a9.off + Int.toNat n6 * 4)).bind (getI .i64)).bind fun n10 =>
((cell j1.2 a9.block ((a9.off + Int.toNat n6 * 4) + 1)).bind (getI .i64)).bind fun n11 =>
((cell j1.2 a9.block (((a9.off + Int.toNat n6 * 4) + 1) + 1)).bind getStr).bind fun s12 =>
((cell j1.2 a9.block ((((a9.off + Int.toNat n6 * 4) + 1) + 1) + 1)).bind getS).bind fun l13 =>
(run (Et base) 117 [(.agg #[(.int .i64 n10), (.int .i64 n11), (.string s12), (.slice l13.1 l13.2 l13.2)]), (.int .i64 (IntKind.wrap .i64 (n3 - (1 : Int)))), (.int .i64 n4)] j1.2).bind fun r14 =>
((some r14.1).bind (getI .i64)).bind fun n15 =>
some (0, [some (.int .i64 n3), some (.int .i64 n15), some (.pointer (some d5)), some (.int .i64 (IntKind.wrap .i64 (n6 + (1 : Int))))], r14.2)
else none)
else
some (2, [some (.int .i64 n4)], j1.2)) : Option (Nat × Slots × AH)) := by kernel_rfl
theorem f117_eq (base : Nat) (v0_0 : Int) (v0_1 : Int) (v0_2 : ByteArray) (v0_3 : Option Addr) (v0_3n : Nat) (v1 : Int) (v2 : Int) (h : AH) : exFun (Et base) (run (Et base)) loopL a117 Try.f117 [(.agg #[(.int .i64 v0_0), (.int .i64 v0_1), (.string v0_2), (.slice v0_3 v0_3n v0_3n)]), (.int .i64 v1), (.int .i64 v2)] h =
((some (h ++ [some ⟨[(.int .i64 v0_0), (.int .i64 v0_1), (.string v0_2), (.slice v0_3 v0_3n v0_3n)], 32⟩])).bind fun h1 =>
((if (decide (v1 < (1 : Int))) = true then
some (.inl ([some (.int .i64 v1), some (.int .i64 v2), some (.pointer (some ⟨(List.length h), 0, none⟩)), some (.bool true)], h1))
else
(if (decide (v2 < (1 : Int))) = true then
some (.inl ([some (.int .i64 v1), some (.int .i64 v2), some (.pointer (some ⟨(List.length h), 0, none⟩)), some (.bool true)], h1))
else
((cell h1 (List.length h) 0).bind (getI .i64)).bind fun n3 =>
((cell h1 (List.length h) 1).bind (getI .i64)).bind fun n4 =>
((cell h1 (List.length h) 2).bind getStr).bind fun s5 =>
((cell h1 (List.length h) 3).bind getS).bind fun l6 =>
(run (Et base) 139 [(.agg #[(.int .i64 n3), (.int .i64 n4), (.string s5), (.slice l6.1 l6.2 l6.2)])] h1).bind fun r7 =>
((some r7.1).bind getB).bind fun b8 =>
some (.inl ([some (.int .i64 v1), some (.int .i64 v2), some (.pointer (some ⟨(List.length h), 0, none⟩)), some (.bool (!b8))], r7.2))))).bind fun j2 => joinK j2 fun j2 =>
((sget j2.1 0).bind (getI .i64)).bind fun n9 =>
((sget (j2.1.tail) 0).bind (getI .i64)).bind fun n10 =>
((sget (j2.1.tail.tail) 0).bind getA).bind fun d11 =>
((sget (j2.1.tail.tail.tail) 0).bind getB).bind fun b12 =>
(if b12 = true then
some ((.int .i64 (-1 : Int)), j2.2)
else
(loopL (B117_0 base) [some (.int .i64 n9), some (.int .i64 (IntKind.wrap .i64 (n10 - (1 : Int)))), some (.pointer (some d11)), some (.int .i64 (0 : Int))] j2.2).bind fun q13 =>
(if q13.1 = 2 then
((sget q13.2.1 0).bind (getI .i64)).bind fun n14 =>
some ((.int .i64 n14), q13.2.2)
else
none)) : Option (Value × AH)) := by kernel_rfl
theorem r117 {base : Nat} {v0_0 : Int} {v0_1 : Int} {v0_2 : ByteArray} {v0_3 : Option Addr} {v0_3n : Nat} {v1 : Int} {v2 : Int} {h : AH} {r : Value × AH} (hx :
((some (h ++ [some ⟨[(.int .i64 v0_0), (.int .i64 v0_1), (.string v0_2), (.slice v0_3 v0_3n v0_3n)], 32⟩])).bind fun h1 =>
((if (decide (v1 < (1 : Int))) = true then
some (.inl ([some (.int .i64 v1), some (.int .i64 v2), some (.pointer (some ⟨(List.length h), 0, none⟩)), some (.bool true)], h1))
else
(if (decide (v2 < (1 : Int))) = true then
some (.inl ([some (.int .i64 v1), some (.int .i64 v2), some (.pointer (some ⟨(List.length h), 0, none⟩)), some (.bool true)], h1))
else
((cell h1 (List.length h) 0).bind (getI .i64)).bind fun n3 =>
((cell h1 (List.length h) 1).bind (getI .i64)).bind fun n4 =>
((cell h1 (List.length h) 2).bind getStr).bind fun s5 =>
((cell h1 (List.length h) 3).bind getS).bind fun l6 =>
(run (Et base) 139 [(.agg #[(.int .i64 n3), (.int .i64 n4), (.string s5), (.slice l6.1 l6.2 l6.2)])] h1).bind fun r7 =>
((some r7.1).bind getB).bind fun b8 =>
some (.inl ([some (.int .i64 v1), some (.int .i64 v2), some (.pointer (some ⟨(List.length h), 0, none⟩)), some (.bool (!b8))], r7.2))))).bind fun j2 => joinK j2 fun j2 =>
((sget j2.1 0).bind (getI .i64)).bind fun n9 =>
((sget (j2.1.tail) 0).bind (getI .i64)).bind fun n10 =>
((sget (j2.1.tail.tail) 0).bind getA).bind fun d11 =>
((sget (j2.1.tail.tail.tail) 0).bind getB).bind fun b12 =>
(if b12 = true then
some ((.int .i64 (-1 : Int)), j2.2)
else
(loopL (B117_0 base) [some (.int .i64 n9), some (.int .i64 (IntKind.wrap .i64 (n10 - (1 : Int)))), some (.pointer (some d11)), some (.int .i64 (0 : Int))] j2.2).bind fun q13 =>
(if q13.1 = 2 then
((sget q13.2.1 0).bind (getI .i64)).bind fun n14 =>
some ((.int .i64 n14), q13.2.2)
else
none))) = some r) : run (Et base) 117 [(.agg #[(.int .i64 v0_0), (.int .i64 v0_1), (.string v0_2), (.slice v0_3 v0_3n v0_3n)]), (.int .i64 v1), (.int .i64 v2)] h = some r := run_i Try.func117 (by kernel_rfl) ((f117_eq base v0_0 v0_1 v0_2 v0_3 v0_3n v1 v2 h).trans hx)
/-! impl.counted (gates 0) -/
noncomputable def B118_0 (base : Nat) : Body := fun l h => lay s118_0 l fun s => exCode (Et base) (run (Et base)) loopL a118_0 (subC [1, 1, 1, 0, 1, 0, 0] (bodyC Try.f118)) s h (keepK s118_0 e118_0)
theorem B118_0_eq (base : Nat) (v1 : Int) (v2 : Int) (v27 : Option Addr) (v27n : Nat) (v28 : Int) (v29 : Int) (h : AH) : B118_0 base [some (.int .i64 v1), some (.int .i64 v2), some (.slice v27 v27n v27n), some (.int .i64 v28), some (.int .i64 v29)] h =
((if (decide (v29 < v28)) = true then
(if 0 ≤ v29 ∧ v29 < ((v27n : Nat) : Int) then
((v27 : Option Addr)).bind fun a1 =>
((cell h a1.block (a1.off + Int.toNat v29 * 4)).bind (getI .i64)).bind fun n2 =>
((cell h a1.block ((a1.off + Int.toNat v29 * 4) + 1)).bind (getI .i64)).bind fun n3 =>
((cell h a1.block (((a1.off + Int.toNat v29 * 4) + 1) + 1)).bind getStr).bind fun s4 =>
((cell h a1.block ((((a1.off + Int.toNat v29 * 4) + 1) + 1) + 1)).bind getS).bind fun l5 =>
(some (h ++ [some ⟨[(.int .i64 0), (.int .i64 0), (.string ⟨#[]⟩), (.slice none 0 0)], 32⟩])).bind fun h6 =>
(wr base h6 (List.length h) 0 [(.int .i64 n2), (.int .i64 n3), (.string s4), (.slice l5.1 l5.2 l5.2)]).bind fun h7 =>
((cell h7 (List.length h) 0).bind (getI .i64)).bind fun n8 =>
((cell h7 (List.length h) 1).bind (getI .i64)).bind fun n9 =>
((cell h7 (List.length h) 2).bind getStr).bind fun s10 =>
((cell h7 (List.length h) 3).bind getS).bind fun l11 =>
(run (Et base) 118 [(.agg #[(.int .i64 n8), (.int .i64 n9), (.string s10), (.slice l11.1 l11.2 l11.2)]), (.int .i64 (IntKind.wrap .i64 (v1 + (1 : Int)))), (.int .i64 v2)] h7).bind fun r12 =>
(getTup 2 r12.1).bind fun l13 =>
((l13[0]?).bind (getI .i64)).bind fun n14 =>
((l13[1]?).bind getB).bind fun b15 =>
(if (!b15) = true then
some (1, [some (.int .i64 n14), some (.bool false)], r12.2)
else
some (0, [some (.int .i64 v1), some (.int .i64 n14), some (.slice v27 v27n v27n), some (.int .i64 v28), some (.int .i64 (IntKind.wrap .i64 (v29 + (1 : Int))))], r12.2))
else none)
else
some (2, [some (.int .i64 v2)], h)) : Option (Nat × Slots × AH)) := by kernel_rfl
theorem f118_eq (base : Nat) (v0_0 : Int) (v0_1 : Int) (v0_2 : ByteArray) (v0_3 : Option Addr) (v0_3n : Nat) (v1 : Int) (v2 : Int) (h : AH) : exFun (Et base) (run (Et base)) loopL a118 Try.f118 [(.agg #[(.int .i64 v0_0), (.int .i64 v0_1), (.string v0_2), (.slice v0_3 v0_3n v0_3n)]), (.int .i64 v1), (.int .i64 v2)] h =
((some (h ++ [some ⟨[(.int .i64 v0_0), (.int .i64 v0_1), (.string v0_2), (.slice v0_3 v0_3n v0_3n)], 32⟩])).bind fun h1 =>
((if (decide (v1 > (6 : Int))) = true then
some (.inl ([some (.int .i64 v1), some (.int .i64 (IntKind.wrap .i64 (v2 + (1 : Int)))), some (.pointer (some ⟨(List.length h), 0, none⟩)), some (.bool true)], h1))
else
(if (decide ((IntKind.wrap .i64 (v2 + (1 : Int))) > (100 : Int))) = true then
some (.inl ([some (.int .i64 v1), some (.int .i64 (IntKind.wrap .i64 (v2 + (1 : Int)))), some (.pointer (some ⟨(List.length h), 0, none⟩)), some (.bool true)], h1))
else
((cell h1 (List.length h) 0).bind (getI .i64)).bind fun n3 =>
((cell h1 (List.length h) 1).bind (getI .i64)).bind fun n4 =>
((cell h1 (List.length h) 2).bind getStr).bind fun s5 =>
((cell h1 (List.length h) 3).bind getS).bind fun l6 =>
(run (Et base) 140 [(.agg #[(.int .i64 n3), (.int .i64 n4), (.string s5), (.slice l6.1 l6.2 l6.2)])] h1).bind fun r7 =>
((some r7.1).bind getB).bind fun b8 =>
some (.inl ([some (.int .i64 v1), some (.int .i64 (IntKind.wrap .i64 (v2 + (1 : Int)))), some (.pointer (some ⟨(List.length h), 0, none⟩)), some (.bool (!b8))], r7.2))))).bind fun j2 => joinK j2 fun j2 =>
((sget j2.1 0).bind (getI .i64)).bind fun n9 =>
((sget (j2.1.tail) 0).bind (getI .i64)).bind fun n10 =>
((sget (j2.1.tail.tail) 0).bind getA).bind fun d11 =>
((sget (j2.1.tail.tail.tail) 0).bind getB).bind fun b12 =>
(if b12 = true then
some ((.tuple #[(.int .i64 n10), (.bool false)]), j2.2)
else
((cell j2.2 d11.block (d11.off + 3)).bind getS).bind fun l13 =>
(loopL (B118_0 base) [some (.int .i64 n9), some (.int .i64 n10), some (.slice l13.1 l13.2 l13.2), some (.int .i64 ((l13.2 : Nat) : Int)), some (.int .i64 (0 : Int))] j2.2).bind fun q14 =>
(if q14.1 = 1 then
((sget q14.2.1 0).bind (getI .i64)).bind fun n15 =>
((sget (q14.2.1.tail) 0).bind getB).bind fun b16 =>
some ((.tuple #[(.int .i64 n15), (.bool b16)]), q14.2.2)
else
(if q14.1 = 2 then
((sget q14.2.1 0).bind (getI .i64)).bind fun n17 =>
some ((.tuple #[(.int .i64 n17), (.bool true)]), q14.2.2)
else
none))) : Option (Value × AH)) := by kernel_rfl
theorem r118 {base : Nat} {v0_0 : Int} {v0_1 : Int} {v0_2 : ByteArray} {v0_3 : Option Addr} {v0_3n : Nat} {v1 : Int} {v2 : Int} {h : AH} {r : Value × AH} (hx :
((some (h ++ [some ⟨[(.int .i64 v0_0), (.int .i64 v0_1), (.string v0_2), (.slice v0_3 v0_3n v0_3n)], 32⟩])).bind fun h1 =>
((if (decide (v1 > (6 : Int))) = true then
some (.inl ([some (.int .i64 v1), some (.int .i64 (IntKind.wrap .i64 (v2 + (1 : Int)))), some (.pointer (some ⟨(List.length h), 0, none⟩)), some (.bool true)], h1))
else
(if (decide ((IntKind.wrap .i64 (v2 + (1 : Int))) > (100 : Int))) = true then
some (.inl ([some (.int .i64 v1), some (.int .i64 (IntKind.wrap .i64 (v2 + (1 : Int)))), some (.pointer (some ⟨(List.length h), 0, none⟩)), some (.bool true)], h1))
else
((cell h1 (List.length h) 0).bind (getI .i64)).bind fun n3 =>
((cell h1 (List.length h) 1).bind (getI .i64)).bind fun n4 =>
((cell h1 (List.length h) 2).bind getStr).bind fun s5 =>
((cell h1 (List.length h) 3).bind getS).bind fun l6 =>
(run (Et base) 140 [(.agg #[(.int .i64 n3), (.int .i64 n4), (.string s5), (.slice l6.1 l6.2 l6.2)])] h1).bind fun r7 =>
((some r7.1).bind getB).bind fun b8 =>
some (.inl ([some (.int .i64 v1), some (.int .i64 (IntKind.wrap .i64 (v2 + (1 : Int)))), some (.pointer (some ⟨(List.length h), 0, none⟩)), some (.bool (!b8))], r7.2))))).bind fun j2 => joinK j2 fun j2 =>
((sget j2.1 0).bind (getI .i64)).bind fun n9 =>
((sget (j2.1.tail) 0).bind (getI .i64)).bind fun n10 =>
((sget (j2.1.tail.tail) 0).bind getA).bind fun d11 =>
((sget (j2.1.tail.tail.tail) 0).bind getB).bind fun b12 =>
(if b12 = true then
some ((.tuple #[(.int .i64 n10), (.bool false)]), j2.2)
else
((cell j2.2 d11.block (d11.off + 3)).bind getS).bind fun l13 =>
(loopL (B118_0 base) [some (.int .i64 n9), some (.int .i64 n10), some (.slice l13.1 l13.2 l13.2), some (.int .i64 ((l13.2 : Nat) : Int)), some (.int .i64 (0 : Int))] j2.2).bind fun q14 =>
(if q14.1 = 1 then
((sget q14.2.1 0).bind (getI .i64)).bind fun n15 =>
((sget (q14.2.1.tail) 0).bind getB).bind fun b16 =>
some ((.tuple #[(.int .i64 n15), (.bool b16)]), q14.2.2)
else
(if q14.1 = 2 then
((sget q14.2.1 0).bind (getI .i64)).bind fun n17 =>
some ((.tuple #[(.int .i64 n17), (.bool true)]), q14.2.2)
else
none)))) = some r) : run (Et base) 118 [(.agg #[(.int .i64 v0_0), (.int .i64 v0_1), (.string v0_2), (.slice v0_3 v0_3n v0_3n)]), (.int .i64 v1), (.int .i64 v2)] h = some r := run_i Try.func118 (by kernel_rfl) ((f118_eq base v0_0 v0_1 v0_2 v0_3 v0_3n v1 v2 h).trans hx)
/-! spec.InsOk (gates 1) -/
theorem f120_eq (base : Nat) (v0_0 : Int) (v0_1 : Int) (v0_2 : Int) (v0_3 : Int) (v0_4 : Int) (v0_5 : ByteArray) (v1 : Int) (h : AH) : exFun (Et base) (run (Et base)) loopL a120 Try.f120 [(.agg #[(.int .i64 v0_0), (.int .i64 v0_1), (.int .i64 v0_2), (.int .i64 v0_3), (.int .i64 v0_4), (.string v0_5)]), (.int .i64 v1)] h =
((some (h ++ [some ⟨[(.int .i64 v0_0), (.int .i64 v0_1), (.int .i64 v0_2), (.int .i64 v0_3), (.int .i64 v0_4), (.string v0_5)], 116⟩])).bind fun h1 =>
((run (Et base) 62 [(.int .i64 v1), (.int .i64 (1 : Int)), (.int .i64 (200 : Int))] h1).bind fun r3 =>
((some r3.1).bind getB).bind fun b4 =>
(if (!b4) = true then
some (.inl ([some (.int .i64 v1), some (.pointer (some ⟨(List.length h), 0, none⟩)), some (.bool true)], r3.2))
else
((cell r3.2 (List.length h) 0).bind (getI .i64)).bind fun n5 =>
(run (Et base) 62 [(.int .i64 n5), (.int .i64 (1 : Int)), (.int .i64 (20 : Int))] r3.2).bind fun r6 =>
((some r6.1).bind getB).bind fun b7 =>
some (.inl ([some (.int .i64 v1), some (.pointer (some ⟨(List.length h), 0, none⟩)), some (.bool (!b7))], r6.2)))).bind fun j2 => joinK j2 fun j2 =>
((sget j2.1 0).bind (getI .i64)).bind fun n8 =>
((sget (j2.1.tail) 0).bind getA).bind fun d9 =>
((sget (j2.1.tail.tail) 0).bind getB).bind fun b10 =>
(if b10 = true then
some ((.bool false), j2.2)
else
(run (Et base) 141 [] j2.2).bind fun r11 =>
((some r11.1).bind getS).bind fun l12 =>
(gate (sameA j2.2 r11.2 (some ⟨d9.block, (d9.off + 0), none⟩) 1)
(((cell r11.2 d9.block (d9.off + 0)).bind (getI .i64)).bind fun n13 =>
(if 0 ≤ (IntKind.wrap .i64 (n13 - (1 : Int))) ∧ (IntKind.wrap .i64 (n13 - (1 : Int))) < ((l12.2 : Nat) : Int) then
((l12.1 : Option Addr)).bind fun a14 =>
((cell r11.2 a14.block (a14.off + Int.toNat (IntKind.wrap .i64 (n13 - (1 : Int))) * 1)).bind getStr).bind fun s15 =>
(((cell r11.2 d9.block (d9.off + 1)).bind (getI .i64)).bind fun n17 =>
(run (Et base) 142 [(.string s15), (.int .u8 (65 : Int)), (.int .i64 n17)] r11.2).bind fun r18 =>
((some r18.1).bind getB).bind fun b19 =>
(if (!b19) = true then
some (.inl ([some (.int .i64 n8), some (.pointer (some d9)), some (.bool true)], r18.2))
else
((cell r18.2 d9.block (d9.off + 3)).bind (getI .i64)).bind fun n20 =>
(run (Et base) 142 [(.string s15), (.int .u8 (67 : Int)), (.int .i64 n20)] r18.2).bind fun r21 =>
((some r21.1).bind getB).bind fun b22 =>
(if (!b22) = true then
some (.inl ([some (.int .i64 n8), some (.pointer (some d9)), some (.bool true)], r21.2))
else
((cell r21.2 d9.block (d9.off + 0)).bind (getI .i64)).bind fun n23 =>
(if (n23 != (11 : Int)) = true then
((cell r21.2 d9.block (d9.off + 2)).bind (getI .i64)).bind fun n24 =>
(run (Et base) 142 [(.string s15), (.int .u8 (66 : Int)), (.int .i64 n24)] r21.2).bind fun r25 =>
((some r25.1).bind getB).bind fun b26 =>
(if (!b26) = true then
some (.inl ([some (.int .i64 n8), some (.pointer (some d9)), some (.bool true)], r25.2))
else
((cell r25.2 d9.block (d9.off + 0)).bind (getI .i64)).bind fun n27 =>
(if (n27 == (11 : Int)) = true then
((cell r25.2 d9.block (d9.off + 2)).bind (getI .i64)).bind fun n28 =>
(run (Et base) 62 [(.int .i64 n28), (.int .i64 (1 : Int)), (.int .i64 (6 : Int))] r25.2).bind fun r29 =>
((some r29.1).bind getB).bind fun b30 =>
some (.inl ([some (.int .i64 n8), some (.pointer (some d9)), some (.bool (!b30))], r29.2))
else
some (.inl ([some (.int .i64 n8), some (.pointer (some d9)), some (.bool false)], r25.2))))
else
((cell r21.2 d9.block (d9.off + 0)).bind (getI .i64)).bind fun n31 =>
(if (n31 == (11 : Int)) = true then
((cell r21.2 d9.block (d9.off + 2)).bind (getI .i64)).bind fun n32 =>
(run (Et base) 62 [(.int .i64 n32), (.int .i64 (1 : Int)), (.int .i64 (6 : Int))] r21.2).bind fun r33 =>
((some r33.1).bind getB).bind fun b34 =>
some (.inl ([some (.int .i64 n8), some (.pointer (some d9)), some (.bool (!b34))], r33.2))
else
some (.inl ([some (.int .i64 n8), some (.pointer (some d9)), some (.bool false)], r21.2))))))).bind fun j16 => joinK j16 fun j16 =>
((sget j16.1 0).bind (getI .i64)).bind fun n35 =>
((sget (j16.1.tail) 0).bind getA).bind fun d36 =>
((sget (j16.1.tail.tail) 0).bind getB).bind fun b37 =>
(if b37 = true then
some ((.bool false), j16.2)
else
(((cell j16.2 d36.block (d36.off + 0)).bind (getI .i64)).bind fun n39 =>
(if (n39 == (2 : Int)) = true then
((cell j16.2 d36.block (d36.off + 5)).bind getStr).bind fun s40 =>
(run (Et base) 143 [(.string s40)] j16.2).bind fun r41 =>
((some r41.1).bind getB).bind fun b42 =>
(if (!b42) = true then
some (.inl ([some (.int .i64 n35), some (.pointer (some d36)), some (.bool true)], r41.2))
else
((cell r41.2 d36.block (d36.off + 0)).bind (getI .i64)).bind fun n43 =>
(if (n43 != (2 : Int)) = true then
((cell r41.2 d36.block (d36.off + 5)).bind getStr).bind fun s44 =>
some (.inl ([some (.int .i64 n35), some (.pointer (some d36)), some (.bool (!(s44.toList == (⟨#[]⟩ : ByteArray).toList)))], r41.2))
else
some (.inl ([some (.int .i64 n35), some (.pointer (some d36)), some (.bool false)], r41.2))))
else
((cell j16.2 d36.block (d36.off + 0)).bind (getI .i64)).bind fun n45 =>
(if (n45 != (2 : Int)) = true then
((cell j16.2 d36.block (d36.off + 5)).bind getStr).bind fun s46 =>
some (.inl ([some (.int .i64 n35), some (.pointer (some d36)), some (.bool (!(s46.toList == (⟨#[]⟩ : ByteArray).toList)))], j16.2))
else
some (.inl ([some (.int .i64 n35), some (.pointer (some d36)), some (.bool false)], j16.2))))).bind fun j38 => joinK j38 fun j38 =>
((sget j38.1 0).bind (getI .i64)).bind fun n47 =>
((sget (j38.1.tail) 0).bind getA).bind fun d48 =>
((sget (j38.1.tail.tail) 0).bind getB).bind fun b49 =>
(if b49 = true then
some ((.bool false), j38.2)
else
((cell j38.2 d48.block d48.off).bind (getI .i64)).bind fun n50 =>
((cell j38.2 d48.block (d48.off + 1)).bind (getI .i64)).bind fun n51 =>
((cell j38.2 d48.block ((d48.off + 1) + 1)).bind (getI .i64)).bind fun n52 =>
((cell j38.2 d48.block (((d48.off + 1) + 1) + 1)).bind (getI .i64)).bind fun n53 =>
((cell j38.2 d48.block ((((d48.off + 1) + 1) + 1) + 1)).bind (getI .i64)).bind fun n54 =>
((cell j38.2 d48.block (((((d48.off + 1) + 1) + 1) + 1) + 1)).bind getStr).bind fun s55 =>
(run (Et base) 144 [(.agg #[(.int .i64 n50), (.int .i64 n51), (.int .i64 n52), (.int .i64 n53), (.int .i64 n54), (.string s55)]), (.int .i64 n47)] j38.2).bind fun r56 =>
((some r56.1).bind getB).bind fun b57 =>
some ((.bool b57), r56.2)))
else none)))) : Option (Value × AH)) := by kernel_rfl
theorem r120 {base : Nat} {v0_0 : Int} {v0_1 : Int} {v0_2 : Int} {v0_3 : Int} {v0_4 : Int} {v0_5 : ByteArray} {v1 : Int} {h : AH} {r : Value × AH} (hx :
((some (h ++ [some ⟨[(.int .i64 v0_0), (.int .i64 v0_1), (.int .i64 v0_2), (.int .i64 v0_3), (.int .i64 v0_4), (.string v0_5)], 116⟩])).bind fun h1 =>
((run (Et base) 62 [(.int .i64 v1), (.int .i64 (1 : Int)), (.int .i64 (200 : Int))] h1).bind fun r3 =>
((some r3.1).bind getB).bind fun b4 =>
(if (!b4) = true then
some (.inl ([some (.int .i64 v1), some (.pointer (some ⟨(List.length h), 0, none⟩)), some (.bool true)], r3.2))
else
((cell r3.2 (List.length h) 0).bind (getI .i64)).bind fun n5 =>
(run (Et base) 62 [(.int .i64 n5), (.int .i64 (1 : Int)), (.int .i64 (20 : Int))] r3.2).bind fun r6 =>
((some r6.1).bind getB).bind fun b7 =>
some (.inl ([some (.int .i64 v1), some (.pointer (some ⟨(List.length h), 0, none⟩)), some (.bool (!b7))], r6.2)))).bind fun j2 => joinK j2 fun j2 =>
((sget j2.1 0).bind (getI .i64)).bind fun n8 =>
((sget (j2.1.tail) 0).bind getA).bind fun d9 =>
((sget (j2.1.tail.tail) 0).bind getB).bind fun b10 =>
(if b10 = true then
some ((.bool false), j2.2)
else
(run (Et base) 141 [] j2.2).bind fun r11 =>
((some r11.1).bind getS).bind fun l12 =>
(gate (sameA j2.2 r11.2 (some ⟨d9.block, (d9.off + 0), none⟩) 1)
(((cell r11.2 d9.block (d9.off + 0)).bind (getI .i64)).bind fun n13 =>
(if 0 ≤ (IntKind.wrap .i64 (n13 - (1 : Int))) ∧ (IntKind.wrap .i64 (n13 - (1 : Int))) < ((l12.2 : Nat) : Int) then
((l12.1 : Option Addr)).bind fun a14 =>
((cell r11.2 a14.block (a14.off + Int.toNat (IntKind.wrap .i64 (n13 - (1 : Int))) * 1)).bind getStr).bind fun s15 =>
(((cell r11.2 d9.block (d9.off + 1)).bind (getI .i64)).bind fun n17 =>
(run (Et base) 142 [(.string s15), (.int .u8 (65 : Int)), (.int .i64 n17)] r11.2).bind fun r18 =>
((some r18.1).bind getB).bind fun b19 =>
(if (!b19) = true then
some (.inl ([some (.int .i64 n8), some (.pointer (some d9)), some (.bool true)], r18.2))
else
((cell r18.2 d9.block (d9.off + 3)).bind (getI .i64)).bind fun n20 =>
(run (Et base) 142 [(.string s15), (.int .u8 (67 : Int)), (.int .i64 n20)] r18.2).bind fun r21 =>
((some r21.1).bind getB).bind fun b22 =>
(if (!b22) = true then
some (.inl ([some (.int .i64 n8), some (.pointer (some d9)), some (.bool true)], r21.2))
else
((cell r21.2 d9.block (d9.off + 0)).bind (getI .i64)).bind fun n23 =>
(if (n23 != (11 : Int)) = true then
((cell r21.2 d9.block (d9.off + 2)).bind (getI .i64)).bind fun n24 =>
(run (Et base) 142 [(.string s15), (.int .u8 (66 : Int)), (.int .i64 n24)] r21.2).bind fun r25 =>
((some r25.1).bind getB).bind fun b26 =>
(if (!b26) = true then
some (.inl ([some (.int .i64 n8), some (.pointer (some d9)), some (.bool true)], r25.2))
else
((cell r25.2 d9.block (d9.off + 0)).bind (getI .i64)).bind fun n27 =>
(if (n27 == (11 : Int)) = true then
((cell r25.2 d9.block (d9.off + 2)).bind (getI .i64)).bind fun n28 =>
(run (Et base) 62 [(.int .i64 n28), (.int .i64 (1 : Int)), (.int .i64 (6 : Int))] r25.2).bind fun r29 =>
((some r29.1).bind getB).bind fun b30 =>
some (.inl ([some (.int .i64 n8), some (.pointer (some d9)), some (.bool (!b30))], r29.2))
else
some (.inl ([some (.int .i64 n8), some (.pointer (some d9)), some (.bool false)], r25.2))))
else
((cell r21.2 d9.block (d9.off + 0)).bind (getI .i64)).bind fun n31 =>
(if (n31 == (11 : Int)) = true then
((cell r21.2 d9.block (d9.off + 2)).bind (getI .i64)).bind fun n32 =>
(run (Et base) 62 [(.int .i64 n32), (.int .i64 (1 : Int)), (.int .i64 (6 : Int))] r21.2).bind fun r33 =>
((some r33.1).bind getB).bind fun b34 =>
some (.inl ([some (.int .i64 n8), some (.pointer (some d9)), some (.bool (!b34))], r33.2))
else
some (.inl ([some (.int .i64 n8), some (.pointer (some d9)), some (.bool false)], r21.2))))))).bind fun j16 => joinK j16 fun j16 =>
((sget j16.1 0).bind (getI .i64)).bind fun n35 =>
((sget (j16.1.tail) 0).bind getA).bind fun d36 =>
((sget (j16.1.tail.tail) 0).bind getB).bind fun b37 =>
(if b37 = true then
some ((.bool false), j16.2)
else
(((cell j16.2 d36.block (d36.off + 0)).bind (getI .i64)).bind fun n39 =>
(if (n39 == (2 : Int)) = true then
((cell j16.2 d36.block (d36.off + 5)).bind getStr).bind fun s40 =>
(run (Et base) 143 [(.string s40)] j16.2).bind fun r41 =>
((some r41.1).bind getB).bind fun b42 =>
(if (!b42) = true then
some (.inl ([some (.int .i64 n35), some (.pointer (some d36)), some (.bool true)], r41.2))
else
((cell r41.2 d36.block (d36.off + 0)).bind (getI .i64)).bind fun n43 =>
(if (n43 != (2 : Int)) = true then
((cell r41.2 d36.block (d36.off + 5)).bind getStr).bind fun s44 =>
some (.inl ([some (.int .i64 n35), some (.pointer (some d36)), some (.bool (!(s44.toList == (⟨#[]⟩ : ByteArray).toList)))], r41.2))
else
some (.inl ([some (.int .i64 n35), some (.pointer (some d36)), some (.bool false)], r41.2))))
else
((cell j16.2 d36.block (d36.off + 0)).bind (getI .i64)).bind fun n45 =>
(if (n45 != (2 : Int)) = true then
((cell j16.2 d36.block (d36.off + 5)).bind getStr).bind fun s46 =>
some (.inl ([some (.int .i64 n35), some (.pointer (some d36)), some (.bool (!(s46.toList == (⟨#[]⟩ : ByteArray).toList)))], j16.2))
else
some (.inl ([some (.int .i64 n35), some (.pointer (some d36)), some (.bool false)], j16.2))))).bind fun j38 => joinK j38 fun j38 =>
((sget j38.1 0).bind (getI .i64)).bind fun n47 =>
((sget (j38.1.tail) 0).bind getA).bind fun d48 =>
((sget (j38.1.tail.tail) 0).bind getB).bind fun b49 =>
(if b49 = true then
some ((.bool false), j38.2)
else
((cell j38.2 d48.block d48.off).bind (getI .i64)).bind fun n50 =>
((cell j38.2 d48.block (d48.off + 1)).bind (getI .i64)).bind fun n51 =>
((cell j38.2 d48.block ((d48.off + 1) + 1)).bind (getI .i64)).bind fun n52 =>
((cell j38.2 d48.block (((d48.off + 1) + 1) + 1)).bind (getI .i64)).bind fun n53 =>
((cell j38.2 d48.block ((((d48.off + 1) + 1) + 1) + 1)).bind (getI .i64)).bind fun n54 =>
((cell j38.2 d48.block (((((d48.off + 1) + 1) + 1) + 1) + 1)).bind getStr).bind fun s55 =>
(run (Et base) 144 [(.agg #[(.int .i64 n50), (.int .i64 n51), (.int .i64 n52), (.int .i64 n53), (.int .i64 n54), (.string s55)]), (.int .i64 n47)] j38.2).bind fun r56 =>
((some r56.1).bind getB).bind fun b57 =>
some ((.bool b57), r56.2)))
else none))))) = some r) : run (Et base) 120 [(.agg #[(.int .i64 v0_0), (.int .i64 v0_1), (.int .i64 v0_2), (.int .i64 v0_3), (.int .i64 v0_4), (.string v0_5)]), (.int .i64 v1)] h = some r := run_i Try.func120 (by kernel_rfl) ((f120_eq base v0_0 v0_1 v0_2 v0_3 v0_4 v0_5 v1 h).trans hx)
/-! impl.InsOk (gates 0) -/
theorem f121_eq (base : Nat) (v0_0 : Int) (v0_1 : Int) (v0_2 : Int) (v0_3 : Int) (v0_4 : Int) (v0_5 : ByteArray) (v1 : Int) (h : AH) : exFun (Et base) (run (Et base)) loopL a121 Try.f121 [(.agg #[(.int .i64 v0_0), (.int .i64 v0_1), (.int .i64 v0_2), (.int .i64 v0_3), (.int .i64 v0_4), (.string v0_5)]), (.int .i64 v1)] h =
((some (h ++ [some ⟨[(.int .i64 v0_0), (.int .i64 v0_1), (.int .i64 v0_2), (.int .i64 v0_3), (.int .i64 v0_4), (.string v0_5)], 116⟩])).bind fun h1 =>
((run (Et base) 67 [(.int .i64 v1), (.int .i64 (1 : Int)), (.int .i64 (200 : Int))] h1).bind fun r3 =>
((some r3.1).bind getB).bind fun b4 =>
(if (!b4) = true then
some (.inl ([some (.int .i64 v1), some (.pointer (some ⟨(List.length h), 0, none⟩)), some (.bool true)], r3.2))
else
((cell r3.2 (List.length h) 0).bind (getI .i64)).bind fun n5 =>
((cell r3.2 (List.length h) 1).bind (getI .i64)).bind fun n6 =>
((cell r3.2 (List.length h) 2).bind (getI .i64)).bind fun n7 =>
((cell r3.2 (List.length h) 3).bind (getI .i64)).bind fun n8 =>
((cell r3.2 (List.length h) 4).bind (getI .i64)).bind fun n9 =>
((cell r3.2 (List.length h) 5).bind getStr).bind fun s10 =>
(run (Et base) 145 [(.agg #[(.int .i64 n5), (.int .i64 n6), (.int .i64 n7), (.int .i64 n8), (.int .i64 n9), (.string s10)])] r3.2).bind fun r11 =>
((some r11.1).bind getB).bind fun b12 =>
(if (!b12) = true then
some (.inl ([some (.int .i64 v1), some (.pointer (some ⟨(List.length h), 0, none⟩)), some (.bool true)], r11.2))
else
((cell r11.2 (List.length h) 1).bind (getI .i64)).bind fun n13 =>
(run (Et base) 146 [(.int .i64 n13)] r11.2).bind fun r14 =>
((some r14.1).bind getB).bind fun b15 =>
(if (!b15) = true then
some (.inl ([some (.int .i64 v1), some (.pointer (some ⟨(List.length h), 0, none⟩)), some (.bool true)], r14.2))
else
((cell r14.2 (List.length h) 2).bind (getI .i64)).bind fun n16 =>
(run (Et base) 146 [(.int .i64 n16)] r14.2).bind fun r17 =>
((some r17.1).bind getB).bind fun b18 =>
(if (!b18) = true then
some (.inl ([some (.int .i64 v1), some (.pointer (some ⟨(List.length h), 0, none⟩)), some (.bool true)], r17.2))
else
((cell r17.2 (List.length h) 3).bind (getI .i64)).bind fun n19 =>
(run (Et base) 146 [(.int .i64 n19)] r17.2).bind fun r20 =>
((some r20.1).bind getB).bind fun b21 =>
some (.inl ([some (.int .i64 v1), some (.pointer (some ⟨(List.length h), 0, none⟩)), some (.bool (!b21))], r20.2))))))).bind fun j2 => joinK j2 fun j2 =>
((sget j2.1 0).bind (getI .i64)).bind fun n22 =>
((sget (j2.1.tail) 0).bind getA).bind fun d23 =>
((sget (j2.1.tail.tail) 0).bind getB).bind fun b24 =>
(if b24 = true then
some ((.bool false), j2.2)
else
((cell j2.2 d23.block (d23.off + 0)).bind (getI .i64)).bind fun n25 =>
(if (n25 == (1 : Int)) = true then
((cell j2.2 d23.block (d23.off + 4)).bind (getI .i64)).bind fun n26 =>
(run (Et base) 67 [(.int .i64 n26), (.int .i64 (-1000000 : Int)), (.int .i64 (1000000 : Int))] j2.2).bind fun r27 =>
((some r27.1).bind getB).bind fun b28 =>
some ((.bool b28), r27.2)
else
(if (n25 == (2 : Int)) = true then
((cell j2.2 d23.block (d23.off + 5)).bind getStr).bind fun s29 =>
(run (Et base) 147 [(.string s29)] j2.2).bind fun r30 =>
((some r30.1).bind getB).bind fun b31 =>
some ((.bool b31), r30.2)
else
(if (n25 == (4 : Int)) = true then
((cell j2.2 d23.block (d23.off + 4)).bind (getI .i64)).bind fun n32 =>
(run (Et base) 67 [(.int .i64 n32), (.int .i64 (0 : Int)), (.int .i64 (8 : Int))] j2.2).bind fun r33 =>
((some r33.1).bind getB).bind fun b34 =>
(if b34 = true then
((cell r33.2 d23.block (d23.off + 2)).bind (getI .i64)).bind fun n35 =>
((cell r33.2 d23.block (d23.off + 4)).bind (getI .i64)).bind fun n36 =>
some ((.bool (decide ((IntKind.wrap .i64 (n35 + n36)) ≤ (8 : Int)))), r33.2)
else
some ((.bool false), r33.2))
else
(if (n25 == (6 : Int)) = true then
((cell j2.2 d23.block (d23.off + 4)).bind (getI .i64)).bind fun n37 =>
(run (Et base) 67 [(.int .i64 n37), (.int .i64 (0 : Int)), (.int .i64 (7 : Int))] j2.2).bind fun r38 =>
((some r38.1).bind getB).bind fun b39 =>
some ((.bool b39), r38.2)
else
(if (n25 == (11 : Int)) = true then
((cell j2.2 d23.block (d23.off + 2)).bind (getI .i64)).bind fun n40 =>
(run (Et base) 67 [(.int .i64 n40), (.int .i64 (1 : Int)), (.int .i64 (6 : Int))] j2.2).bind fun r41 =>
((some r41.1).bind getB).bind fun b42 =>
(if b42 = true then
((cell r41.2 d23.block (d23.off + 4)).bind (getI .i64)).bind fun n43 =>
(run (Et base) 67 [(.int .i64 n43), (.int .i64 (0 : Int)), (.int .i64 (IntKind.wrap .i64 (n22 - (1 : Int))))] r41.2).bind fun r44 =>
((some r44.1).bind getB).bind fun b45 =>
some ((.bool b45), r44.2)
else
some ((.bool false), r41.2))
else
((if (n25 == (10 : Int)) = true then
some (.inl ([some (.int .i64 n22), some (.pointer (some d23)), some (.bool (n25 == (10 : Int)))], j2.2))
else
(if (n25 == (12 : Int)) = true then
some (.inl ([some (.int .i64 n22), some (.pointer (some d23)), some (.bool (n25 == (12 : Int)))], j2.2))
else
some (.inl ([some (.int .i64 n22), some (.pointer (some d23)), some (.bool (n25 == (16 : Int)))], j2.2))))).bind fun j46 => joinK j46 fun j46 =>
((sget j46.1 0).bind (getI .i64)).bind fun n47 =>
((sget (j46.1.tail) 0).bind getA).bind fun d48 =>
((sget (j46.1.tail.tail) 0).bind getB).bind fun b49 =>
(if b49 = true then
((cell j46.2 d48.block (d48.off + 4)).bind (getI .i64)).bind fun n50 =>
(run (Et base) 67 [(.int .i64 n50), (.int .i64 (0 : Int)), (.int .i64 (IntKind.wrap .i64 (n47 - (1 : Int))))] j46.2).bind fun r51 =>
((some r51.1).bind getB).bind fun b52 =>
some ((.bool b52), r51.2)
else
some ((.bool true), j46.2)))))))) : Option (Value × AH)) := by kernel_rfl
theorem r121 {base : Nat} {v0_0 : Int} {v0_1 : Int} {v0_2 : Int} {v0_3 : Int} {v0_4 : Int} {v0_5 : ByteArray} {v1 : Int} {h : AH} {r : Value × AH} (hx :
((some (h ++ [some ⟨[(.int .i64 v0_0), (.int .i64 v0_1), (.int .i64 v0_2), (.int .i64 v0_3), (.int .i64 v0_4), (.string v0_5)], 116⟩])).bind fun h1 =>
((run (Et base) 67 [(.int .i64 v1), (.int .i64 (1 : Int)), (.int .i64 (200 : Int))] h1).bind fun r3 =>
((some r3.1).bind getB).bind fun b4 =>
(if (!b4) = true then
some (.inl ([some (.int .i64 v1), some (.pointer (some ⟨(List.length h), 0, none⟩)), some (.bool true)], r3.2))
else
((cell r3.2 (List.length h) 0).bind (getI .i64)).bind fun n5 =>
((cell r3.2 (List.length h) 1).bind (getI .i64)).bind fun n6 =>
((cell r3.2 (List.length h) 2).bind (getI .i64)).bind fun n7 =>
((cell r3.2 (List.length h) 3).bind (getI .i64)).bind fun n8 =>
((cell r3.2 (List.length h) 4).bind (getI .i64)).bind fun n9 =>
((cell r3.2 (List.length h) 5).bind getStr).bind fun s10 =>
(run (Et base) 145 [(.agg #[(.int .i64 n5), (.int .i64 n6), (.int .i64 n7), (.int .i64 n8), (.int .i64 n9), (.string s10)])] r3.2).bind fun r11 =>
((some r11.1).bind getB).bind fun b12 =>
(if (!b12) = true then
some (.inl ([some (.int .i64 v1), some (.pointer (some ⟨(List.length h), 0, none⟩)), some (.bool true)], r11.2))
else
((cell r11.2 (List.length h) 1).bind (getI .i64)).bind fun n13 =>
(run (Et base) 146 [(.int .i64 n13)] r11.2).bind fun r14 =>
((some r14.1).bind getB).bind fun b15 =>
(if (!b15) = true then
some (.inl ([some (.int .i64 v1), some (.pointer (some ⟨(List.length h), 0, none⟩)), some (.bool true)], r14.2))
else
((cell r14.2 (List.length h) 2).bind (getI .i64)).bind fun n16 =>
(run (Et base) 146 [(.int .i64 n16)] r14.2).bind fun r17 =>
((some r17.1).bind getB).bind fun b18 =>
(if (!b18) = true then
some (.inl ([some (.int .i64 v1), some (.pointer (some ⟨(List.length h), 0, none⟩)), some (.bool true)], r17.2))
else
((cell r17.2 (List.length h) 3).bind (getI .i64)).bind fun n19 =>
(run (Et base) 146 [(.int .i64 n19)] r17.2).bind fun r20 =>
((some r20.1).bind getB).bind fun b21 =>
some (.inl ([some (.int .i64 v1), some (.pointer (some ⟨(List.length h), 0, none⟩)), some (.bool (!b21))], r20.2))))))).bind fun j2 => joinK j2 fun j2 =>
((sget j2.1 0).bind (getI .i64)).bind fun n22 =>
((sget (j2.1.tail) 0).bind getA).bind fun d23 =>
((sget (j2.1.tail.tail) 0).bind getB).bind fun b24 =>
(if b24 = true then
some ((.bool false), j2.2)
else
((cell j2.2 d23.block (d23.off + 0)).bind (getI .i64)).bind fun n25 =>
(if (n25 == (1 : Int)) = true then
((cell j2.2 d23.block (d23.off + 4)).bind (getI .i64)).bind fun n26 =>
(run (Et base) 67 [(.int .i64 n26), (.int .i64 (-1000000 : Int)), (.int .i64 (1000000 : Int))] j2.2).bind fun r27 =>
((some r27.1).bind getB).bind fun b28 =>
some ((.bool b28), r27.2)
else
(if (n25 == (2 : Int)) = true then
((cell j2.2 d23.block (d23.off + 5)).bind getStr).bind fun s29 =>
(run (Et base) 147 [(.string s29)] j2.2).bind fun r30 =>
((some r30.1).bind getB).bind fun b31 =>
some ((.bool b31), r30.2)
else
(if (n25 == (4 : Int)) = true then
((cell j2.2 d23.block (d23.off + 4)).bind (getI .i64)).bind fun n32 =>
(run (Et base) 67 [(.int .i64 n32), (.int .i64 (0 : Int)), (.int .i64 (8 : Int))] j2.2).bind fun r33 =>
((some r33.1).bind getB).bind fun b34 =>
(if b34 = true then
((cell r33.2 d23.block (d23.off + 2)).bind (getI .i64)).bind fun n35 =>
((cell r33.2 d23.block (d23.off + 4)).bind (getI .i64)).bind fun n36 =>
some ((.bool (decide ((IntKind.wrap .i64 (n35 + n36)) ≤ (8 : Int)))), r33.2)
else
some ((.bool false), r33.2))
else
(if (n25 == (6 : Int)) = true then
((cell j2.2 d23.block (d23.off + 4)).bind (getI .i64)).bind fun n37 =>
(run (Et base) 67 [(.int .i64 n37), (.int .i64 (0 : Int)), (.int .i64 (7 : Int))] j2.2).bind fun r38 =>
((some r38.1).bind getB).bind fun b39 =>
some ((.bool b39), r38.2)
else
(if (n25 == (11 : Int)) = true then
((cell j2.2 d23.block (d23.off + 2)).bind (getI .i64)).bind fun n40 =>
(run (Et base) 67 [(.int .i64 n40), (.int .i64 (1 : Int)), (.int .i64 (6 : Int))] j2.2).bind fun r41 =>
((some r41.1).bind getB).bind fun b42 =>
(if b42 = true then
((cell r41.2 d23.block (d23.off + 4)).bind (getI .i64)).bind fun n43 =>
(run (Et base) 67 [(.int .i64 n43), (.int .i64 (0 : Int)), (.int .i64 (IntKind.wrap .i64 (n22 - (1 : Int))))] r41.2).bind fun r44 =>
((some r44.1).bind getB).bind fun b45 =>
some ((.bool b45), r44.2)
else
some ((.bool false), r41.2))
else
((if (n25 == (10 : Int)) = true then
some (.inl ([some (.int .i64 n22), some (.pointer (some d23)), some (.bool (n25 == (10 : Int)))], j2.2))
else
(if (n25 == (12 : Int)) = true then
some (.inl ([some (.int .i64 n22), some (.pointer (some d23)), some (.bool (n25 == (12 : Int)))], j2.2))
else
some (.inl ([some (.int .i64 n22), some (.pointer (some d23)), some (.bool (n25 == (16 : Int)))], j2.2))))).bind fun j46 => joinK j46 fun j46 =>
((sget j46.1 0).bind (getI .i64)).bind fun n47 =>
((sget (j46.1.tail) 0).bind getA).bind fun d48 =>
((sget (j46.1.tail.tail) 0).bind getB).bind fun b49 =>
(if b49 = true then
((cell j46.2 d48.block (d48.off + 4)).bind (getI .i64)).bind fun n50 =>
(run (Et base) 67 [(.int .i64 n50), (.int .i64 (0 : Int)), (.int .i64 (IntKind.wrap .i64 (n47 - (1 : Int))))] j46.2).bind fun r51 =>
((some r51.1).bind getB).bind fun b52 =>
some ((.bool b52), r51.2)
else
some ((.bool true), j46.2))))))))) = some r) : run (Et base) 121 [(.agg #[(.int .i64 v0_0), (.int .i64 v0_1), (.int .i64 v0_2), (.int .i64 v0_3), (.int .i64 v0_4), (.string v0_5)]), (.int .i64 v1)] h = some r := run_i Try.func121 (by kernel_rfl) ((f121_eq base v0_0 v0_1 v0_2 v0_3 v0_4 v0_5 v1 h).trans hx)
/-! laws.szSaid (gates 0) -/
theorem f128_eq (base : Nat) (v0_0 : Int) (v0_1 : Int) (v0_2 : Int) (v0_3 : Int) (v0_4 : ByteArray) (v0_5 : Option Addr) (v0_5n : Nat) (v1 : Int) (h : AH) : exFun (Et base) (run (Et base)) loopL a128 Try.f128 [(.agg #[(.int .i64 v0_0), (.int .i64 v0_1), (.int .i64 v0_2), (.int .i64 v0_3), (.string v0_4), (.slice v0_5 v0_5n v0_5n)]), (.int .i64 v1)] h =
((some (h ++ [some ⟨[(.int .i64 v0_0), (.int .i64 v0_1), (.int .i64 v0_2), (.int .i64 v0_3), (.string v0_4), (.slice v0_5 v0_5n v0_5n)], 172⟩])).bind fun h1 =>
((cell h1 (List.length h) 2).bind (getI .i64)).bind fun n2 =>
((cell h1 (List.length h) 3).bind (getI .i64)).bind fun n3 =>
((cell h1 (List.length h) 4).bind getStr).bind fun s4 =>
((cell h1 (List.length h) 5).bind getS).bind fun l5 =>
(run (Et base) 11 [(.agg #[(.int .i64 n2), (.int .i64 n3), (.string s4), (.slice l5.1 l5.2 l5.2)]), (.int .i64 v1)] h1).bind fun r6 =>
((some r6.1).bind (getI .i64)).bind fun n7 =>
(if (decide (n7 < (0 : Int))) = true then
some ((.int .i64 (-1 : Int)), r6.2)
else
some ((.int .i64 n7), r6.2)) : Option (Value × AH)) := by kernel_rfl
theorem r128 {base : Nat} {v0_0 : Int} {v0_1 : Int} {v0_2 : Int} {v0_3 : Int} {v0_4 : ByteArray} {v0_5 : Option Addr} {v0_5n : Nat} {v1 : Int} {h : AH} {r : Value × AH} (hx :
((some (h ++ [some ⟨[(.int .i64 v0_0), (.int .i64 v0_1), (.int .i64 v0_2), (.int .i64 v0_3), (.string v0_4), (.slice v0_5 v0_5n v0_5n)], 172⟩])).bind fun h1 =>
((cell h1 (List.length h) 2).bind (getI .i64)).bind fun n2 =>
((cell h1 (List.length h) 3).bind (getI .i64)).bind fun n3 =>
((cell h1 (List.length h) 4).bind getStr).bind fun s4 =>
((cell h1 (List.length h) 5).bind getS).bind fun l5 =>
(run (Et base) 11 [(.agg #[(.int .i64 n2), (.int .i64 n3), (.string s4), (.slice l5.1 l5.2 l5.2)]), (.int .i64 v1)] h1).bind fun r6 =>
((some r6.1).bind (getI .i64)).bind fun n7 =>
(if (decide (n7 < (0 : Int))) = true then
some ((.int .i64 (-1 : Int)), r6.2)
else
some ((.int .i64 n7), r6.2))) = some r) : run (Et base) 128 [(.agg #[(.int .i64 v0_0), (.int .i64 v0_1), (.int .i64 v0_2), (.int .i64 v0_3), (.string v0_4), (.slice v0_5 v0_5n v0_5n)]), (.int .i64 v1)] h = some r := run_i Try.func128 (by kernel_rfl) ((f128_eq base v0_0 v0_1 v0_2 v0_3 v0_4 v0_5 v0_5n v1 h).trans hx)
/-! spec.l11At (gates 0) -/
noncomputable def B129_0 (base : Nat) : Body := fun l h => lay s129_0 l fun s => exCode (Et base) (run (Et base)) loopL a129_0 (subC [1, 0, 1, 0, 0] (bodyC Try.f129)) s h (keepK s129_0 e129_0)
theorem B129_0_eq (base : Nat) (v1 : Int) (v2 : Addr) (v5 : Int) (h : AH) : B129_0 base [some (.int .i64 v1), some (.pointer (some v2)), some (.int .i64 v5)] h =
(((cell h v2.block (v2.off + 1)).bind getS).bind fun l1 =>
(if (decide (v5 < ((l1.2 : Nat) : Int))) = true then
((cell h v2.block (v2.off + 1)).bind getS).bind fun l2 =>
(if 0 ≤ v5 ∧ v5 < ((l2.2 : Nat) : Int) then
((l2.1 : Option Addr)).bind fun a3 =>
((cell h a3.block ((a3.off + Int.toNat v5 * 5) + 0)).bind (getI .i64)).bind fun n4 =>
(if (n4 == v1) = true then
some (1, [some (.int .i64 v5)], h)
else
some (0, [some (.int .i64 v1), some (.pointer (some v2)), some (.int .i64 (IntKind.wrap .i64 (v5 + (1 : Int))))], h))
else none)
else
some (2, [], h)) : Option (Nat × Slots × AH)) := by kernel_rfl
theorem f129_eq (base : Nat) (v0_0 : Option Addr) (v0_0n : Nat) (v0_1 : Option Addr) (v0_1n : Nat) (v0_2 : Int) (v0_3 : Option Addr) (v0_3n : Nat) (v1 : Int) (h : AH) : exFun (Et base) (run (Et base)) loopL a129 Try.f129 [(.agg #[(.slice v0_0 v0_0n v0_0n), (.slice v0_1 v0_1n v0_1n), (.int .i64 v0_2), (.slice v0_3 v0_3n v0_3n)]), (.int .i64 v1)] h =
((some (h ++ [some ⟨[(.slice v0_0 v0_0n v0_0n), (.slice v0_1 v0_1n v0_1n), (.int .i64 v0_2), (.slice v0_3 v0_3n v0_3n)], 70⟩])).bind fun h1 =>
(loopL (B129_0 base) [some (.int .i64 v1), some (.pointer (some ⟨(List.length h), 0, none⟩)), some (.int .i64 (0 : Int))] h1).bind fun q2 =>
(if q2.1 = 1 then
((sget q2.2.1 0).bind (getI .i64)).bind fun n3 =>
some ((.int .i64 n3), q2.2.2)
else
(if q2.1 = 2 then
some ((.int .i64 (-1 : Int)), q2.2.2)
else
none)) : Option (Value × AH)) := by kernel_rfl
theorem r129 {base : Nat} {v0_0 : Option Addr} {v0_0n : Nat} {v0_1 : Option Addr} {v0_1n : Nat} {v0_2 : Int} {v0_3 : Option Addr} {v0_3n : Nat} {v1 : Int} {h : AH} {r : Value × AH} (hx :
((some (h ++ [some ⟨[(.slice v0_0 v0_0n v0_0n), (.slice v0_1 v0_1n v0_1n), (.int .i64 v0_2), (.slice v0_3 v0_3n v0_3n)], 70⟩])).bind fun h1 =>
(loopL (B129_0 base) [some (.int .i64 v1), some (.pointer (some ⟨(List.length h), 0, none⟩)), some (.int .i64 (0 : Int))] h1).bind fun q2 =>
(if q2.1 = 1 then
((sget q2.2.1 0).bind (getI .i64)).bind fun n3 =>
some ((.int .i64 n3), q2.2.2)
else
(if q2.1 = 2 then
some ((.int .i64 (-1 : Int)), q2.2.2)
else
none))) = some r) : run (Et base) 129 [(.agg #[(.slice v0_0 v0_0n v0_0n), (.slice v0_1 v0_1n v0_1n), (.int .i64 v0_2), (.slice v0_3 v0_3n v0_3n)]), (.int .i64 v1)] h = some r := run_i Try.func129 (by kernel_rfl) ((f129_eq base v0_0 v0_0n v0_1 v0_1n v0_2 v0_3 v0_3n v1 h).trans hx)
/-! spec.l11Has (gates 0) -/
noncomputable def B130_0 (base : Nat) : Body := fun l h => lay s130_0 l fun s => exCode (Et base) (run (Et base)) loopL a130_0 (subC [1, 0, 1, 0, 0] (bodyC Try.f130)) s h (keepK s130_0 e130_0)
theorem B130_0_eq (base : Nat) (v0 : Option Addr) (v0n : Nat) (v1 : Int) (v5 : Int) (h : AH) : B130_0 base [some (.slice v0 v0n v0n), some (.int .i64 v1), some (.int .i64 v5)] h =
((if (decide (v5 < ((v0n : Nat) : Int))) = true then
(if 0 ≤ v5 ∧ v5 < ((v0n : Nat) : Int) then
((v0 : Option Addr)).bind fun a1 =>
((cell h a1.block (a1.off + Int.toNat v5 * 1)).bind (getI .i64)).bind fun n2 =>
(if (n2 == v1) = true then
some (1, [some (.bool true)], h)
else
some (0, [some (.slice v0 v0n v0n), some (.int .i64 v1), some (.int .i64 (IntKind.wrap .i64 (v5 + (1 : Int))))], h))
else none)
else
some (2, [], h)) : Option (Nat × Slots × AH)) := by kernel_rfl
theorem f130_eq (base : Nat) (v0 : Option Addr) (v0n : Nat) (v1 : Int) (h : AH) : exFun (Et base) (run (Et base)) loopL a130 Try.f130 [(.slice v0 v0n v0n), (.int .i64 v1)] h =
((loopL (B130_0 base) [some (.slice v0 v0n v0n), some (.int .i64 v1), some (.int .i64 (0 : Int))] h).bind fun q1 =>
(if q1.1 = 1 then
((sget q1.2.1 0).bind getB).bind fun b2 =>
some ((.bool b2), q1.2.2)
else
(if q1.1 = 2 then
some ((.bool false), q1.2.2)
else
none)) : Option (Value × AH)) := by kernel_rfl
theorem r130 {base : Nat} {v0 : Option Addr} {v0n : Nat} {v1 : Int} {h : AH} {r : Value × AH} (hx :
((loopL (B130_0 base) [some (.slice v0 v0n v0n), some (.int .i64 v1), some (.int .i64 (0 : Int))] h).bind fun q1 =>
(if q1.1 = 1 then
((sget q1.2.1 0).bind getB).bind fun b2 =>
some ((.bool b2), q1.2.2)
else
(if q1.1 = 2 then
some ((.bool false), q1.2.2)
else
none))) = some r) : run (Et base) 130 [(.slice v0 v0n v0n), (.int .i64 v1)] h = some r := run_i Try.func130 (by kernel_rfl) ((f130_eq base v0 v0n v1 h).trans hx)
/-! laws.toSaid (gates 0) -/
theorem f131_eq (base : Nat) (v0_0 : Int) (v0_1 : Int) (v0_2 : Int) (v0_3 : Int) (v0_4 : ByteArray) (v0_5 : Option Addr) (v0_5n : Nat) (h : AH) : exFun (Et base) (run (Et base)) loopL a131 Try.f131 [(.agg #[(.int .i64 v0_0), (.int .i64 v0_1), (.int .i64 v0_2), (.int .i64 v0_3), (.string v0_4), (.slice v0_5 v0_5n v0_5n)])] h =
((some (h ++ [some ⟨[(.int .i64 v0_0), (.int .i64 v0_1), (.int .i64 v0_2), (.int .i64 v0_3), (.string v0_4), (.slice v0_5 v0_5n v0_5n)], 172⟩])).bind fun h1 =>
(some (h1 ++ [some ⟨[(.int .i64 0), (.int .i64 0), (.int .i64 0), (.int .i64 0), (.string ⟨#[]⟩), (.slice none 0 0)], 174⟩])).bind fun h2 =>
(some (h2 ++ [some ⟨[(.int .i64 0), (.int .i64 0), (.int .i64 0), (.int .i64 0), (.string ⟨#[]⟩), (.slice none 0 0)], 174⟩])).bind fun h3 =>
((cell h3 (List.length h) 0).bind (getI .i64)).bind fun n4 =>
(wr base h3 (List.length h2) 0 [(.int .i64 n4)]).bind fun h5 =>
((cell h5 (List.length h) 1).bind (getI .i64)).bind fun n6 =>
(wr base h5 (List.length h2) 1 [(.int .i64 n6)]).bind fun h7 =>
((cell h7 (List.length h) 2).bind (getI .i64)).bind fun n8 =>
((cell h7 (List.length h) 3).bind (getI .i64)).bind fun n9 =>
((cell h7 (List.length h) 4).bind getStr).bind fun s10 =>
((cell h7 (List.length h) 5).bind getS).bind fun l11 =>
(run (Et base) 13 [(.agg #[(.int .i64 n8), (.int .i64 n9), (.string s10), (.slice l11.1 l11.2 l11.2)])] h7).bind fun r12 =>
((some r12.1).bind (getAgg 4)).bind fun l13 =>
((l13[0]?).bind (getI .i64)).bind fun n14 =>
((l13[1]?).bind (getI .i64)).bind fun n15 =>
((l13[2]?).bind getStr).bind fun s16 =>
((l13[3]?).bind getS).bind fun l17 =>
(wr base r12.2 (List.length h2) 2 [(.int .i64 n14), (.int .i64 n15), (.string s16), (.slice l17.1 l17.2 l17.2)]).bind fun h18 =>
((cell h18 (List.length h2) 0).bind (getI .i64)).bind fun n19 =>
((cell h18 (List.length h2) 1).bind (getI .i64)).bind fun n20 =>
((cell h18 (List.length h2) 2).bind (getI .i64)).bind fun n21 =>
((cell h18 (List.length h2) 3).bind (getI .i64)).bind fun n22 =>
((cell h18 (List.length h2) 4).bind getStr).bind fun s23 =>
((cell h18 (List.length h2) 5).bind getS).bind fun l24 =>
(wr base h18 (List.length h1) 0 [(.int .i64 n19), (.int .i64 n20), (.int .i64 n21), (.int .i64 n22), (.string s23), (.slice l24.1 l24.2 l24.2)]).bind fun h25 =>
((cell h25 (List.length h1) 0).bind (getI .i64)).bind fun n26 =>
((cell h25 (List.length h1) 1).bind (getI .i64)).bind fun n27 =>
((cell h25 (List.length h1) 2).bind (getI .i64)).bind fun n28 =>
((cell h25 (List.length h1) 3).bind (getI .i64)).bind fun n29 =>
((cell h25 (List.length h1) 4).bind getStr).bind fun s30 =>
((cell h25 (List.length h1) 5).bind getS).bind fun l31 =>
some ((.agg #[(.int .i64 n26), (.int .i64 n27), (.int .i64 n28), (.int .i64 n29), (.string s30), (.slice l31.1 l31.2 l31.2)]), h25) : Option (Value × AH)) := by kernel_rfl
theorem r131 {base : Nat} {v0_0 : Int} {v0_1 : Int} {v0_2 : Int} {v0_3 : Int} {v0_4 : ByteArray} {v0_5 : Option Addr} {v0_5n : Nat} {h : AH} {r : Value × AH} (hx :
((some (h ++ [some ⟨[(.int .i64 v0_0), (.int .i64 v0_1), (.int .i64 v0_2), (.int .i64 v0_3), (.string v0_4), (.slice v0_5 v0_5n v0_5n)], 172⟩])).bind fun h1 =>
(some (h1 ++ [some ⟨[(.int .i64 0), (.int .i64 0), (.int .i64 0), (.int .i64 0), (.string ⟨#[]⟩), (.slice none 0 0)], 174⟩])).bind fun h2 =>
(some (h2 ++ [some ⟨[(.int .i64 0), (.int .i64 0), (.int .i64 0), (.int .i64 0), (.string ⟨#[]⟩), (.slice none 0 0)], 174⟩])).bind fun h3 =>
((cell h3 (List.length h) 0).bind (getI .i64)).bind fun n4 =>
(wr base h3 (List.length h2) 0 [(.int .i64 n4)]).bind fun h5 =>
((cell h5 (List.length h) 1).bind (getI .i64)).bind fun n6 =>
(wr base h5 (List.length h2) 1 [(.int .i64 n6)]).bind fun h7 =>
((cell h7 (List.length h) 2).bind (getI .i64)).bind fun n8 =>
((cell h7 (List.length h) 3).bind (getI .i64)).bind fun n9 =>
((cell h7 (List.length h) 4).bind getStr).bind fun s10 =>
((cell h7 (List.length h) 5).bind getS).bind fun l11 =>
(run (Et base) 13 [(.agg #[(.int .i64 n8), (.int .i64 n9), (.string s10), (.slice l11.1 l11.2 l11.2)])] h7).bind fun r12 =>
((some r12.1).bind (getAgg 4)).bind fun l13 =>
((l13[0]?).bind (getI .i64)).bind fun n14 =>
((l13[1]?).bind (getI .i64)).bind fun n15 =>
((l13[2]?).bind getStr).bind fun s16 =>
((l13[3]?).bind getS).bind fun l17 =>
(wr base r12.2 (List.length h2) 2 [(.int .i64 n14), (.int .i64 n15), (.string s16), (.slice l17.1 l17.2 l17.2)]).bind fun h18 =>
((cell h18 (List.length h2) 0).bind (getI .i64)).bind fun n19 =>
((cell h18 (List.length h2) 1).bind (getI .i64)).bind fun n20 =>
((cell h18 (List.length h2) 2).bind (getI .i64)).bind fun n21 =>
((cell h18 (List.length h2) 3).bind (getI .i64)).bind fun n22 =>
((cell h18 (List.length h2) 4).bind getStr).bind fun s23 =>
((cell h18 (List.length h2) 5).bind getS).bind fun l24 =>
(wr base h18 (List.length h1) 0 [(.int .i64 n19), (.int .i64 n20), (.int .i64 n21), (.int .i64 n22), (.string s23), (.slice l24.1 l24.2 l24.2)]).bind fun h25 =>
((cell h25 (List.length h1) 0).bind (getI .i64)).bind fun n26 =>
((cell h25 (List.length h1) 1).bind (getI .i64)).bind fun n27 =>
((cell h25 (List.length h1) 2).bind (getI .i64)).bind fun n28 =>
((cell h25 (List.length h1) 3).bind (getI .i64)).bind fun n29 =>
((cell h25 (List.length h1) 4).bind getStr).bind fun s30 =>
((cell h25 (List.length h1) 5).bind getS).bind fun l31 =>
some ((.agg #[(.int .i64 n26), (.int .i64 n27), (.int .i64 n28), (.int .i64 n29), (.string s30), (.slice l31.1 l31.2 l31.2)]), h25)) = some r) : run (Et base) 131 [(.agg #[(.int .i64 v0_0), (.int .i64 v0_1), (.int .i64 v0_2), (.int .i64 v0_3), (.string v0_4), (.slice v0_5 v0_5n v0_5n)])] h = some r := run_i Try.func131 (by kernel_rfl) ((f131_eq base v0_0 v0_1 v0_2 v0_3 v0_4 v0_5 v0_5n h).trans hx)
/-! laws.eqSaid (gates 0) -/
theorem f132_eq (base : Nat) (v0_0 : Int) (v0_1 : Int) (v0_2 : Int) (v0_3 : Int) (v0_4 : ByteArray) (v0_5 : Option Addr) (v0_5n : Nat) (v1_0 : Int) (v1_1 : Int) (v1_2 : Int) (v1_3 : Int) (v1_4 : ByteArray) (v1_5 : Option Addr) (v1_5n : Nat) (h : AH) : exFun (Et base) (run (Et base)) loopL a132 Try.f132 [(.agg #[(.int .i64 v0_0), (.int .i64 v0_1), (.int .i64 v0_2), (.int .i64 v0_3), (.string v0_4), (.slice v0_5 v0_5n v0_5n)]), (.agg #[(.int .i64 v1_0), (.int .i64 v1_1), (.int .i64 v1_2), (.int .i64 v1_3), (.string v1_4), (.slice v1_5 v1_5n v1_5n)])] h =
((some (h ++ [some ⟨[(.int .i64 v0_0), (.int .i64 v0_1), (.int .i64 v0_2), (.int .i64 v0_3), (.string v0_4), (.slice v0_5 v0_5n v0_5n)], 174⟩])).bind fun h1 =>
(some (h1 ++ [some ⟨[(.int .i64 v1_0), (.int .i64 v1_1), (.int .i64 v1_2), (.int .i64 v1_3), (.string v1_4), (.slice v1_5 v1_5n v1_5n)], 174⟩])).bind fun h2 =>
((cell h2 (List.length h) 0).bind (getI .i64)).bind fun n3 =>
((cell h2 (List.length h1) 0).bind (getI .i64)).bind fun n4 =>
(if (n3 != n4) = true then
some ((.bool false), h2)
else
((cell h2 (List.length h) 1).bind (getI .i64)).bind fun n5 =>
((cell h2 (List.length h1) 1).bind (getI .i64)).bind fun n6 =>
(if (n5 != n6) = true then
some ((.bool false), h2)
else
((cell h2 (List.length h) 2).bind (getI .i64)).bind fun n7 =>
((cell h2 (List.length h) 3).bind (getI .i64)).bind fun n8 =>
((cell h2 (List.length h) 4).bind getStr).bind fun s9 =>
((cell h2 (List.length h) 5).bind getS).bind fun l10 =>
((cell h2 (List.length h1) 2).bind (getI .i64)).bind fun n11 =>
((cell h2 (List.length h1) 3).bind (getI .i64)).bind fun n12 =>
((cell h2 (List.length h1) 4).bind getStr).bind fun s13 =>
((cell h2 (List.length h1) 5).bind getS).bind fun l14 =>
(run (Et base) 16 [(.agg #[(.int .i64 n7), (.int .i64 n8), (.string s9), (.slice l10.1 l10.2 l10.2)]), (.agg #[(.int .i64 n11), (.int .i64 n12), (.string s13), (.slice l14.1 l14.2 l14.2)])] h2).bind fun r15 =>
((some r15.1).bind getB).bind fun b16 =>
(if (!b16) = true then
some ((.bool false), r15.2)
else
some ((.bool true), r15.2)))) : Option (Value × AH)) := by kernel_rfl
theorem r132 {base : Nat} {v0_0 : Int} {v0_1 : Int} {v0_2 : Int} {v0_3 : Int} {v0_4 : ByteArray} {v0_5 : Option Addr} {v0_5n : Nat} {v1_0 : Int} {v1_1 : Int} {v1_2 : Int} {v1_3 : Int} {v1_4 : ByteArray} {v1_5 : Option Addr} {v1_5n : Nat} {h : AH} {r : Value × AH} (hx :
((some (h ++ [some ⟨[(.int .i64 v0_0), (.int .i64 v0_1), (.int .i64 v0_2), (.int .i64 v0_3), (.string v0_4), (.slice v0_5 v0_5n v0_5n)], 174⟩])).bind fun h1 =>
(some (h1 ++ [some ⟨[(.int .i64 v1_0), (.int .i64 v1_1), (.int .i64 v1_2), (.int .i64 v1_3), (.string v1_4), (.slice v1_5 v1_5n v1_5n)], 174⟩])).bind fun h2 =>
((cell h2 (List.length h) 0).bind (getI .i64)).bind fun n3 =>
((cell h2 (List.length h1) 0).bind (getI .i64)).bind fun n4 =>
(if (n3 != n4) = true then
some ((.bool false), h2)
else
((cell h2 (List.length h) 1).bind (getI .i64)).bind fun n5 =>
((cell h2 (List.length h1) 1).bind (getI .i64)).bind fun n6 =>
(if (n5 != n6) = true then
some ((.bool false), h2)
else
((cell h2 (List.length h) 2).bind (getI .i64)).bind fun n7 =>
((cell h2 (List.length h) 3).bind (getI .i64)).bind fun n8 =>
((cell h2 (List.length h) 4).bind getStr).bind fun s9 =>
((cell h2 (List.length h) 5).bind getS).bind fun l10 =>
((cell h2 (List.length h1) 2).bind (getI .i64)).bind fun n11 =>
((cell h2 (List.length h1) 3).bind (getI .i64)).bind fun n12 =>
((cell h2 (List.length h1) 4).bind getStr).bind fun s13 =>
((cell h2 (List.length h1) 5).bind getS).bind fun l14 =>
(run (Et base) 16 [(.agg #[(.int .i64 n7), (.int .i64 n8), (.string s9), (.slice l10.1 l10.2 l10.2)]), (.agg #[(.int .i64 n11), (.int .i64 n12), (.string s13), (.slice l14.1 l14.2 l14.2)])] h2).bind fun r15 =>
((some r15.1).bind getB).bind fun b16 =>
(if (!b16) = true then
some ((.bool false), r15.2)
else
some ((.bool true), r15.2))))) = some r) : run (Et base) 132 [(.agg #[(.int .i64 v0_0), (.int .i64 v0_1), (.int .i64 v0_2), (.int .i64 v0_3), (.string v0_4), (.slice v0_5 v0_5n v0_5n)]), (.agg #[(.int .i64 v1_0), (.int .i64 v1_1), (.int .i64 v1_2), (.int .i64 v1_3), (.string v1_4), (.slice v1_5 v1_5n v1_5n)])] h = some r := run_i Try.func132 (by kernel_rfl) ((f132_eq base v0_0 v0_1 v0_2 v0_3 v0_4 v0_5 v0_5n v1_0 v1_1 v1_2 v1_3 v1_4 v1_5 v1_5n h).trans hx)
/-! spec.l1Shape (gates 0) -/
theorem f139_eq (base : Nat) (v0_0 : Int) (v0_1 : Int) (v0_2 : ByteArray) (v0_3 : Option Addr) (v0_3n : Nat) (h : AH) : exFun (Et base) (run (Et base)) loopL a139 Try.f139 [(.agg #[(.int .i64 v0_0), (.int .i64 v0_1), (.string v0_2), (.slice v0_3 v0_3n v0_3n)])] h =
((some (h ++ [some ⟨[(.int .i64 v0_0), (.int .i64 v0_1), (.string v0_2), (.slice v0_3 v0_3n v0_3n)], 32⟩])).bind fun h1 =>
((cell h1 (List.length h) 3).bind getS).bind fun l2 =>
((cell h1 (List.length h) 0).bind (getI .i64)).bind fun n3 =>
(if (n3 == (1 : Int)) = true then
((cell h1 (List.length h) 1).bind (getI .i64)).bind fun n4 =>
(run (Et base) 62 [(.int .i64 n4), (.int .i64 (-1000000 : Int)), (.int .i64 (1000000 : Int))] h1).bind fun r5 =>
((some r5.1).bind getB).bind fun b6 =>
(if b6 = true then
((cell r5.2 (List.length h) 2).bind getStr).bind fun s7 =>
(if (s7.toList == (⟨#[]⟩ : ByteArray).toList) = true then
some ((.bool (((l2.2 : Nat) : Int) == (0 : Int))), r5.2)
else
some ((.bool false), r5.2))
else
some ((.bool false), r5.2))
else
(if (n3 == (2 : Int)) = true then
((cell h1 (List.length h) 2).bind getStr).bind fun s8 =>
(run (Et base) 143 [(.string s8)] h1).bind fun r9 =>
((some r9.1).bind getB).bind fun b10 =>
(if b10 = true then
((cell r9.2 (List.length h) 1).bind (getI .i64)).bind fun n11 =>
(if (n11 == (0 : Int)) = true then
some ((.bool (((l2.2 : Nat) : Int) == (0 : Int))), r9.2)
else
some ((.bool false), r9.2))
else
some ((.bool false), r9.2))
else
(if (n3 == (3 : Int)) = true then
((cell h1 (List.length h) 1).bind (getI .i64)).bind fun n12 =>
(run (Et base) 62 [(.int .i64 n12), (.int .i64 (0 : Int)), (.int .i64 (99999 : Int))] h1).bind fun r13 =>
((some r13.1).bind getB).bind fun b14 =>
(if b14 = true then
((cell r13.2 (List.length h) 2).bind getStr).bind fun s15 =>
(if (s15.toList == (⟨#[]⟩ : ByteArray).toList) = true then
some ((.bool (((l2.2 : Nat) : Int) == (0 : Int))), r13.2)
else
some ((.bool false), r13.2))
else
some ((.bool false), r13.2))
else
(if (n3 == (4 : Int)) = true then
((cell h1 (List.length h) 1).bind (getI .i64)).bind fun n16 =>
(if (n16 == (0 : Int)) = true then
((cell h1 (List.length h) 2).bind getStr).bind fun s17 =>
(if (s17.toList == (⟨#[]⟩ : ByteArray).toList) = true then
some ((.bool (decide (((l2.2 : Nat) : Int) ≤ (8 : Int)))), h1)
else
some ((.bool false), h1))
else
some ((.bool false), h1))
else
(if (n3 == (5 : Int)) = true then
((cell h1 (List.length h) 1).bind (getI .i64)).bind fun n18 =>
(if (n18 == (0 : Int)) = true then
((cell h1 (List.length h) 2).bind getStr).bind fun s19 =>
(if (s19.toList == (⟨#[]⟩ : ByteArray).toList) = true then
some ((.bool (decide (((l2.2 : Nat) : Int) ≤ (20 : Int)))), h1)
else
some ((.bool false), h1))
else
some ((.bool false), h1))
else
(if (n3 == (6 : Int)) = true then
((cell h1 (List.length h) 1).bind (getI .i64)).bind fun n20 =>
(if (n20 == (0 : Int)) = true then
((cell h1 (List.length h) 2).bind getStr).bind fun s21 =>
(if (decide ((s21.size : Int) ≤ (40 : Int))) = true then
some ((.bool (((l2.2 : Nat) : Int) == (0 : Int))), h1)
else
some ((.bool false), h1))
else
some ((.bool false), h1))
else
some ((.bool false), h1))))))) : Option (Value × AH)) := by kernel_rfl
theorem r139 {base : Nat} {v0_0 : Int} {v0_1 : Int} {v0_2 : ByteArray} {v0_3 : Option Addr} {v0_3n : Nat} {h : AH} {r : Value × AH} (hx :
((some (h ++ [some ⟨[(.int .i64 v0_0), (.int .i64 v0_1), (.string v0_2), (.slice v0_3 v0_3n v0_3n)], 32⟩])).bind fun h1 =>
((cell h1 (List.length h) 3).bind getS).bind fun l2 =>
((cell h1 (List.length h) 0).bind (getI .i64)).bind fun n3 =>
(if (n3 == (1 : Int)) = true then
((cell h1 (List.length h) 1).bind (getI .i64)).bind fun n4 =>
(run (Et base) 62 [(.int .i64 n4), (.int .i64 (-1000000 : Int)), (.int .i64 (1000000 : Int))] h1).bind fun r5 =>
((some r5.1).bind getB).bind fun b6 =>
(if b6 = true then
((cell r5.2 (List.length h) 2).bind getStr).bind fun s7 =>
(if (s7.toList == (⟨#[]⟩ : ByteArray).toList) = true then
some ((.bool (((l2.2 : Nat) : Int) == (0 : Int))), r5.2)
else
some ((.bool false), r5.2))
else
some ((.bool false), r5.2))
else
(if (n3 == (2 : Int)) = true then
((cell h1 (List.length h) 2).bind getStr).bind fun s8 =>
(run (Et base) 143 [(.string s8)] h1).bind fun r9 =>
((some r9.1).bind getB).bind fun b10 =>
(if b10 = true then
((cell r9.2 (List.length h) 1).bind (getI .i64)).bind fun n11 =>
(if (n11 == (0 : Int)) = true then
some ((.bool (((l2.2 : Nat) : Int) == (0 : Int))), r9.2)
else
some ((.bool false), r9.2))
else
some ((.bool false), r9.2))
else
(if (n3 == (3 : Int)) = true then
((cell h1 (List.length h) 1).bind (getI .i64)).bind fun n12 =>
(run (Et base) 62 [(.int .i64 n12), (.int .i64 (0 : Int)), (.int .i64 (99999 : Int))] h1).bind fun r13 =>
((some r13.1).bind getB).bind fun b14 =>
(if b14 = true then
((cell r13.2 (List.length h) 2).bind getStr).bind fun s15 =>
(if (s15.toList == (⟨#[]⟩ : ByteArray).toList) = true then
some ((.bool (((l2.2 : Nat) : Int) == (0 : Int))), r13.2)
else
some ((.bool false), r13.2))
else
some ((.bool false), r13.2))
else
(if (n3 == (4 : Int)) = true then
((cell h1 (List.length h) 1).bind (getI .i64)).bind fun n16 =>
(if (n16 == (0 : Int)) = true then
((cell h1 (List.length h) 2).bind getStr).bind fun s17 =>
(if (s17.toList == (⟨#[]⟩ : ByteArray).toList) = true then
some ((.bool (decide (((l2.2 : Nat) : Int) ≤ (8 : Int)))), h1)
else
some ((.bool false), h1))
else
some ((.bool false), h1))
else
(if (n3 == (5 : Int)) = true then
((cell h1 (List.length h) 1).bind (getI .i64)).bind fun n18 =>
(if (n18 == (0 : Int)) = true then
((cell h1 (List.length h) 2).bind getStr).bind fun s19 =>
(if (s19.toList == (⟨#[]⟩ : ByteArray).toList) = true then
some ((.bool (decide (((l2.2 : Nat) : Int) ≤ (20 : Int)))), h1)
else
some ((.bool false), h1))
else
some ((.bool false), h1))
else
(if (n3 == (6 : Int)) = true then
((cell h1 (List.length h) 1).bind (getI .i64)).bind fun n20 =>
(if (n20 == (0 : Int)) = true then
((cell h1 (List.length h) 2).bind getStr).bind fun s21 =>
(if (decide ((s21.size : Int) ≤ (40 : Int))) = true then
some ((.bool (((l2.2 : Nat) : Int) == (0 : Int))), h1)
else
some ((.bool false), h1))
else
some ((.bool false), h1))
else
some ((.bool false), h1)))))))) = some r) : run (Et base) 139 [(.agg #[(.int .i64 v0_0), (.int .i64 v0_1), (.string v0_2), (.slice v0_3 v0_3n v0_3n)])] h = some r := run_i Try.func139 (by kernel_rfl) ((f139_eq base v0_0 v0_1 v0_2 v0_3 v0_3n h).trans hx)
/-! impl.fieldsOk (gates 0) -/
theorem f140_eq (base : Nat) (v0_0 : Int) (v0_1 : Int) (v0_2 : ByteArray) (v0_3 : Option Addr) (v0_3n : Nat) (h : AH) : exFun (Et base) (run (Et base)) loopL a140 Try.f140 [(.agg #[(.int .i64 v0_0), (.int .i64 v0_1), (.string v0_2), (.slice v0_3 v0_3n v0_3n)])] h =
((some (h ++ [some ⟨[(.int .i64 v0_0), (.int .i64 v0_1), (.string v0_2), (.slice v0_3 v0_3n v0_3n)], 32⟩])).bind fun h1 =>
((cell h1 (List.length h) 0).bind (getI .i64)).bind fun n2 =>
(if (n2 == (1 : Int)) = true then
((cell h1 (List.length h) 1).bind (getI .i64)).bind fun n3 =>
(run (Et base) 67 [(.int .i64 n3), (.int .i64 (-1000000 : Int)), (.int .i64 (1000000 : Int))] h1).bind fun r4 =>
((some r4.1).bind getB).bind fun b5 =>
(if b5 = true then
((cell r4.2 (List.length h) 2).bind getStr).bind fun s6 =>
(if (s6.toList == (⟨#[]⟩ : ByteArray).toList) = true then
((cell r4.2 (List.length h) 3).bind getS).bind fun l7 =>
some ((.bool (((l7.2 : Nat) : Int) == (0 : Int))), r4.2)
else
some ((.bool false), r4.2))
else
some ((.bool false), r4.2))
else
(if (n2 == (2 : Int)) = true then
((cell h1 (List.length h) 1).bind (getI .i64)).bind fun n8 =>
(if (n8 == (0 : Int)) = true then
((cell h1 (List.length h) 2).bind getStr).bind fun s9 =>
(run (Et base) 147 [(.string s9)] h1).bind fun r10 =>
((some r10.1).bind getB).bind fun b11 =>
(if b11 = true then
((cell r10.2 (List.length h) 3).bind getS).bind fun l12 =>
some ((.bool (((l12.2 : Nat) : Int) == (0 : Int))), r10.2)
else
some ((.bool false), r10.2))
else
some ((.bool false), h1))
else
(if (n2 == (3 : Int)) = true then
((cell h1 (List.length h) 1).bind (getI .i64)).bind fun n13 =>
(run (Et base) 67 [(.int .i64 n13), (.int .i64 (0 : Int)), (.int .i64 (99999 : Int))] h1).bind fun r14 =>
((some r14.1).bind getB).bind fun b15 =>
(if b15 = true then
((cell r14.2 (List.length h) 2).bind getStr).bind fun s16 =>
(if (s16.toList == (⟨#[]⟩ : ByteArray).toList) = true then
((cell r14.2 (List.length h) 3).bind getS).bind fun l17 =>
some ((.bool (((l17.2 : Nat) : Int) == (0 : Int))), r14.2)
else
some ((.bool false), r14.2))
else
some ((.bool false), r14.2))
else
(if (n2 == (4 : Int)) = true then
((cell h1 (List.length h) 1).bind (getI .i64)).bind fun n18 =>
(if (n18 == (0 : Int)) = true then
((cell h1 (List.length h) 2).bind getStr).bind fun s19 =>
(if (s19.toList == (⟨#[]⟩ : ByteArray).toList) = true then
((cell h1 (List.length h) 3).bind getS).bind fun l20 =>
some ((.bool (decide (((l20.2 : Nat) : Int) ≤ (8 : Int)))), h1)
else
some ((.bool false), h1))
else
some ((.bool false), h1))
else
(if (n2 == (5 : Int)) = true then
((cell h1 (List.length h) 1).bind (getI .i64)).bind fun n21 =>
(if (n21 == (0 : Int)) = true then
((cell h1 (List.length h) 2).bind getStr).bind fun s22 =>
(if (s22.toList == (⟨#[]⟩ : ByteArray).toList) = true then
((cell h1 (List.length h) 3).bind getS).bind fun l23 =>
some ((.bool (decide (((l23.2 : Nat) : Int) ≤ (20 : Int)))), h1)
else
some ((.bool false), h1))
else
some ((.bool false), h1))
else
(if (n2 == (6 : Int)) = true then
((cell h1 (List.length h) 1).bind (getI .i64)).bind fun n24 =>
(if (n24 == (0 : Int)) = true then
((cell h1 (List.length h) 2).bind getStr).bind fun s25 =>
(if (decide ((s25.size : Int) ≤ (40 : Int))) = true then
((cell h1 (List.length h) 3).bind getS).bind fun l26 =>
some ((.bool (((l26.2 : Nat) : Int) == (0 : Int))), h1)
else
some ((.bool false), h1))
else
some ((.bool false), h1))
else
some ((.bool false), h1))))))) : Option (Value × AH)) := by kernel_rfl
theorem r140 {base : Nat} {v0_0 : Int} {v0_1 : Int} {v0_2 : ByteArray} {v0_3 : Option Addr} {v0_3n : Nat} {h : AH} {r : Value × AH} (hx :
((some (h ++ [some ⟨[(.int .i64 v0_0), (.int .i64 v0_1), (.string v0_2), (.slice v0_3 v0_3n v0_3n)], 32⟩])).bind fun h1 =>
((cell h1 (List.length h) 0).bind (getI .i64)).bind fun n2 =>
(if (n2 == (1 : Int)) = true then
((cell h1 (List.length h) 1).bind (getI .i64)).bind fun n3 =>
(run (Et base) 67 [(.int .i64 n3), (.int .i64 (-1000000 : Int)), (.int .i64 (1000000 : Int))] h1).bind fun r4 =>
((some r4.1).bind getB).bind fun b5 =>
(if b5 = true then
((cell r4.2 (List.length h) 2).bind getStr).bind fun s6 =>
(if (s6.toList == (⟨#[]⟩ : ByteArray).toList) = true then
((cell r4.2 (List.length h) 3).bind getS).bind fun l7 =>
some ((.bool (((l7.2 : Nat) : Int) == (0 : Int))), r4.2)
else
some ((.bool false), r4.2))
else
some ((.bool false), r4.2))
else
(if (n2 == (2 : Int)) = true then
((cell h1 (List.length h) 1).bind (getI .i64)).bind fun n8 =>
(if (n8 == (0 : Int)) = true then
((cell h1 (List.length h) 2).bind getStr).bind fun s9 =>
(run (Et base) 147 [(.string s9)] h1).bind fun r10 =>
((some r10.1).bind getB).bind fun b11 =>
(if b11 = true then
((cell r10.2 (List.length h) 3).bind getS).bind fun l12 =>
some ((.bool (((l12.2 : Nat) : Int) == (0 : Int))), r10.2)
else
some ((.bool false), r10.2))
else
some ((.bool false), h1))
else
(if (n2 == (3 : Int)) = true then
((cell h1 (List.length h) 1).bind (getI .i64)).bind fun n13 =>
(run (Et base) 67 [(.int .i64 n13), (.int .i64 (0 : Int)), (.int .i64 (99999 : Int))] h1).bind fun r14 =>
((some r14.1).bind getB).bind fun b15 =>
(if b15 = true then
((cell r14.2 (List.length h) 2).bind getStr).bind fun s16 =>
(if (s16.toList == (⟨#[]⟩ : ByteArray).toList) = true then
((cell r14.2 (List.length h) 3).bind getS).bind fun l17 =>
some ((.bool (((l17.2 : Nat) : Int) == (0 : Int))), r14.2)
else
some ((.bool false), r14.2))
else
some ((.bool false), r14.2))
else
(if (n2 == (4 : Int)) = true then
((cell h1 (List.length h) 1).bind (getI .i64)).bind fun n18 =>
(if (n18 == (0 : Int)) = true then
((cell h1 (List.length h) 2).bind getStr).bind fun s19 =>
(if (s19.toList == (⟨#[]⟩ : ByteArray).toList) = true then
((cell h1 (List.length h) 3).bind getS).bind fun l20 =>
some ((.bool (decide (((l20.2 : Nat) : Int) ≤ (8 : Int)))), h1)
else
some ((.bool false), h1))
else
some ((.bool false), h1))
else
(if (n2 == (5 : Int)) = true then
((cell h1 (List.length h) 1).bind (getI .i64)).bind fun n21 =>
(if (n21 == (0 : Int)) = true then
((cell h1 (List.length h) 2).bind getStr).bind fun s22 =>
(if (s22.toList == (⟨#[]⟩ : ByteArray).toList) = true then
((cell h1 (List.length h) 3).bind getS).bind fun l23 =>
some ((.bool (decide (((l23.2 : Nat) : Int) ≤ (20 : Int)))), h1)
else
some ((.bool false), h1))
else
some ((.bool false), h1))
else
(if (n2 == (6 : Int)) = true then
((cell h1 (List.length h) 1).bind (getI .i64)).bind fun n24 =>
(if (n24 == (0 : Int)) = true then
((cell h1 (List.length h) 2).bind getStr).bind fun s25 =>
(if (decide ((s25.size : Int) ≤ (40 : Int))) = true then
((cell h1 (List.length h) 3).bind getS).bind fun l26 =>
some ((.bool (((l26.2 : Nat) : Int) == (0 : Int))), h1)
else
some ((.bool false), h1))
else
some ((.bool false), h1))
else
some ((.bool false), h1)))))))) = some r) : run (Et base) 140 [(.agg #[(.int .i64 v0_0), (.int .i64 v0_1), (.string v0_2), (.slice v0_3 v0_3n v0_3n)])] h = some r := run_i Try.func140 (by kernel_rfl) ((f140_eq base v0_0 v0_1 v0_2 v0_3 v0_3n h).trans hx)
/-! spec.l8Uses (gates 0) -/
theorem f141_eq (base : Nat)  (h : AH) : exFun (Et base) (run (Et base)) loopL a141 Try.f141 [] h =
((some (h ++ [some ⟨[(.string (⟨#[65, 78]⟩ : ByteArray)), (.string (⟨#[65, 83]⟩ : ByteArray)), (.string (⟨#[65, 66]⟩ : ByteArray)), (.string (⟨#[65, 66, 78]⟩ : ByteArray)), (.string (⟨#[65, 66, 67]⟩ : ByteArray)), (.string (⟨#[65, 66, 78]⟩ : ByteArray)), (.string (⟨#[65, 66]⟩ : ByteArray)), (.string (⟨#[65, 66]⟩ : ByteArray)), (.string (⟨#[65, 66, 67]⟩ : ByteArray)), (.string (⟨#[65, 66, 78]⟩ : ByteArray)), (.string (⟨#[65, 66, 78]⟩ : ByteArray)), (.string (⟨#[78]⟩ : ByteArray)), (.string (⟨#[65, 66]⟩ : ByteArray)), (.string (⟨#[65]⟩ : ByteArray)), (.string (⟨#[65]⟩ : ByteArray)), (.string (⟨#[65, 66, 78]⟩ : ByteArray)), (.string (⟨#[65]⟩ : ByteArray)), (.string (⟨#[65]⟩ : ByteArray)), (.string (⟨#[65]⟩ : ByteArray)), (.string (⟨#[65]⟩ : ByteArray))], 9⟩])).bind fun h1 =>
some ((.slice (some ⟨(List.length h), 0, none⟩) 20 20), h1) : Option (Value × AH)) := by kernel_rfl
theorem r141 {base : Nat}  {h : AH} {r : Value × AH} (hx :
((some (h ++ [some ⟨[(.string (⟨#[65, 78]⟩ : ByteArray)), (.string (⟨#[65, 83]⟩ : ByteArray)), (.string (⟨#[65, 66]⟩ : ByteArray)), (.string (⟨#[65, 66, 78]⟩ : ByteArray)), (.string (⟨#[65, 66, 67]⟩ : ByteArray)), (.string (⟨#[65, 66, 78]⟩ : ByteArray)), (.string (⟨#[65, 66]⟩ : ByteArray)), (.string (⟨#[65, 66]⟩ : ByteArray)), (.string (⟨#[65, 66, 67]⟩ : ByteArray)), (.string (⟨#[65, 66, 78]⟩ : ByteArray)), (.string (⟨#[65, 66, 78]⟩ : ByteArray)), (.string (⟨#[78]⟩ : ByteArray)), (.string (⟨#[65, 66]⟩ : ByteArray)), (.string (⟨#[65]⟩ : ByteArray)), (.string (⟨#[65]⟩ : ByteArray)), (.string (⟨#[65, 66, 78]⟩ : ByteArray)), (.string (⟨#[65]⟩ : ByteArray)), (.string (⟨#[65]⟩ : ByteArray)), (.string (⟨#[65]⟩ : ByteArray)), (.string (⟨#[65]⟩ : ByteArray))], 9⟩])).bind fun h1 =>
some ((.slice (some ⟨(List.length h), 0, none⟩) 20 20), h1)) = some r) : run (Et base) 141 [] h = some r := run_i Try.func141 (by kernel_rfl) ((f141_eq base  h).trans hx)
/-! spec.l8Reg (gates 0) -/
theorem f142_eq (base : Nat) (v0 : ByteArray) (v1 : Int) (v2 : Int) (h : AH) : exFun (Et base) (run (Et base)) loopL a142 Try.f142 [(.string v0), (.int .u8 v1), (.int .i64 v2)] h =
((run (Et base) 151 [(.string v0), (.int .u8 v1)] h).bind fun r1 =>
((some r1.1).bind getB).bind fun b2 =>
(if (!b2) = true then
some ((.bool (v2 == (0 : Int))), r1.2)
else
(run (Et base) 62 [(.int .i64 v2), (.int .i64 (0 : Int)), (.int .i64 (7 : Int))] r1.2).bind fun r3 =>
((some r3.1).bind getB).bind fun b4 =>
some ((.bool b4), r3.2)) : Option (Value × AH)) := by kernel_rfl
theorem r142 {base : Nat} {v0 : ByteArray} {v1 : Int} {v2 : Int} {h : AH} {r : Value × AH} (hx :
((run (Et base) 151 [(.string v0), (.int .u8 v1)] h).bind fun r1 =>
((some r1.1).bind getB).bind fun b2 =>
(if (!b2) = true then
some ((.bool (v2 == (0 : Int))), r1.2)
else
(run (Et base) 62 [(.int .i64 v2), (.int .i64 (0 : Int)), (.int .i64 (7 : Int))] r1.2).bind fun r3 =>
((some r3.1).bind getB).bind fun b4 =>
some ((.bool b4), r3.2))) = some r) : run (Et base) 142 [(.string v0), (.int .u8 v1), (.int .i64 v2)] h = some r := run_i Try.func142 (by kernel_rfl) ((f142_eq base v0 v1 v2 h).trans hx)
/-! spec.AtomOk (gates 0) -/
noncomputable def B143_0 (base : Nat) : Body := fun l h => lay s143_0 l fun s => exCode (Et base) (run (Et base)) loopL a143_0 (subC [1, 0, 1, 0, 0] (bodyC Try.f143)) s h (keepK s143_0 e143_0)
theorem B143_0_eq (base : Nat) (v0 : ByteArray) (v3 : Int) (h : AH) : B143_0 base [some (.string v0), some (.int .i64 v3)] h =
((if (decide (v3 < (v0.size : Int))) = true then
(if 0 ≤ v3 ∧ v3 < (v0.size : Int) then
(run (Et base) 62 [(.int .i64 (IntKind.wrap .i64 ((v0.data.toList.getD (Int.toNat v3) 0).toNat : Int))), (.int .i64 (97 : Int)), (.int .i64 (122 : Int))] h).bind fun r1 =>
((some r1.1).bind getB).bind fun b2 =>
((if (!b2) = true then
(if (v3 == (0 : Int)) = true then
some (.inl ([some (.string v0), some (.int .i64 v3), some (.bool true)], r1.2))
else
(if 0 ≤ v3 ∧ v3 < (v0.size : Int) then
(run (Et base) 62 [(.int .i64 (IntKind.wrap .i64 ((v0.data.toList.getD (Int.toNat v3) 0).toNat : Int))), (.int .i64 (48 : Int)), (.int .i64 (57 : Int))] r1.2).bind fun r4 =>
((some r4.1).bind getB).bind fun b5 =>
some (.inl ([some (.string v0), some (.int .i64 v3), some (.bool (!b5))], r4.2))
else none))
else
some (.inl ([some (.string v0), some (.int .i64 v3), some (.bool false)], r1.2)))).bind fun j3 => joinK j3 fun j3 =>
((sget j3.1 0).bind getStr).bind fun s6 =>
((sget (j3.1.tail) 0).bind (getI .i64)).bind fun n7 =>
((sget (j3.1.tail.tail) 0).bind getB).bind fun b8 =>
(if b8 = true then
some (1, [some (.bool false)], j3.2)
else
some (0, [some (.string s6), some (.int .i64 (IntKind.wrap .i64 (n7 + (1 : Int))))], j3.2))
else none)
else
some (2, [some (.string v0)], h)) : Option (Nat × Slots × AH)) := by kernel_rfl
theorem f143_eq (base : Nat) (v0 : ByteArray) (h : AH) : exFun (Et base) (run (Et base)) loopL a143 Try.f143 [(.string v0)] h =
((loopL (B143_0 base) [some (.string v0), some (.int .i64 (0 : Int))] h).bind fun q1 =>
(if q1.1 = 1 then
((sget q1.2.1 0).bind getB).bind fun b2 =>
some ((.bool b2), q1.2.2)
else
(if q1.1 = 2 then
((sget q1.2.1 0).bind getStr).bind fun s3 =>
(run (Et base) 62 [(.int .i64 (s3.size : Int)), (.int .i64 (1 : Int)), (.int .i64 (12 : Int))] q1.2.2).bind fun r4 =>
((some r4.1).bind getB).bind fun b5 =>
some ((.bool b5), r4.2)
else
none)) : Option (Value × AH)) := by kernel_rfl
theorem r143 {base : Nat} {v0 : ByteArray} {h : AH} {r : Value × AH} (hx :
((loopL (B143_0 base) [some (.string v0), some (.int .i64 (0 : Int))] h).bind fun q1 =>
(if q1.1 = 1 then
((sget q1.2.1 0).bind getB).bind fun b2 =>
some ((.bool b2), q1.2.2)
else
(if q1.1 = 2 then
((sget q1.2.1 0).bind getStr).bind fun s3 =>
(run (Et base) 62 [(.int .i64 (s3.size : Int)), (.int .i64 (1 : Int)), (.int .i64 (12 : Int))] q1.2.2).bind fun r4 =>
((some r4.1).bind getB).bind fun b5 =>
some ((.bool b5), r4.2)
else
none))) = some r) : run (Et base) 143 [(.string v0)] h = some r := run_i Try.func143 (by kernel_rfl) ((f143_eq base v0 h).trans hx)
/-! spec.l8Num (gates 0) -/
theorem f144_eq (base : Nat) (v0_0 : Int) (v0_1 : Int) (v0_2 : Int) (v0_3 : Int) (v0_4 : Int) (v0_5 : ByteArray) (v1 : Int) (h : AH) : exFun (Et base) (run (Et base)) loopL a144 Try.f144 [(.agg #[(.int .i64 v0_0), (.int .i64 v0_1), (.int .i64 v0_2), (.int .i64 v0_3), (.int .i64 v0_4), (.string v0_5)]), (.int .i64 v1)] h =
((some (h ++ [some ⟨[(.int .i64 v0_0), (.int .i64 v0_1), (.int .i64 v0_2), (.int .i64 v0_3), (.int .i64 v0_4), (.string v0_5)], 116⟩])).bind fun h1 =>
((cell h1 (List.length h) 0).bind (getI .i64)).bind fun n2 =>
(if (n2 == (1 : Int)) = true then
((cell h1 (List.length h) 4).bind (getI .i64)).bind fun n3 =>
(run (Et base) 62 [(.int .i64 n3), (.int .i64 (-1000000 : Int)), (.int .i64 (1000000 : Int))] h1).bind fun r4 =>
((some r4.1).bind getB).bind fun b5 =>
some ((.bool b5), r4.2)
else
(if (n2 == (4 : Int)) = true then
((cell h1 (List.length h) 4).bind (getI .i64)).bind fun n6 =>
(run (Et base) 62 [(.int .i64 n6), (.int .i64 (0 : Int)), (.int .i64 (8 : Int))] h1).bind fun r7 =>
((some r7.1).bind getB).bind fun b8 =>
(if b8 = true then
((cell r7.2 (List.length h) 2).bind (getI .i64)).bind fun n9 =>
((cell r7.2 (List.length h) 4).bind (getI .i64)).bind fun n10 =>
some ((.bool (decide ((IntKind.wrap .i64 (n9 + n10)) ≤ (8 : Int)))), r7.2)
else
some ((.bool false), r7.2))
else
(if (n2 == (6 : Int)) = true then
((cell h1 (List.length h) 4).bind (getI .i64)).bind fun n11 =>
(run (Et base) 62 [(.int .i64 n11), (.int .i64 (0 : Int)), (.int .i64 (7 : Int))] h1).bind fun r12 =>
((some r12.1).bind getB).bind fun b13 =>
some ((.bool b13), r12.2)
else
((if (n2 == (10 : Int)) = true then
some (.inl ([some (.int .i64 v1), some (.pointer (some ⟨(List.length h), 0, none⟩)), some (.bool (n2 == (10 : Int)))], h1))
else
(if (n2 == (11 : Int)) = true then
some (.inl ([some (.int .i64 v1), some (.pointer (some ⟨(List.length h), 0, none⟩)), some (.bool (n2 == (11 : Int)))], h1))
else
(if (n2 == (12 : Int)) = true then
some (.inl ([some (.int .i64 v1), some (.pointer (some ⟨(List.length h), 0, none⟩)), some (.bool (n2 == (12 : Int)))], h1))
else
some (.inl ([some (.int .i64 v1), some (.pointer (some ⟨(List.length h), 0, none⟩)), some (.bool (n2 == (16 : Int)))], h1)))))).bind fun j14 => joinK j14 fun j14 =>
((sget j14.1 0).bind (getI .i64)).bind fun n15 =>
((sget (j14.1.tail) 0).bind getA).bind fun d16 =>
((sget (j14.1.tail.tail) 0).bind getB).bind fun b17 =>
(if b17 = true then
((cell j14.2 d16.block (d16.off + 4)).bind (getI .i64)).bind fun n18 =>
(if (decide (n18 ≥ (0 : Int))) = true then
((cell j14.2 d16.block (d16.off + 4)).bind (getI .i64)).bind fun n19 =>
some ((.bool (decide (n19 < n15))), j14.2)
else
some ((.bool false), j14.2))
else
((cell j14.2 d16.block (d16.off + 4)).bind (getI .i64)).bind fun n20 =>
some ((.bool (n20 == (0 : Int))), j14.2))))) : Option (Value × AH)) := by kernel_rfl
theorem r144 {base : Nat} {v0_0 : Int} {v0_1 : Int} {v0_2 : Int} {v0_3 : Int} {v0_4 : Int} {v0_5 : ByteArray} {v1 : Int} {h : AH} {r : Value × AH} (hx :
((some (h ++ [some ⟨[(.int .i64 v0_0), (.int .i64 v0_1), (.int .i64 v0_2), (.int .i64 v0_3), (.int .i64 v0_4), (.string v0_5)], 116⟩])).bind fun h1 =>
((cell h1 (List.length h) 0).bind (getI .i64)).bind fun n2 =>
(if (n2 == (1 : Int)) = true then
((cell h1 (List.length h) 4).bind (getI .i64)).bind fun n3 =>
(run (Et base) 62 [(.int .i64 n3), (.int .i64 (-1000000 : Int)), (.int .i64 (1000000 : Int))] h1).bind fun r4 =>
((some r4.1).bind getB).bind fun b5 =>
some ((.bool b5), r4.2)
else
(if (n2 == (4 : Int)) = true then
((cell h1 (List.length h) 4).bind (getI .i64)).bind fun n6 =>
(run (Et base) 62 [(.int .i64 n6), (.int .i64 (0 : Int)), (.int .i64 (8 : Int))] h1).bind fun r7 =>
((some r7.1).bind getB).bind fun b8 =>
(if b8 = true then
((cell r7.2 (List.length h) 2).bind (getI .i64)).bind fun n9 =>
((cell r7.2 (List.length h) 4).bind (getI .i64)).bind fun n10 =>
some ((.bool (decide ((IntKind.wrap .i64 (n9 + n10)) ≤ (8 : Int)))), r7.2)
else
some ((.bool false), r7.2))
else
(if (n2 == (6 : Int)) = true then
((cell h1 (List.length h) 4).bind (getI .i64)).bind fun n11 =>
(run (Et base) 62 [(.int .i64 n11), (.int .i64 (0 : Int)), (.int .i64 (7 : Int))] h1).bind fun r12 =>
((some r12.1).bind getB).bind fun b13 =>
some ((.bool b13), r12.2)
else
((if (n2 == (10 : Int)) = true then
some (.inl ([some (.int .i64 v1), some (.pointer (some ⟨(List.length h), 0, none⟩)), some (.bool (n2 == (10 : Int)))], h1))
else
(if (n2 == (11 : Int)) = true then
some (.inl ([some (.int .i64 v1), some (.pointer (some ⟨(List.length h), 0, none⟩)), some (.bool (n2 == (11 : Int)))], h1))
else
(if (n2 == (12 : Int)) = true then
some (.inl ([some (.int .i64 v1), some (.pointer (some ⟨(List.length h), 0, none⟩)), some (.bool (n2 == (12 : Int)))], h1))
else
some (.inl ([some (.int .i64 v1), some (.pointer (some ⟨(List.length h), 0, none⟩)), some (.bool (n2 == (16 : Int)))], h1)))))).bind fun j14 => joinK j14 fun j14 =>
((sget j14.1 0).bind (getI .i64)).bind fun n15 =>
((sget (j14.1.tail) 0).bind getA).bind fun d16 =>
((sget (j14.1.tail.tail) 0).bind getB).bind fun b17 =>
(if b17 = true then
((cell j14.2 d16.block (d16.off + 4)).bind (getI .i64)).bind fun n18 =>
(if (decide (n18 ≥ (0 : Int))) = true then
((cell j14.2 d16.block (d16.off + 4)).bind (getI .i64)).bind fun n19 =>
some ((.bool (decide (n19 < n15))), j14.2)
else
some ((.bool false), j14.2))
else
((cell j14.2 d16.block (d16.off + 4)).bind (getI .i64)).bind fun n20 =>
some ((.bool (n20 == (0 : Int))), j14.2)))))) = some r) : run (Et base) 144 [(.agg #[(.int .i64 v0_0), (.int .i64 v0_1), (.int .i64 v0_2), (.int .i64 v0_3), (.int .i64 v0_4), (.string v0_5)]), (.int .i64 v1)] h = some r := run_i Try.func144 (by kernel_rfl) ((f144_eq base v0_0 v0_1 v0_2 v0_3 v0_4 v0_5 v1 h).trans hx)
end Go.Proofs.Ytnmjhhipbfngkaa.Am
