/- What each of these functions comes to on the abstract machine, one equation a function and one a loop.
Conditions: none. -/
import Derived.Test.YtolcnednfbbnnaaTb
set_option linter.unusedVariables false
set_option maxRecDepth 100000
namespace Go.Proofs.Ytolcnednfbbnnaa.Am
open Go Go.RowKit
/-! impl.ActorOk (gates 0) -/
theorem f33_eq (base : Nat) (v0 : Option Addr) (v0n : Nat) (v1_0 : Int) (v1_1 : Int) (v1_2 : Option Addr) (v1_2n : Nat) (v1_3 : Option Addr) (v1_3n : Nat) (v1_4 : Option Addr) (v1_4n : Nat) (h : AH) : exFun (Et base) (run (Et base)) loopL a33 Try.f33 [(.slice v0 v0n v0n), (.agg #[(.int .i64 v1_0), (.int .i64 v1_1), (.slice v1_2 v1_2n v1_2n), (.slice v1_3 v1_3n v1_3n), (.slice v1_4 v1_4n v1_4n)])] h =
((some (h ++ [some ⟨[(.int .i64 v1_0), (.int .i64 v1_1), (.slice v1_2 v1_2n v1_2n), (.slice v1_3 v1_3n v1_3n), (.slice v1_4 v1_4n v1_4n)], 52⟩])).bind fun h1 =>
(run (Et base) 83 [(.slice v0 v0n v0n)] h1).bind fun r2 =>
((some r2.1).bind getB).bind fun b3 =>
(if b3 = true then
((cell r2.2 (List.length h) 0).bind (getI .i64)).bind fun n4 =>
(run (Et base) 66 [(.int .i64 n4), (.int .i64 (1 : Int)), (.int .i64 (99999 : Int))] r2.2).bind fun r5 =>
((some r5.1).bind getB).bind fun b6 =>
(if b6 = true then
((cell r5.2 (List.length h) 1).bind (getI .i64)).bind fun n7 =>
(run (Et base) 66 [(.int .i64 n7), (.int .i64 (0 : Int)), (.int .i64 (IntKind.wrap .i64 (((v0n : Nat) : Int) - (1 : Int))))] r5.2).bind fun r8 =>
((some r8.1).bind getB).bind fun b9 =>
(if b9 = true then
((cell r8.2 (List.length h) 2).bind getS).bind fun l10 =>
(if (((l10.2 : Nat) : Int) == (8 : Int)) = true then
((cell r8.2 (List.length h) 2).bind getS).bind fun l11 =>
(run (Et base) 84 [(.slice l11.1 l11.2 l11.2)] r8.2).bind fun r12 =>
((some r12.1).bind getB).bind fun b13 =>
(if b13 = true then
((cell r12.2 (List.length h) 3).bind getS).bind fun l14 =>
(if (decide (((l14.2 : Nat) : Int) ≤ (30 : Int))) = true then
((cell r12.2 (List.length h) 3).bind getS).bind fun l15 =>
(run (Et base) 84 [(.slice l15.1 l15.2 l15.2)] r12.2).bind fun r16 =>
((some r16.1).bind getB).bind fun b17 =>
(if b17 = true then
((cell r16.2 (List.length h) 4).bind getS).bind fun l18 =>
((cell r16.2 (List.length h) 0).bind (getI .i64)).bind fun n19 =>
(run (Et base) 85 [(.slice l18.1 l18.2 l18.2), (.int .i64 n19)] r16.2).bind fun r20 =>
((some r20.1).bind getB).bind fun b21 =>
some ((.bool b21), r20.2)
else
some ((.bool false), r16.2))
else
some ((.bool false), r12.2))
else
some ((.bool false), r12.2))
else
some ((.bool false), r8.2))
else
some ((.bool false), r8.2))
else
some ((.bool false), r5.2))
else
some ((.bool false), r2.2)) : Option (Value × AH)) := by kernel_rfl
theorem r33 {base : Nat} {v0 : Option Addr} {v0n : Nat} {v1_0 : Int} {v1_1 : Int} {v1_2 : Option Addr} {v1_2n : Nat} {v1_3 : Option Addr} {v1_3n : Nat} {v1_4 : Option Addr} {v1_4n : Nat} {h : AH} {r : Value × AH} (hx :
((some (h ++ [some ⟨[(.int .i64 v1_0), (.int .i64 v1_1), (.slice v1_2 v1_2n v1_2n), (.slice v1_3 v1_3n v1_3n), (.slice v1_4 v1_4n v1_4n)], 52⟩])).bind fun h1 =>
(run (Et base) 83 [(.slice v0 v0n v0n)] h1).bind fun r2 =>
((some r2.1).bind getB).bind fun b3 =>
(if b3 = true then
((cell r2.2 (List.length h) 0).bind (getI .i64)).bind fun n4 =>
(run (Et base) 66 [(.int .i64 n4), (.int .i64 (1 : Int)), (.int .i64 (99999 : Int))] r2.2).bind fun r5 =>
((some r5.1).bind getB).bind fun b6 =>
(if b6 = true then
((cell r5.2 (List.length h) 1).bind (getI .i64)).bind fun n7 =>
(run (Et base) 66 [(.int .i64 n7), (.int .i64 (0 : Int)), (.int .i64 (IntKind.wrap .i64 (((v0n : Nat) : Int) - (1 : Int))))] r5.2).bind fun r8 =>
((some r8.1).bind getB).bind fun b9 =>
(if b9 = true then
((cell r8.2 (List.length h) 2).bind getS).bind fun l10 =>
(if (((l10.2 : Nat) : Int) == (8 : Int)) = true then
((cell r8.2 (List.length h) 2).bind getS).bind fun l11 =>
(run (Et base) 84 [(.slice l11.1 l11.2 l11.2)] r8.2).bind fun r12 =>
((some r12.1).bind getB).bind fun b13 =>
(if b13 = true then
((cell r12.2 (List.length h) 3).bind getS).bind fun l14 =>
(if (decide (((l14.2 : Nat) : Int) ≤ (30 : Int))) = true then
((cell r12.2 (List.length h) 3).bind getS).bind fun l15 =>
(run (Et base) 84 [(.slice l15.1 l15.2 l15.2)] r12.2).bind fun r16 =>
((some r16.1).bind getB).bind fun b17 =>
(if b17 = true then
((cell r16.2 (List.length h) 4).bind getS).bind fun l18 =>
((cell r16.2 (List.length h) 0).bind (getI .i64)).bind fun n19 =>
(run (Et base) 85 [(.slice l18.1 l18.2 l18.2), (.int .i64 n19)] r16.2).bind fun r20 =>
((some r20.1).bind getB).bind fun b21 =>
some ((.bool b21), r20.2)
else
some ((.bool false), r16.2))
else
some ((.bool false), r12.2))
else
some ((.bool false), r12.2))
else
some ((.bool false), r8.2))
else
some ((.bool false), r8.2))
else
some ((.bool false), r5.2))
else
some ((.bool false), r2.2))) = some r) : run (Et base) 33 [(.slice v0 v0n v0n), (.agg #[(.int .i64 v1_0), (.int .i64 v1_1), (.slice v1_2 v1_2n v1_2n), (.slice v1_3 v1_3n v1_3n), (.slice v1_4 v1_4n v1_4n)])] h = some r := run_i Try.func33 (by kernel_rfl) ((f33_eq base v0 v0n v1_0 v1_1 v1_2 v1_2n v1_3 v1_3n v1_4 v1_4n h).trans hx)
/-! impl.PlainOk (gates 0) -/
noncomputable def B34_1 (base : Nat) : Body := fun l h => lay s34_1 l fun s => exCode (Et base) (run (Et base)) loopL a34_1 (subC [1, 1, 0, 1, 0, 0, 1, 1, 0, 0, 1, 1, 1, 0, 0] (bodyC Try.f34)) s h (keepK s34_1 e34_1)
noncomputable def B34_0 (base : Nat) : Body := fun l h => lay s34_0 l fun s => exCode (Et base) (run (Et base)) loopL a34_0 (subC [1, 1, 0, 1, 0, 0] (bodyC Try.f34)) s h (keepK s34_0 e34_0)
theorem B34_1_eq (base : Nat) (v1 : Addr) (v4 : Addr) (v31 : Option Addr) (v31n : Nat) (v32 : Int) (v33 : Int) (v67 : Option Addr) (v67n : Nat) (v68 : Int) (v69 : Int) (h : AH) : B34_1 base [some (.pointer (some v1)), some (.pointer (some v4)), some (.slice v31 v31n v31n), some (.int .i64 v32), some (.int .i64 v33), some (.slice v67 v67n v67n), some (.int .i64 v68), some (.int .i64 v69)] h =
((if (decide (v69 < v68)) = true then
(if 0 ≤ v69 ∧ v69 < ((v67n : Nat) : Int) then
((v67 : Option Addr)).bind fun a1 =>
((cell h a1.block (a1.off + Int.toNat v69 * 1)).bind (getI .i64)).bind fun n2 =>
(run (Et base) 87 [(.pointer (some v1)), (.int .i64 n2)] h).bind fun r3 =>
((some r3.1).bind (getI .i64)).bind fun n4 =>
((if (decide (n4 ≥ (0 : Int))) = true then
((cell r3.2 v1.block (v1.off + 1)).bind getS).bind fun l6 =>
(if 0 ≤ n4 ∧ n4 < ((l6.2 : Nat) : Int) then
((l6.1 : Option Addr)).bind fun a7 =>
((cell r3.2 a7.block ((a7.off + Int.toNat n4 * 5) + 4)).bind getS).bind fun l8 =>
((cell r3.2 v4.block (v4.off + 0)).bind (getI .i64)).bind fun n9 =>
(run (Et base) 88 [(.slice l8.1 l8.2 l8.2), (.int .i64 n9)] r3.2).bind fun r10 =>
((some r10.1).bind getB).bind fun b11 =>
some (.inl ([some (.pointer (some v1)), some (.pointer (some v4)), some (.slice v31 v31n v31n), some (.int .i64 v32), some (.int .i64 v33), some (.slice v67 v67n v67n), some (.int .i64 v68), some (.int .i64 v69), some (.bool (!b11))], r10.2))
else none)
else
some (.inl ([some (.pointer (some v1)), some (.pointer (some v4)), some (.slice v31 v31n v31n), some (.int .i64 v32), some (.int .i64 v33), some (.slice v67 v67n v67n), some (.int .i64 v68), some (.int .i64 v69), some (.bool false)], r3.2)))).bind fun j5 => joinK j5 fun j5 =>
((sget j5.1 0).bind getA).bind fun d12 =>
((sget (j5.1.tail) 0).bind getA).bind fun d13 =>
((sget (j5.1.tail.tail) 0).bind getS).bind fun l14 =>
((sget (j5.1.tail.tail.tail) 0).bind (getI .i64)).bind fun n15 =>
((sget (j5.1.tail.tail.tail.tail) 0).bind (getI .i64)).bind fun n16 =>
((sget (j5.1.tail.tail.tail.tail.tail) 0).bind getS).bind fun l17 =>
((sget (j5.1.tail.tail.tail.tail.tail.tail) 0).bind (getI .i64)).bind fun n18 =>
((sget (j5.1.tail.tail.tail.tail.tail.tail.tail) 0).bind (getI .i64)).bind fun n19 =>
((sget (j5.1.tail.tail.tail.tail.tail.tail.tail.tail) 0).bind getB).bind fun b20 =>
(if b20 = true then
some (1, [some (.bool false)], j5.2)
else
some (0, [some (.pointer (some d12)), some (.pointer (some d13)), some (.slice l14.1 l14.2 l14.2), some (.int .i64 n15), some (.int .i64 n16), some (.slice l17.1 l17.2 l17.2), some (.int .i64 n18), some (.int .i64 (IntKind.wrap .i64 (n19 + (1 : Int))))], j5.2))
else none)
else
some (4, [some (.pointer (some v1)), some (.slice v31 v31n v31n), some (.int .i64 v32), some (.int .i64 v33)], h)) : Option (Nat × Slots × AH)) := by kernel_rfl
theorem B34_0_eq (base : Nat) (v1 : Addr) (v31 : Option Addr) (v31n : Nat) (v32 : Int) (v33 : Int) (h : AH) : B34_0 base [some (.pointer (some v1)), some (.slice v31 v31n v31n), some (.int .i64 v32), some (.int .i64 v33)] h =
((if (decide (v33 < v32)) = true then
(if 0 ≤ v33 ∧ v33 < ((v31n : Nat) : Int) then
((v31 : Option Addr)).bind fun a1 =>
((cell h a1.block (a1.off + Int.toNat v33 * 5)).bind (getI .i64)).bind fun n2 =>
((cell h a1.block ((a1.off + Int.toNat v33 * 5) + 1)).bind (getI .i64)).bind fun n3 =>
((cell h a1.block (((a1.off + Int.toNat v33 * 5) + 1) + 1)).bind getS).bind fun l4 =>
((cell h a1.block ((((a1.off + Int.toNat v33 * 5) + 1) + 1) + 1)).bind getS).bind fun l5 =>
((cell h a1.block (((((a1.off + Int.toNat v33 * 5) + 1) + 1) + 1) + 1)).bind getS).bind fun l6 =>
(some (h ++ [some ⟨[(.int .i64 0), (.int .i64 0), (.slice none 0 0), (.slice none 0 0), (.slice none 0 0)], 52⟩])).bind fun h7 =>
(wr base h7 (List.length h) 0 [(.int .i64 n2), (.int .i64 n3), (.slice l4.1 l4.2 l4.2), (.slice l5.1 l5.2 l5.2), (.slice l6.1 l6.2 l6.2)]).bind fun h8 =>
(((cell h8 v1.block (v1.off + 0)).bind getS).bind fun l10 =>
((cell h8 (List.length h) 0).bind (getI .i64)).bind fun n11 =>
((cell h8 (List.length h) 1).bind (getI .i64)).bind fun n12 =>
((cell h8 (List.length h) 2).bind getS).bind fun l13 =>
((cell h8 (List.length h) 3).bind getS).bind fun l14 =>
((cell h8 (List.length h) 4).bind getS).bind fun l15 =>
(run (Et base) 33 [(.slice l10.1 l10.2 l10.2), (.agg #[(.int .i64 n11), (.int .i64 n12), (.slice l13.1 l13.2 l13.2), (.slice l14.1 l14.2 l14.2), (.slice l15.1 l15.2 l15.2)])] h8).bind fun r16 =>
((some r16.1).bind getB).bind fun b17 =>
(if (!b17) = true then
some (.inl ([some (.pointer (some v1)), some (.pointer (some ⟨(List.length h), 0, none⟩)), some (.slice v31 v31n v31n), some (.int .i64 v32), some (.int .i64 v33), some (.bool true)], r16.2))
else
((cell r16.2 (List.length h) 0).bind (getI .i64)).bind fun n18 =>
((cell r16.2 v1.block (v1.off + 2)).bind (getI .i64)).bind fun n19 =>
(if (decide (n18 ≥ n19)) = true then
some (.inl ([some (.pointer (some v1)), some (.pointer (some ⟨(List.length h), 0, none⟩)), some (.slice v31 v31n v31n), some (.int .i64 v32), some (.int .i64 v33), some (.bool true)], r16.2))
else
(if (decide (v33 > (0 : Int))) = true then
((cell r16.2 v1.block (v1.off + 1)).bind getS).bind fun l20 =>
(if 0 ≤ (IntKind.wrap .i64 (v33 - (1 : Int))) ∧ (IntKind.wrap .i64 (v33 - (1 : Int))) < ((l20.2 : Nat) : Int) then
((l20.1 : Option Addr)).bind fun a21 =>
((cell r16.2 a21.block ((a21.off + Int.toNat (IntKind.wrap .i64 (v33 - (1 : Int))) * 5) + 0)).bind (getI .i64)).bind fun n22 =>
((cell r16.2 (List.length h) 0).bind (getI .i64)).bind fun n23 =>
some (.inl ([some (.pointer (some v1)), some (.pointer (some ⟨(List.length h), 0, none⟩)), some (.slice v31 v31n v31n), some (.int .i64 v32), some (.int .i64 v33), some (.bool (decide (n22 ≥ n23)))], r16.2))
else none)
else
some (.inl ([some (.pointer (some v1)), some (.pointer (some ⟨(List.length h), 0, none⟩)), some (.slice v31 v31n v31n), some (.int .i64 v32), some (.int .i64 v33), some (.bool false)], r16.2)))))).bind fun j9 => joinK j9 fun j9 =>
((sget j9.1 0).bind getA).bind fun d24 =>
((sget (j9.1.tail) 0).bind getA).bind fun d25 =>
((sget (j9.1.tail.tail) 0).bind getS).bind fun l26 =>
((sget (j9.1.tail.tail.tail) 0).bind (getI .i64)).bind fun n27 =>
((sget (j9.1.tail.tail.tail.tail) 0).bind (getI .i64)).bind fun n28 =>
((sget (j9.1.tail.tail.tail.tail.tail) 0).bind getB).bind fun b29 =>
(if b29 = true then
some (1, [some (.bool false)], j9.2)
else
((cell j9.2 d25.block (d25.off + 4)).bind getS).bind fun l30 =>
(loopL (B34_1 base) [some (.pointer (some d24)), some (.pointer (some d25)), some (.slice l26.1 l26.2 l26.2), some (.int .i64 n27), some (.int .i64 n28), some (.slice l30.1 l30.2 l30.2), some (.int .i64 ((l30.2 : Nat) : Int)), some (.int .i64 (0 : Int))] j9.2).bind fun q31 =>
(if q31.1 = 1 then
((sget q31.2.1 0).bind getB).bind fun b32 =>
some (1, [some (.bool b32)], q31.2.2)
else
(if q31.1 = 4 then
((sget q31.2.1 0).bind getA).bind fun d33 =>
((sget (q31.2.1.tail) 0).bind getS).bind fun l34 =>
((sget (q31.2.1.tail.tail) 0).bind (getI .i64)).bind fun n35 =>
((sget (q31.2.1.tail.tail.tail) 0).bind (getI .i64)).bind fun n36 =>
some (0, [some (.pointer (some d33)), some (.slice l34.1 l34.2 l34.2), some (.int .i64 n35), some (.int .i64 (IntKind.wrap .i64 (n36 + (1 : Int))))], q31.2.2)
else
none)))
else none)
else
some (2, [], h)) : Option (Nat × Slots × AH)) := by kernel_rfl
theorem f34_eq (base : Nat) (v0_0 : Option Addr) (v0_0n : Nat) (v0_1 : Option Addr) (v0_1n : Nat) (v0_2 : Int) (v0_3 : Option Addr) (v0_3n : Nat) (h : AH) : exFun (Et base) (run (Et base)) loopL a34 Try.f34 [(.agg #[(.slice v0_0 v0_0n v0_0n), (.slice v0_1 v0_1n v0_1n), (.int .i64 v0_2), (.slice v0_3 v0_3n v0_3n)])] h =
((some (h ++ [some ⟨[(.slice v0_0 v0_0n v0_0n), (.slice v0_1 v0_1n v0_1n), (.int .i64 v0_2), (.slice v0_3 v0_3n v0_3n)], 32⟩])).bind fun h1 =>
(((cell h1 (List.length h) 0).bind getS).bind fun l3 =>
(run (Et base) 83 [(.slice l3.1 l3.2 l3.2)] h1).bind fun r4 =>
((some r4.1).bind getB).bind fun b5 =>
(if (!b5) = true then
some (.inl ([some (.pointer (some ⟨(List.length h), 0, none⟩)), some (.bool true)], r4.2))
else
((cell r4.2 (List.length h) 1).bind getS).bind fun l6 =>
(if (decide (((l6.2 : Nat) : Int) > (20 : Int))) = true then
some (.inl ([some (.pointer (some ⟨(List.length h), 0, none⟩)), some (.bool true)], r4.2))
else
((cell r4.2 (List.length h) 2).bind (getI .i64)).bind fun n7 =>
(run (Et base) 66 [(.int .i64 n7), (.int .i64 (1 : Int)), (.int .i64 (90000 : Int))] r4.2).bind fun r8 =>
((some r8.1).bind getB).bind fun b9 =>
(if (!b9) = true then
some (.inl ([some (.pointer (some ⟨(List.length h), 0, none⟩)), some (.bool true)], r8.2))
else
((cell r8.2 (List.length h) 3).bind getS).bind fun l10 =>
(run (Et base) 86 [(.slice l10.1 l10.2 l10.2)] r8.2).bind fun r11 =>
((some r11.1).bind getB).bind fun b12 =>
some (.inl ([some (.pointer (some ⟨(List.length h), 0, none⟩)), some (.bool (!b12))], r11.2)))))).bind fun j2 => joinK j2 fun j2 =>
((sget j2.1 0).bind getA).bind fun d13 =>
((sget (j2.1.tail) 0).bind getB).bind fun b14 =>
(if b14 = true then
some ((.bool false), j2.2)
else
((cell j2.2 d13.block (d13.off + 1)).bind getS).bind fun l15 =>
(loopL (B34_0 base) [some (.pointer (some d13)), some (.slice l15.1 l15.2 l15.2), some (.int .i64 ((l15.2 : Nat) : Int)), some (.int .i64 (0 : Int))] j2.2).bind fun q16 =>
(if q16.1 = 1 then
((sget q16.2.1 0).bind getB).bind fun b17 =>
some ((.bool b17), q16.2.2)
else
(if q16.1 = 2 then
some ((.bool true), q16.2.2)
else
none))) : Option (Value × AH)) := by kernel_rfl
theorem r34 {base : Nat} {v0_0 : Option Addr} {v0_0n : Nat} {v0_1 : Option Addr} {v0_1n : Nat} {v0_2 : Int} {v0_3 : Option Addr} {v0_3n : Nat} {h : AH} {r : Value × AH} (hx :
((some (h ++ [some ⟨[(.slice v0_0 v0_0n v0_0n), (.slice v0_1 v0_1n v0_1n), (.int .i64 v0_2), (.slice v0_3 v0_3n v0_3n)], 32⟩])).bind fun h1 =>
(((cell h1 (List.length h) 0).bind getS).bind fun l3 =>
(run (Et base) 83 [(.slice l3.1 l3.2 l3.2)] h1).bind fun r4 =>
((some r4.1).bind getB).bind fun b5 =>
(if (!b5) = true then
some (.inl ([some (.pointer (some ⟨(List.length h), 0, none⟩)), some (.bool true)], r4.2))
else
((cell r4.2 (List.length h) 1).bind getS).bind fun l6 =>
(if (decide (((l6.2 : Nat) : Int) > (20 : Int))) = true then
some (.inl ([some (.pointer (some ⟨(List.length h), 0, none⟩)), some (.bool true)], r4.2))
else
((cell r4.2 (List.length h) 2).bind (getI .i64)).bind fun n7 =>
(run (Et base) 66 [(.int .i64 n7), (.int .i64 (1 : Int)), (.int .i64 (90000 : Int))] r4.2).bind fun r8 =>
((some r8.1).bind getB).bind fun b9 =>
(if (!b9) = true then
some (.inl ([some (.pointer (some ⟨(List.length h), 0, none⟩)), some (.bool true)], r8.2))
else
((cell r8.2 (List.length h) 3).bind getS).bind fun l10 =>
(run (Et base) 86 [(.slice l10.1 l10.2 l10.2)] r8.2).bind fun r11 =>
((some r11.1).bind getB).bind fun b12 =>
some (.inl ([some (.pointer (some ⟨(List.length h), 0, none⟩)), some (.bool (!b12))], r11.2)))))).bind fun j2 => joinK j2 fun j2 =>
((sget j2.1 0).bind getA).bind fun d13 =>
((sget (j2.1.tail) 0).bind getB).bind fun b14 =>
(if b14 = true then
some ((.bool false), j2.2)
else
((cell j2.2 d13.block (d13.off + 1)).bind getS).bind fun l15 =>
(loopL (B34_0 base) [some (.pointer (some d13)), some (.slice l15.1 l15.2 l15.2), some (.int .i64 ((l15.2 : Nat) : Int)), some (.int .i64 (0 : Int))] j2.2).bind fun q16 =>
(if q16.1 = 1 then
((sget q16.2.1 0).bind getB).bind fun b17 =>
some ((.bool b17), q16.2.2)
else
(if q16.1 = 2 then
some ((.bool true), q16.2.2)
else
none)))) = some r) : run (Et base) 34 [(.agg #[(.slice v0_0 v0_0n v0_0n), (.slice v0_1 v0_1n v0_1n), (.int .i64 v0_2), (.slice v0_3 v0_3n v0_3n)])] h = some r := run_i Try.func34 (by kernel_rfl) ((f34_eq base v0_0 v0_0n v0_1 v0_1n v0_2 v0_3 v0_3n h).trans hx)
/-! spec.PlainOk (gates 0) -/
noncomputable def B35_0 (base : Nat) : Body := fun l h => lay s35_0 l fun s => exCode (Et base) (run (Et base)) loopL a35_0 (subC [1, 1, 0, 1, 0, 0] (bodyC Try.f35)) s h (keepK s35_0 e35_0)
theorem B35_0_eq (base : Nat) (v1 : Addr) (v3 : Int) (h : AH) : B35_0 base [some (.pointer (some v1)), some (.int .i64 v3)] h =
(((cell h v1.block (v1.off + 1)).bind getS).bind fun l1 =>
(if (decide (v3 < ((l1.2 : Nat) : Int))) = true then
((cell h v1.block (v1.off + 1)).bind getS).bind fun l2 =>
(if 0 ≤ v3 ∧ v3 < ((l2.2 : Nat) : Int) then
((l2.1 : Option Addr)).bind fun a3 =>
((cell h a3.block (a3.off + Int.toNat v3 * 5)).bind (getI .i64)).bind fun n4 =>
((cell h a3.block ((a3.off + Int.toNat v3 * 5) + 1)).bind (getI .i64)).bind fun n5 =>
((cell h a3.block (((a3.off + Int.toNat v3 * 5) + 1) + 1)).bind getS).bind fun l6 =>
((cell h a3.block ((((a3.off + Int.toNat v3 * 5) + 1) + 1) + 1)).bind getS).bind fun l7 =>
((cell h a3.block (((((a3.off + Int.toNat v3 * 5) + 1) + 1) + 1) + 1)).bind getS).bind fun l8 =>
(some (h ++ [some ⟨[(.int .i64 0), (.int .i64 0), (.slice none 0 0), (.slice none 0 0), (.slice none 0 0)], 52⟩])).bind fun h9 =>
(wr base h9 (List.length h) 0 [(.int .i64 n4), (.int .i64 n5), (.slice l6.1 l6.2 l6.2), (.slice l7.1 l7.2 l7.2), (.slice l8.1 l8.2 l8.2)]).bind fun h10 =>
(((cell h10 v1.block (v1.off + 0)).bind getS).bind fun l12 =>
((cell h10 (List.length h) 0).bind (getI .i64)).bind fun n13 =>
((cell h10 (List.length h) 1).bind (getI .i64)).bind fun n14 =>
((cell h10 (List.length h) 2).bind getS).bind fun l15 =>
((cell h10 (List.length h) 3).bind getS).bind fun l16 =>
((cell h10 (List.length h) 4).bind getS).bind fun l17 =>
(run (Et base) 60 [(.slice l12.1 l12.2 l12.2), (.agg #[(.int .i64 n13), (.int .i64 n14), (.slice l15.1 l15.2 l15.2), (.slice l16.1 l16.2 l16.2), (.slice l17.1 l17.2 l17.2)])] h10).bind fun r18 =>
((some r18.1).bind getB).bind fun b19 =>
(if (!b19) = true then
some (.inl ([some (.pointer (some v1)), some (.int .i64 v3), some (.bool true)], r18.2))
else
((cell r18.2 (List.length h) 0).bind (getI .i64)).bind fun n20 =>
((cell r18.2 v1.block (v1.off + 2)).bind (getI .i64)).bind fun n21 =>
(if (decide (n20 ≥ n21)) = true then
some (.inl ([some (.pointer (some v1)), some (.int .i64 v3), some (.bool true)], r18.2))
else
(if (decide (v3 > (0 : Int))) = true then
((cell r18.2 v1.block (v1.off + 1)).bind getS).bind fun l22 =>
(if 0 ≤ (IntKind.wrap .i64 (v3 - (1 : Int))) ∧ (IntKind.wrap .i64 (v3 - (1 : Int))) < ((l22.2 : Nat) : Int) then
((l22.1 : Option Addr)).bind fun a23 =>
((cell r18.2 a23.block ((a23.off + Int.toNat (IntKind.wrap .i64 (v3 - (1 : Int))) * 5) + 0)).bind (getI .i64)).bind fun n24 =>
((cell r18.2 (List.length h) 0).bind (getI .i64)).bind fun n25 =>
(if (decide (n24 ≥ n25)) = true then
some (.inl ([some (.pointer (some v1)), some (.int .i64 v3), some (.bool true)], r18.2))
else
((cell r18.2 v1.block v1.off).bind getS).bind fun l26 =>
((cell r18.2 v1.block (v1.off + 1)).bind getS).bind fun l27 =>
((cell r18.2 v1.block ((v1.off + 1) + 1)).bind (getI .i64)).bind fun n28 =>
((cell r18.2 v1.block (((v1.off + 1) + 1) + 1)).bind getS).bind fun l29 =>
(run (Et base) 91 [(.agg #[(.slice l26.1 l26.2 l26.2), (.slice l27.1 l27.2 l27.2), (.int .i64 n28), (.slice l29.1 l29.2 l29.2)]), (.int .i64 v3)] r18.2).bind fun r30 =>
((some r30.1).bind getB).bind fun b31 =>
some (.inl ([some (.pointer (some v1)), some (.int .i64 v3), some (.bool (!b31))], r30.2)))
else none)
else
((cell r18.2 v1.block v1.off).bind getS).bind fun l32 =>
((cell r18.2 v1.block (v1.off + 1)).bind getS).bind fun l33 =>
((cell r18.2 v1.block ((v1.off + 1) + 1)).bind (getI .i64)).bind fun n34 =>
((cell r18.2 v1.block (((v1.off + 1) + 1) + 1)).bind getS).bind fun l35 =>
(run (Et base) 91 [(.agg #[(.slice l32.1 l32.2 l32.2), (.slice l33.1 l33.2 l33.2), (.int .i64 n34), (.slice l35.1 l35.2 l35.2)]), (.int .i64 v3)] r18.2).bind fun r36 =>
((some r36.1).bind getB).bind fun b37 =>
some (.inl ([some (.pointer (some v1)), some (.int .i64 v3), some (.bool (!b37))], r36.2)))))).bind fun j11 => joinK j11 fun j11 =>
((sget j11.1 0).bind getA).bind fun d38 =>
((sget (j11.1.tail) 0).bind (getI .i64)).bind fun n39 =>
((sget (j11.1.tail.tail) 0).bind getB).bind fun b40 =>
(if b40 = true then
some (1, [some (.bool false)], j11.2)
else
some (0, [some (.pointer (some d38)), some (.int .i64 (IntKind.wrap .i64 (n39 + (1 : Int))))], j11.2))
else none)
else
some (2, [], h)) : Option (Nat × Slots × AH)) := by kernel_rfl
theorem f35_eq (base : Nat) (v0_0 : Option Addr) (v0_0n : Nat) (v0_1 : Option Addr) (v0_1n : Nat) (v0_2 : Int) (v0_3 : Option Addr) (v0_3n : Nat) (h : AH) : exFun (Et base) (run (Et base)) loopL a35 Try.f35 [(.agg #[(.slice v0_0 v0_0n v0_0n), (.slice v0_1 v0_1n v0_1n), (.int .i64 v0_2), (.slice v0_3 v0_3n v0_3n)])] h =
((some (h ++ [some ⟨[(.slice v0_0 v0_0n v0_0n), (.slice v0_1 v0_1n v0_1n), (.int .i64 v0_2), (.slice v0_3 v0_3n v0_3n)], 32⟩])).bind fun h1 =>
(((cell h1 (List.length h) 0).bind getS).bind fun l3 =>
(run (Et base) 89 [(.slice l3.1 l3.2 l3.2)] h1).bind fun r4 =>
((some r4.1).bind getB).bind fun b5 =>
(if (!b5) = true then
some (.inl ([some (.pointer (some ⟨(List.length h), 0, none⟩)), some (.bool true)], r4.2))
else
((cell r4.2 (List.length h) 2).bind (getI .i64)).bind fun n6 =>
(run (Et base) 61 [(.int .i64 n6), (.int .i64 (1 : Int)), (.int .i64 (90000 : Int))] r4.2).bind fun r7 =>
((some r7.1).bind getB).bind fun b8 =>
(if (!b8) = true then
some (.inl ([some (.pointer (some ⟨(List.length h), 0, none⟩)), some (.bool true)], r7.2))
else
((cell r7.2 (List.length h) 1).bind getS).bind fun l9 =>
(if (decide (((l9.2 : Nat) : Int) > (20 : Int))) = true then
some (.inl ([some (.pointer (some ⟨(List.length h), 0, none⟩)), some (.bool true)], r7.2))
else
((cell r7.2 (List.length h) 3).bind getS).bind fun l10 =>
(run (Et base) 90 [(.slice l10.1 l10.2 l10.2)] r7.2).bind fun r11 =>
((some r11.1).bind getB).bind fun b12 =>
some (.inl ([some (.pointer (some ⟨(List.length h), 0, none⟩)), some (.bool (!b12))], r11.2)))))).bind fun j2 => joinK j2 fun j2 =>
((sget j2.1 0).bind getA).bind fun d13 =>
((sget (j2.1.tail) 0).bind getB).bind fun b14 =>
(if b14 = true then
some ((.bool false), j2.2)
else
(loopL (B35_0 base) [some (.pointer (some d13)), some (.int .i64 (0 : Int))] j2.2).bind fun q15 =>
(if q15.1 = 1 then
((sget q15.2.1 0).bind getB).bind fun b16 =>
some ((.bool b16), q15.2.2)
else
(if q15.1 = 2 then
some ((.bool true), q15.2.2)
else
none))) : Option (Value × AH)) := by kernel_rfl
theorem r35 {base : Nat} {v0_0 : Option Addr} {v0_0n : Nat} {v0_1 : Option Addr} {v0_1n : Nat} {v0_2 : Int} {v0_3 : Option Addr} {v0_3n : Nat} {h : AH} {r : Value × AH} (hx :
((some (h ++ [some ⟨[(.slice v0_0 v0_0n v0_0n), (.slice v0_1 v0_1n v0_1n), (.int .i64 v0_2), (.slice v0_3 v0_3n v0_3n)], 32⟩])).bind fun h1 =>
(((cell h1 (List.length h) 0).bind getS).bind fun l3 =>
(run (Et base) 89 [(.slice l3.1 l3.2 l3.2)] h1).bind fun r4 =>
((some r4.1).bind getB).bind fun b5 =>
(if (!b5) = true then
some (.inl ([some (.pointer (some ⟨(List.length h), 0, none⟩)), some (.bool true)], r4.2))
else
((cell r4.2 (List.length h) 2).bind (getI .i64)).bind fun n6 =>
(run (Et base) 61 [(.int .i64 n6), (.int .i64 (1 : Int)), (.int .i64 (90000 : Int))] r4.2).bind fun r7 =>
((some r7.1).bind getB).bind fun b8 =>
(if (!b8) = true then
some (.inl ([some (.pointer (some ⟨(List.length h), 0, none⟩)), some (.bool true)], r7.2))
else
((cell r7.2 (List.length h) 1).bind getS).bind fun l9 =>
(if (decide (((l9.2 : Nat) : Int) > (20 : Int))) = true then
some (.inl ([some (.pointer (some ⟨(List.length h), 0, none⟩)), some (.bool true)], r7.2))
else
((cell r7.2 (List.length h) 3).bind getS).bind fun l10 =>
(run (Et base) 90 [(.slice l10.1 l10.2 l10.2)] r7.2).bind fun r11 =>
((some r11.1).bind getB).bind fun b12 =>
some (.inl ([some (.pointer (some ⟨(List.length h), 0, none⟩)), some (.bool (!b12))], r11.2)))))).bind fun j2 => joinK j2 fun j2 =>
((sget j2.1 0).bind getA).bind fun d13 =>
((sget (j2.1.tail) 0).bind getB).bind fun b14 =>
(if b14 = true then
some ((.bool false), j2.2)
else
(loopL (B35_0 base) [some (.pointer (some d13)), some (.int .i64 (0 : Int))] j2.2).bind fun q15 =>
(if q15.1 = 1 then
((sget q15.2.1 0).bind getB).bind fun b16 =>
some ((.bool b16), q15.2.2)
else
(if q15.1 = 2 then
some ((.bool true), q15.2.2)
else
none)))) = some r) : run (Et base) 35 [(.agg #[(.slice v0_0 v0_0n v0_0n), (.slice v0_1 v0_1n v0_1n), (.int .i64 v0_2), (.slice v0_3 v0_3n v0_3n)])] h = some r := run_i Try.func35 (by kernel_rfl) ((f35_eq base v0_0 v0_0n v0_1 v0_1n v0_2 v0_3 v0_3n h).trans hx)
/-! laws.szIns (gates 0) -/
theorem f40_eq (base : Nat) (v0_0 : Int) (v0_1 : Int) (v0_2 : Int) (v0_3 : Int) (v0_4 : Int) (v0_5 : ByteArray) (v1 : Int) (h : AH) : exFun (Et base) (run (Et base)) loopL a40 Try.f40 [(.agg #[(.int .i64 v0_0), (.int .i64 v0_1), (.int .i64 v0_2), (.int .i64 v0_3), (.int .i64 v0_4), (.string v0_5)]), (.int .i64 v1)] h =
((some (h ++ [some ⟨[(.int .i64 v0_0), (.int .i64 v0_1), (.int .i64 v0_2), (.int .i64 v0_3), (.int .i64 v0_4), (.string v0_5)], 78⟩])).bind fun h1 =>
((cell h1 (List.length h) 5).bind getStr).bind fun s2 =>
(if (decide ((IntKind.wrap .i64 (v1 - (s2.size : Int))) < (0 : Int))) = true then
some ((.int .i64 (-1 : Int)), h1)
else
some ((.int .i64 (IntKind.wrap .i64 (v1 - (s2.size : Int)))), h1)) : Option (Value × AH)) := by kernel_rfl
theorem r40 {base : Nat} {v0_0 : Int} {v0_1 : Int} {v0_2 : Int} {v0_3 : Int} {v0_4 : Int} {v0_5 : ByteArray} {v1 : Int} {h : AH} {r : Value × AH} (hx :
((some (h ++ [some ⟨[(.int .i64 v0_0), (.int .i64 v0_1), (.int .i64 v0_2), (.int .i64 v0_3), (.int .i64 v0_4), (.string v0_5)], 78⟩])).bind fun h1 =>
((cell h1 (List.length h) 5).bind getStr).bind fun s2 =>
(if (decide ((IntKind.wrap .i64 (v1 - (s2.size : Int))) < (0 : Int))) = true then
some ((.int .i64 (-1 : Int)), h1)
else
some ((.int .i64 (IntKind.wrap .i64 (v1 - (s2.size : Int)))), h1))) = some r) : run (Et base) 40 [(.agg #[(.int .i64 v0_0), (.int .i64 v0_1), (.int .i64 v0_2), (.int .i64 v0_3), (.int .i64 v0_4), (.string v0_5)]), (.int .i64 v1)] h = some r := run_i Try.func40 (by kernel_rfl) ((f40_eq base v0_0 v0_1 v0_2 v0_3 v0_4 v0_5 v1 h).trans hx)
/-! laws.szTermS (gates 0) -/
noncomputable def B41_0 (base : Nat) : Body := fun l h => lay s41_0 l fun s => exCode (Et base) (run (Et base)) loopL a41_0 (subC [1, 1, 1, 0, 1, 0, 0] (bodyC Try.f41)) s h (keepK s41_0 e41_0)
theorem B41_0_eq (base : Nat) (v0 : Option Addr) (v0n : Nat) (v1 : Int) (v5 : Int) (h : AH) : B41_0 base [some (.slice v0 v0n v0n), some (.int .i64 v1), some (.int .i64 v5)] h =
((if (decide (v5 < ((v0n : Nat) : Int))) = true then
(if 0 ≤ v5 ∧ v5 < ((v0n : Nat) : Int) then
((v0 : Option Addr)).bind fun a1 =>
((cell h a1.block (a1.off + Int.toNat v5 * 4)).bind (getI .i64)).bind fun n2 =>
((cell h a1.block ((a1.off + Int.toNat v5 * 4) + 1)).bind (getI .i64)).bind fun n3 =>
((cell h a1.block (((a1.off + Int.toNat v5 * 4) + 1) + 1)).bind getStr).bind fun s4 =>
((cell h a1.block ((((a1.off + Int.toNat v5 * 4) + 1) + 1) + 1)).bind getS).bind fun l5 =>
(run (Et base) 8 [(.agg #[(.int .i64 n2), (.int .i64 n3), (.string s4), (.slice l5.1 l5.2 l5.2)]), (.int .i64 v1)] h).bind fun r6 =>
((some r6.1).bind (getI .i64)).bind fun n7 =>
(if (decide (n7 < (0 : Int))) = true then
some (1, [some (.int .i64 (-1 : Int))], r6.2)
else
some (0, [some (.slice v0 v0n v0n), some (.int .i64 n7), some (.int .i64 (IntKind.wrap .i64 (v5 + (1 : Int))))], r6.2))
else none)
else
some (2, [some (.int .i64 v1)], h)) : Option (Nat × Slots × AH)) := by kernel_rfl
theorem f41_eq (base : Nat) (v0 : Option Addr) (v0n : Nat) (v1 : Int) (h : AH) : exFun (Et base) (run (Et base)) loopL a41 Try.f41 [(.slice v0 v0n v0n), (.int .i64 v1)] h =
((if (decide ((IntKind.wrap .i64 (v1 - ((v0n : Nat) : Int))) < (0 : Int))) = true then
some ((.int .i64 (-1 : Int)), h)
else
(loopL (B41_0 base) [some (.slice v0 v0n v0n), some (.int .i64 (IntKind.wrap .i64 (v1 - ((v0n : Nat) : Int)))), some (.int .i64 (0 : Int))] h).bind fun q1 =>
(if q1.1 = 1 then
((sget q1.2.1 0).bind (getI .i64)).bind fun n2 =>
some ((.int .i64 n2), q1.2.2)
else
(if q1.1 = 2 then
((sget q1.2.1 0).bind (getI .i64)).bind fun n3 =>
some ((.int .i64 n3), q1.2.2)
else
none))) : Option (Value × AH)) := by kernel_rfl
theorem r41 {base : Nat} {v0 : Option Addr} {v0n : Nat} {v1 : Int} {h : AH} {r : Value × AH} (hx :
((if (decide ((IntKind.wrap .i64 (v1 - ((v0n : Nat) : Int))) < (0 : Int))) = true then
some ((.int .i64 (-1 : Int)), h)
else
(loopL (B41_0 base) [some (.slice v0 v0n v0n), some (.int .i64 (IntKind.wrap .i64 (v1 - ((v0n : Nat) : Int)))), some (.int .i64 (0 : Int))] h).bind fun q1 =>
(if q1.1 = 1 then
((sget q1.2.1 0).bind (getI .i64)).bind fun n2 =>
some ((.int .i64 n2), q1.2.2)
else
(if q1.1 = 2 then
((sget q1.2.1 0).bind (getI .i64)).bind fun n3 =>
some ((.int .i64 n3), q1.2.2)
else
none)))) = some r) : run (Et base) 41 [(.slice v0 v0n v0n), (.int .i64 v1)] h = some r := run_i Try.func41 (by kernel_rfl) ((f41_eq base v0 v0n v1 h).trans hx)
/-! spec.ActorNew (gates 0) -/
noncomputable def B42_0 (base : Nat) : Body := fun l h => lay s42_0 l fun s => exCode (Et base) (run (Et base)) loopL a42_0 (subC [1, 1, 1, 0, 1, 0, 0] (bodyC Try.f42)) s h (keepK s42_0 e42_0)
theorem B42_0_eq (base : Nat) (v6 : Addr) (v7 : Addr) (v8 : Int) (h : AH) : B42_0 base [some (.pointer (some v6)), some (.pointer (some v7)), some (.int .i64 v8)] h =
((if (decide (v8 < (8 : Int))) = true then
((cell h v7.block (v7.off + 2)).bind getS).bind fun l1 =>
(run (Et base) 102 [(.int .i64 (0 : Int))] h).bind fun r2 =>
((some r2.1).bind (getAgg 4)).bind fun l3 =>
((l3[0]?).bind (getI .i64)).bind fun n4 =>
((l3[1]?).bind (getI .i64)).bind fun n5 =>
((l3[2]?).bind getStr).bind fun s6 =>
((l3[3]?).bind getS).bind fun l7 =>
(gate (sameA h r2.2 (some ⟨v7.block, (v7.off + 2), none⟩) 1)
((gate (neA (some ⟨v7.block, (v7.off + 2), none⟩) (List.length r2.2))
((some (r2.2 ++ [some ⟨[(.int .i64 n4), (.int .i64 n5), (.string s6), (.slice l7.1 l7.2 l7.2)], 38⟩])).bind fun h8 =>
(app base h8 38 4 56 l1.1 l1.2 (rawAt h8 (some ⟨(List.length r2.2), 0, none⟩) (1 * 4)) 1).bind fun p9 =>
((some p9.1).bind getS).bind fun l10 =>
(wr base p9.2 v7.block (v7.off + 2) [(.slice l10.1 l10.2 l10.2)]).bind fun h11 =>
some (0, [some (.pointer (some v6)), some (.pointer (some v7)), some (.int .i64 (IntKind.wrap .i64 (v8 + (1 : Int))))], h11)))))
else
some (2, [some (.pointer (some v6)), some (.pointer (some v7))], h)) : Option (Nat × Slots × AH)) := by kernel_rfl
theorem f42_eq (base : Nat) (v0 : Int) (v1 : Int) (v2_0 : Int) (v2_1 : Int) (v2_2 : ByteArray) (v2_3 : Option Addr) (v2_3n : Nat) (h : AH) : exFun (Et base) (run (Et base)) loopL a42 Try.f42 [(.int .i64 v0), (.int .i64 v1), (.agg #[(.int .i64 v2_0), (.int .i64 v2_1), (.string v2_2), (.slice v2_3 v2_3n v2_3n)])] h =
((some (h ++ [some ⟨[(.int .i64 v2_0), (.int .i64 v2_1), (.string v2_2), (.slice v2_3 v2_3n v2_3n)], 38⟩])).bind fun h1 =>
(some (h1 ++ [some ⟨[(.int .i64 0), (.int .i64 0), (.slice none 0 0), (.slice none 0 0), (.slice none 0 0)], 52⟩])).bind fun h2 =>
((run (Et base) 61 [(.int .i64 v0), (.int .i64 (1 : Int)), (.int .i64 (99999 : Int))] h2).bind fun r4 =>
((some r4.1).bind getB).bind fun b5 =>
(if (!b5) = true then
some (.inl ([some (.int .i64 v0), some (.int .i64 v1), some (.pointer (some ⟨(List.length h), 0, none⟩)), some (.pointer (some ⟨(List.length h1), 0, none⟩)), some (.bool true)], r4.2))
else
(if (decide (v1 < (0 : Int))) = true then
some (.inl ([some (.int .i64 v0), some (.int .i64 v1), some (.pointer (some ⟨(List.length h), 0, none⟩)), some (.pointer (some ⟨(List.length h1), 0, none⟩)), some (.bool true)], r4.2))
else
((cell r4.2 (List.length h) 0).bind (getI .i64)).bind fun n6 =>
((cell r4.2 (List.length h) 1).bind (getI .i64)).bind fun n7 =>
((cell r4.2 (List.length h) 2).bind getStr).bind fun s8 =>
((cell r4.2 (List.length h) 3).bind getS).bind fun l9 =>
(run (Et base) 95 [(.agg #[(.int .i64 n6), (.int .i64 n7), (.string s8), (.slice l9.1 l9.2 l9.2)])] r4.2).bind fun r10 =>
((some r10.1).bind getB).bind fun b11 =>
some (.inl ([some (.int .i64 v0), some (.int .i64 v1), some (.pointer (some ⟨(List.length h), 0, none⟩)), some (.pointer (some ⟨(List.length h1), 0, none⟩)), some (.bool (!b11))], r10.2))))).bind fun j3 => joinK j3 fun j3 =>
((sget j3.1 0).bind (getI .i64)).bind fun n12 =>
((sget (j3.1.tail) 0).bind (getI .i64)).bind fun n13 =>
((sget (j3.1.tail.tail) 0).bind getA).bind fun d14 =>
((sget (j3.1.tail.tail.tail) 0).bind getA).bind fun d15 =>
((sget (j3.1.tail.tail.tail.tail) 0).bind getB).bind fun b16 =>
(if b16 = true then
(wr base j3.2 d15.block d15.off [(.int .i64 (0 : Int)), (.int .i64 (0 : Int)), (.slice none 0 0), (.slice none 0 0), (.slice none 0 0)]).bind fun h17 =>
((cell h17 d15.block d15.off).bind (getI .i64)).bind fun n18 =>
((cell h17 d15.block (d15.off + 1)).bind (getI .i64)).bind fun n19 =>
((cell h17 d15.block ((d15.off + 1) + 1)).bind getS).bind fun l20 =>
((cell h17 d15.block (((d15.off + 1) + 1) + 1)).bind getS).bind fun l21 =>
((cell h17 d15.block ((((d15.off + 1) + 1) + 1) + 1)).bind getS).bind fun l22 =>
some ((.agg #[(.int .i64 n18), (.int .i64 n19), (.slice l20.1 l20.2 l20.2), (.slice l21.1 l21.2 l21.2), (.slice l22.1 l22.2 l22.2)]), h17)
else
((cell j3.2 d14.block d14.off).bind (getI .i64)).bind fun n23 =>
((cell j3.2 d14.block (d14.off + 1)).bind (getI .i64)).bind fun n24 =>
((cell j3.2 d14.block ((d14.off + 1) + 1)).bind getStr).bind fun s25 =>
((cell j3.2 d14.block (((d14.off + 1) + 1) + 1)).bind getS).bind fun l26 =>
(run (Et base) 101 [(.agg #[(.int .i64 n23), (.int .i64 n24), (.string s25), (.slice l26.1 l26.2 l26.2)])] j3.2).bind fun r27 =>
((some r27.1).bind (getAgg 4)).bind fun l28 =>
((l28[0]?).bind (getI .i64)).bind fun n29 =>
((l28[1]?).bind (getI .i64)).bind fun n30 =>
((l28[2]?).bind getStr).bind fun s31 =>
((l28[3]?).bind getS).bind fun l32 =>
(some (r27.2 ++ [some ⟨[(.int .i64 n29), (.int .i64 n30), (.string s31), (.slice l32.1 l32.2 l32.2)], 38⟩])).bind fun h33 =>
(some (h33 ++ [some ⟨[(.int .i64 0), (.int .i64 0), (.slice none 0 0), (.slice none 0 0), (.slice none 0 0)], 52⟩])).bind fun h34 =>
(wr base h34 (List.length h33) 0 [(.int .i64 n12), (.int .i64 n13), (.slice (some ⟨(List.length r27.2), 0, none⟩) 1 1), (.slice none 0 0), (.slice none 0 0)]).bind fun h35 =>
(loopL (B42_0 base) [some (.pointer (some d15)), some (.pointer (some ⟨(List.length h33), 0, none⟩)), some (.int .i64 (1 : Int))] h35).bind fun q36 =>
(if q36.1 = 2 then
((sget q36.2.1 0).bind getA).bind fun d37 =>
((sget (q36.2.1.tail) 0).bind getA).bind fun d38 =>
((cell q36.2.2 d38.block d38.off).bind (getI .i64)).bind fun n39 =>
((cell q36.2.2 d38.block (d38.off + 1)).bind (getI .i64)).bind fun n40 =>
((cell q36.2.2 d38.block ((d38.off + 1) + 1)).bind getS).bind fun l41 =>
((cell q36.2.2 d38.block (((d38.off + 1) + 1) + 1)).bind getS).bind fun l42 =>
((cell q36.2.2 d38.block ((((d38.off + 1) + 1) + 1) + 1)).bind getS).bind fun l43 =>
(wr base q36.2.2 d37.block d37.off [(.int .i64 n39), (.int .i64 n40), (.slice l41.1 l41.2 l41.2), (.slice l42.1 l42.2 l42.2), (.slice l43.1 l43.2 l43.2)]).bind fun h44 =>
((cell h44 d37.block d37.off).bind (getI .i64)).bind fun n45 =>
((cell h44 d37.block (d37.off + 1)).bind (getI .i64)).bind fun n46 =>
((cell h44 d37.block ((d37.off + 1) + 1)).bind getS).bind fun l47 =>
((cell h44 d37.block (((d37.off + 1) + 1) + 1)).bind getS).bind fun l48 =>
((cell h44 d37.block ((((d37.off + 1) + 1) + 1) + 1)).bind getS).bind fun l49 =>
some ((.agg #[(.int .i64 n45), (.int .i64 n46), (.slice l47.1 l47.2 l47.2), (.slice l48.1 l48.2 l48.2), (.slice l49.1 l49.2 l49.2)]), h44)
else
none)) : Option (Value × AH)) := by kernel_rfl
theorem r42 {base : Nat} {v0 : Int} {v1 : Int} {v2_0 : Int} {v2_1 : Int} {v2_2 : ByteArray} {v2_3 : Option Addr} {v2_3n : Nat} {h : AH} {r : Value × AH} (hx :
((some (h ++ [some ⟨[(.int .i64 v2_0), (.int .i64 v2_1), (.string v2_2), (.slice v2_3 v2_3n v2_3n)], 38⟩])).bind fun h1 =>
(some (h1 ++ [some ⟨[(.int .i64 0), (.int .i64 0), (.slice none 0 0), (.slice none 0 0), (.slice none 0 0)], 52⟩])).bind fun h2 =>
((run (Et base) 61 [(.int .i64 v0), (.int .i64 (1 : Int)), (.int .i64 (99999 : Int))] h2).bind fun r4 =>
((some r4.1).bind getB).bind fun b5 =>
(if (!b5) = true then
some (.inl ([some (.int .i64 v0), some (.int .i64 v1), some (.pointer (some ⟨(List.length h), 0, none⟩)), some (.pointer (some ⟨(List.length h1), 0, none⟩)), some (.bool true)], r4.2))
else
(if (decide (v1 < (0 : Int))) = true then
some (.inl ([some (.int .i64 v0), some (.int .i64 v1), some (.pointer (some ⟨(List.length h), 0, none⟩)), some (.pointer (some ⟨(List.length h1), 0, none⟩)), some (.bool true)], r4.2))
else
((cell r4.2 (List.length h) 0).bind (getI .i64)).bind fun n6 =>
((cell r4.2 (List.length h) 1).bind (getI .i64)).bind fun n7 =>
((cell r4.2 (List.length h) 2).bind getStr).bind fun s8 =>
((cell r4.2 (List.length h) 3).bind getS).bind fun l9 =>
(run (Et base) 95 [(.agg #[(.int .i64 n6), (.int .i64 n7), (.string s8), (.slice l9.1 l9.2 l9.2)])] r4.2).bind fun r10 =>
((some r10.1).bind getB).bind fun b11 =>
some (.inl ([some (.int .i64 v0), some (.int .i64 v1), some (.pointer (some ⟨(List.length h), 0, none⟩)), some (.pointer (some ⟨(List.length h1), 0, none⟩)), some (.bool (!b11))], r10.2))))).bind fun j3 => joinK j3 fun j3 =>
((sget j3.1 0).bind (getI .i64)).bind fun n12 =>
((sget (j3.1.tail) 0).bind (getI .i64)).bind fun n13 =>
((sget (j3.1.tail.tail) 0).bind getA).bind fun d14 =>
((sget (j3.1.tail.tail.tail) 0).bind getA).bind fun d15 =>
((sget (j3.1.tail.tail.tail.tail) 0).bind getB).bind fun b16 =>
(if b16 = true then
(wr base j3.2 d15.block d15.off [(.int .i64 (0 : Int)), (.int .i64 (0 : Int)), (.slice none 0 0), (.slice none 0 0), (.slice none 0 0)]).bind fun h17 =>
((cell h17 d15.block d15.off).bind (getI .i64)).bind fun n18 =>
((cell h17 d15.block (d15.off + 1)).bind (getI .i64)).bind fun n19 =>
((cell h17 d15.block ((d15.off + 1) + 1)).bind getS).bind fun l20 =>
((cell h17 d15.block (((d15.off + 1) + 1) + 1)).bind getS).bind fun l21 =>
((cell h17 d15.block ((((d15.off + 1) + 1) + 1) + 1)).bind getS).bind fun l22 =>
some ((.agg #[(.int .i64 n18), (.int .i64 n19), (.slice l20.1 l20.2 l20.2), (.slice l21.1 l21.2 l21.2), (.slice l22.1 l22.2 l22.2)]), h17)
else
((cell j3.2 d14.block d14.off).bind (getI .i64)).bind fun n23 =>
((cell j3.2 d14.block (d14.off + 1)).bind (getI .i64)).bind fun n24 =>
((cell j3.2 d14.block ((d14.off + 1) + 1)).bind getStr).bind fun s25 =>
((cell j3.2 d14.block (((d14.off + 1) + 1) + 1)).bind getS).bind fun l26 =>
(run (Et base) 101 [(.agg #[(.int .i64 n23), (.int .i64 n24), (.string s25), (.slice l26.1 l26.2 l26.2)])] j3.2).bind fun r27 =>
((some r27.1).bind (getAgg 4)).bind fun l28 =>
((l28[0]?).bind (getI .i64)).bind fun n29 =>
((l28[1]?).bind (getI .i64)).bind fun n30 =>
((l28[2]?).bind getStr).bind fun s31 =>
((l28[3]?).bind getS).bind fun l32 =>
(some (r27.2 ++ [some ⟨[(.int .i64 n29), (.int .i64 n30), (.string s31), (.slice l32.1 l32.2 l32.2)], 38⟩])).bind fun h33 =>
(some (h33 ++ [some ⟨[(.int .i64 0), (.int .i64 0), (.slice none 0 0), (.slice none 0 0), (.slice none 0 0)], 52⟩])).bind fun h34 =>
(wr base h34 (List.length h33) 0 [(.int .i64 n12), (.int .i64 n13), (.slice (some ⟨(List.length r27.2), 0, none⟩) 1 1), (.slice none 0 0), (.slice none 0 0)]).bind fun h35 =>
(loopL (B42_0 base) [some (.pointer (some d15)), some (.pointer (some ⟨(List.length h33), 0, none⟩)), some (.int .i64 (1 : Int))] h35).bind fun q36 =>
(if q36.1 = 2 then
((sget q36.2.1 0).bind getA).bind fun d37 =>
((sget (q36.2.1.tail) 0).bind getA).bind fun d38 =>
((cell q36.2.2 d38.block d38.off).bind (getI .i64)).bind fun n39 =>
((cell q36.2.2 d38.block (d38.off + 1)).bind (getI .i64)).bind fun n40 =>
((cell q36.2.2 d38.block ((d38.off + 1) + 1)).bind getS).bind fun l41 =>
((cell q36.2.2 d38.block (((d38.off + 1) + 1) + 1)).bind getS).bind fun l42 =>
((cell q36.2.2 d38.block ((((d38.off + 1) + 1) + 1) + 1)).bind getS).bind fun l43 =>
(wr base q36.2.2 d37.block d37.off [(.int .i64 n39), (.int .i64 n40), (.slice l41.1 l41.2 l41.2), (.slice l42.1 l42.2 l42.2), (.slice l43.1 l43.2 l43.2)]).bind fun h44 =>
((cell h44 d37.block d37.off).bind (getI .i64)).bind fun n45 =>
((cell h44 d37.block (d37.off + 1)).bind (getI .i64)).bind fun n46 =>
((cell h44 d37.block ((d37.off + 1) + 1)).bind getS).bind fun l47 =>
((cell h44 d37.block (((d37.off + 1) + 1) + 1)).bind getS).bind fun l48 =>
((cell h44 d37.block ((((d37.off + 1) + 1) + 1) + 1)).bind getS).bind fun l49 =>
some ((.agg #[(.int .i64 n45), (.int .i64 n46), (.slice l47.1 l47.2 l47.2), (.slice l48.1 l48.2 l48.2), (.slice l49.1 l49.2 l49.2)]), h44)
else
none))) = some r) : run (Et base) 42 [(.int .i64 v0), (.int .i64 v1), (.agg #[(.int .i64 v2_0), (.int .i64 v2_1), (.string v2_2), (.slice v2_3 v2_3n v2_3n)])] h = some r := run_i Try.func42 (by kernel_rfl) ((f42_eq base v0 v1 v2_0 v2_1 v2_2 v2_3 v2_3n h).trans hx)
/-! spec.l11Says (gates 0) -/
theorem f43_eq (base : Nat) (v0 : Option Addr) (v0n : Nat) (v1 : Int) (v2 : Int) (v3_0 : Int) (v3_1 : Int) (v3_2 : ByteArray) (v3_3 : Option Addr) (v3_3n : Nat) (h : AH) : exFun (Et base) (run (Et base)) loopL a43 Try.f43 [(.slice v0 v0n v0n), (.int .i64 v1), (.int .i64 v2), (.agg #[(.int .i64 v3_0), (.int .i64 v3_1), (.string v3_2), (.slice v3_3 v3_3n v3_3n)])] h =
((some (h ++ [some ⟨[(.int .i64 v3_0), (.int .i64 v3_1), (.string v3_2), (.slice v3_3 v3_3n v3_3n)], 38⟩])).bind fun h1 =>
(if (decide (((v0n : Nat) : Int) ≥ (500 : Int))) = true then
some ((.slice v0 v0n v0n), h1)
else
((cell h1 (List.length h) 0).bind (getI .i64)).bind fun n2 =>
((cell h1 (List.length h) 1).bind (getI .i64)).bind fun n3 =>
((cell h1 (List.length h) 2).bind getStr).bind fun s4 =>
((cell h1 (List.length h) 3).bind getS).bind fun l5 =>
(run (Et base) 101 [(.agg #[(.int .i64 n2), (.int .i64 n3), (.string s4), (.slice l5.1 l5.2 l5.2)])] h1).bind fun r6 =>
((some r6.1).bind (getAgg 4)).bind fun l7 =>
((l7[0]?).bind (getI .i64)).bind fun n8 =>
((l7[1]?).bind (getI .i64)).bind fun n9 =>
((l7[2]?).bind getStr).bind fun s10 =>
((l7[3]?).bind getS).bind fun l11 =>
(some (r6.2 ++ [some ⟨[(.int .i64 v1), (.int .i64 v2), (.int .i64 n8), (.int .i64 n9), (.string s10), (.slice l11.1 l11.2 l11.2)], 127⟩])).bind fun h12 =>
(app base h12 127 6 72 v0 v0n (rawAt h12 (some ⟨(List.length r6.2), 0, none⟩) (1 * 6)) 1).bind fun p13 =>
((some p13.1).bind getS).bind fun l14 =>
some ((.slice l14.1 l14.2 l14.2), p13.2)) : Option (Value × AH)) := by kernel_rfl
theorem r43 {base : Nat} {v0 : Option Addr} {v0n : Nat} {v1 : Int} {v2 : Int} {v3_0 : Int} {v3_1 : Int} {v3_2 : ByteArray} {v3_3 : Option Addr} {v3_3n : Nat} {h : AH} {r : Value × AH} (hx :
((some (h ++ [some ⟨[(.int .i64 v3_0), (.int .i64 v3_1), (.string v3_2), (.slice v3_3 v3_3n v3_3n)], 38⟩])).bind fun h1 =>
(if (decide (((v0n : Nat) : Int) ≥ (500 : Int))) = true then
some ((.slice v0 v0n v0n), h1)
else
((cell h1 (List.length h) 0).bind (getI .i64)).bind fun n2 =>
((cell h1 (List.length h) 1).bind (getI .i64)).bind fun n3 =>
((cell h1 (List.length h) 2).bind getStr).bind fun s4 =>
((cell h1 (List.length h) 3).bind getS).bind fun l5 =>
(run (Et base) 101 [(.agg #[(.int .i64 n2), (.int .i64 n3), (.string s4), (.slice l5.1 l5.2 l5.2)])] h1).bind fun r6 =>
((some r6.1).bind (getAgg 4)).bind fun l7 =>
((l7[0]?).bind (getI .i64)).bind fun n8 =>
((l7[1]?).bind (getI .i64)).bind fun n9 =>
((l7[2]?).bind getStr).bind fun s10 =>
((l7[3]?).bind getS).bind fun l11 =>
(some (r6.2 ++ [some ⟨[(.int .i64 v1), (.int .i64 v2), (.int .i64 n8), (.int .i64 n9), (.string s10), (.slice l11.1 l11.2 l11.2)], 127⟩])).bind fun h12 =>
(app base h12 127 6 72 v0 v0n (rawAt h12 (some ⟨(List.length r6.2), 0, none⟩) (1 * 6)) 1).bind fun p13 =>
((some p13.1).bind getS).bind fun l14 =>
some ((.slice l14.1 l14.2 l14.2), p13.2))) = some r) : run (Et base) 43 [(.slice v0 v0n v0n), (.int .i64 v1), (.int .i64 v2), (.agg #[(.int .i64 v3_0), (.int .i64 v3_1), (.string v3_2), (.slice v3_3 v3_3n v3_3n)])] h = some r := run_i Try.func43 (by kernel_rfl) ((f43_eq base v0 v0n v1 v2 v3_0 v3_1 v3_2 v3_3 v3_3n h).trans hx)
/-! laws.toIns (gates 0) -/
theorem f44_eq (base : Nat) (v0_0 : Int) (v0_1 : Int) (v0_2 : Int) (v0_3 : Int) (v0_4 : Int) (v0_5 : ByteArray) (h : AH) : exFun (Et base) (run (Et base)) loopL a44 Try.f44 [(.agg #[(.int .i64 v0_0), (.int .i64 v0_1), (.int .i64 v0_2), (.int .i64 v0_3), (.int .i64 v0_4), (.string v0_5)])] h =
((some (h ++ [some ⟨[(.int .i64 v0_0), (.int .i64 v0_1), (.int .i64 v0_2), (.int .i64 v0_3), (.int .i64 v0_4), (.string v0_5)], 78⟩])).bind fun h1 =>
(some (h1 ++ [some ⟨[(.int .i64 0), (.int .i64 0), (.int .i64 0), (.int .i64 0), (.int .i64 0), (.string ⟨#[]⟩)], 82⟩])).bind fun h2 =>
(some (h2 ++ [some ⟨[(.int .i64 0), (.int .i64 0), (.int .i64 0), (.int .i64 0), (.int .i64 0), (.string ⟨#[]⟩)], 82⟩])).bind fun h3 =>
((cell h3 (List.length h) 0).bind (getI .i64)).bind fun n4 =>
(wr base h3 (List.length h2) 0 [(.int .i64 n4)]).bind fun h5 =>
((cell h5 (List.length h) 1).bind (getI .i64)).bind fun n6 =>
(wr base h5 (List.length h2) 1 [(.int .i64 n6)]).bind fun h7 =>
((cell h7 (List.length h) 2).bind (getI .i64)).bind fun n8 =>
(wr base h7 (List.length h2) 2 [(.int .i64 n8)]).bind fun h9 =>
((cell h9 (List.length h) 3).bind (getI .i64)).bind fun n10 =>
(wr base h9 (List.length h2) 3 [(.int .i64 n10)]).bind fun h11 =>
((cell h11 (List.length h) 4).bind (getI .i64)).bind fun n12 =>
(wr base h11 (List.length h2) 4 [(.int .i64 n12)]).bind fun h13 =>
((cell h13 (List.length h) 5).bind getStr).bind fun s14 =>
(wr base h13 (List.length h2) 5 [(.string s14)]).bind fun h15 =>
((cell h15 (List.length h2) 0).bind (getI .i64)).bind fun n16 =>
((cell h15 (List.length h2) 1).bind (getI .i64)).bind fun n17 =>
((cell h15 (List.length h2) 2).bind (getI .i64)).bind fun n18 =>
((cell h15 (List.length h2) 3).bind (getI .i64)).bind fun n19 =>
((cell h15 (List.length h2) 4).bind (getI .i64)).bind fun n20 =>
((cell h15 (List.length h2) 5).bind getStr).bind fun s21 =>
(wr base h15 (List.length h1) 0 [(.int .i64 n16), (.int .i64 n17), (.int .i64 n18), (.int .i64 n19), (.int .i64 n20), (.string s21)]).bind fun h22 =>
((cell h22 (List.length h1) 0).bind (getI .i64)).bind fun n23 =>
((cell h22 (List.length h1) 1).bind (getI .i64)).bind fun n24 =>
((cell h22 (List.length h1) 2).bind (getI .i64)).bind fun n25 =>
((cell h22 (List.length h1) 3).bind (getI .i64)).bind fun n26 =>
((cell h22 (List.length h1) 4).bind (getI .i64)).bind fun n27 =>
((cell h22 (List.length h1) 5).bind getStr).bind fun s28 =>
some ((.agg #[(.int .i64 n23), (.int .i64 n24), (.int .i64 n25), (.int .i64 n26), (.int .i64 n27), (.string s28)]), h22) : Option (Value × AH)) := by kernel_rfl
theorem r44 {base : Nat} {v0_0 : Int} {v0_1 : Int} {v0_2 : Int} {v0_3 : Int} {v0_4 : Int} {v0_5 : ByteArray} {h : AH} {r : Value × AH} (hx :
((some (h ++ [some ⟨[(.int .i64 v0_0), (.int .i64 v0_1), (.int .i64 v0_2), (.int .i64 v0_3), (.int .i64 v0_4), (.string v0_5)], 78⟩])).bind fun h1 =>
(some (h1 ++ [some ⟨[(.int .i64 0), (.int .i64 0), (.int .i64 0), (.int .i64 0), (.int .i64 0), (.string ⟨#[]⟩)], 82⟩])).bind fun h2 =>
(some (h2 ++ [some ⟨[(.int .i64 0), (.int .i64 0), (.int .i64 0), (.int .i64 0), (.int .i64 0), (.string ⟨#[]⟩)], 82⟩])).bind fun h3 =>
((cell h3 (List.length h) 0).bind (getI .i64)).bind fun n4 =>
(wr base h3 (List.length h2) 0 [(.int .i64 n4)]).bind fun h5 =>
((cell h5 (List.length h) 1).bind (getI .i64)).bind fun n6 =>
(wr base h5 (List.length h2) 1 [(.int .i64 n6)]).bind fun h7 =>
((cell h7 (List.length h) 2).bind (getI .i64)).bind fun n8 =>
(wr base h7 (List.length h2) 2 [(.int .i64 n8)]).bind fun h9 =>
((cell h9 (List.length h) 3).bind (getI .i64)).bind fun n10 =>
(wr base h9 (List.length h2) 3 [(.int .i64 n10)]).bind fun h11 =>
((cell h11 (List.length h) 4).bind (getI .i64)).bind fun n12 =>
(wr base h11 (List.length h2) 4 [(.int .i64 n12)]).bind fun h13 =>
((cell h13 (List.length h) 5).bind getStr).bind fun s14 =>
(wr base h13 (List.length h2) 5 [(.string s14)]).bind fun h15 =>
((cell h15 (List.length h2) 0).bind (getI .i64)).bind fun n16 =>
((cell h15 (List.length h2) 1).bind (getI .i64)).bind fun n17 =>
((cell h15 (List.length h2) 2).bind (getI .i64)).bind fun n18 =>
((cell h15 (List.length h2) 3).bind (getI .i64)).bind fun n19 =>
((cell h15 (List.length h2) 4).bind (getI .i64)).bind fun n20 =>
((cell h15 (List.length h2) 5).bind getStr).bind fun s21 =>
(wr base h15 (List.length h1) 0 [(.int .i64 n16), (.int .i64 n17), (.int .i64 n18), (.int .i64 n19), (.int .i64 n20), (.string s21)]).bind fun h22 =>
((cell h22 (List.length h1) 0).bind (getI .i64)).bind fun n23 =>
((cell h22 (List.length h1) 1).bind (getI .i64)).bind fun n24 =>
((cell h22 (List.length h1) 2).bind (getI .i64)).bind fun n25 =>
((cell h22 (List.length h1) 3).bind (getI .i64)).bind fun n26 =>
((cell h22 (List.length h1) 4).bind (getI .i64)).bind fun n27 =>
((cell h22 (List.length h1) 5).bind getStr).bind fun s28 =>
some ((.agg #[(.int .i64 n23), (.int .i64 n24), (.int .i64 n25), (.int .i64 n26), (.int .i64 n27), (.string s28)]), h22)) = some r) : run (Et base) 44 [(.agg #[(.int .i64 v0_0), (.int .i64 v0_1), (.int .i64 v0_2), (.int .i64 v0_3), (.int .i64 v0_4), (.string v0_5)])] h = some r := run_i Try.func44 (by kernel_rfl) ((f44_eq base v0_0 v0_1 v0_2 v0_3 v0_4 v0_5 h).trans hx)
/-! laws.toTermS (gates 0) -/
noncomputable def B45_0 (base : Nat) : Body := fun l h => lay s45_0 l fun s => exCode (Et base) (run (Et base)) loopL a45_0 (subC [1, 1, 0, 1, 0, 0] (bodyC Try.f45)) s h (keepK s45_0 e45_0)
theorem B45_0_eq (base : Nat) (v0 : Option Addr) (v0n : Nat) (v3 : Option Addr) (v3n : Nat) (v4 : Int) (h : AH) : B45_0 base [some (.slice v0 v0n v0n), some (.slice v3 v3n v3n), some (.int .i64 v4)] h =
((if (decide (v4 < ((v0n : Nat) : Int))) = true then
(if 0 ≤ v4 ∧ v4 < ((v0n : Nat) : Int) then
((v0 : Option Addr)).bind fun a1 =>
((cell h a1.block (a1.off + Int.toNat v4 * 4)).bind (getI .i64)).bind fun n2 =>
((cell h a1.block ((a1.off + Int.toNat v4 * 4) + 1)).bind (getI .i64)).bind fun n3 =>
((cell h a1.block (((a1.off + Int.toNat v4 * 4) + 1) + 1)).bind getStr).bind fun s4 =>
((cell h a1.block ((((a1.off + Int.toNat v4 * 4) + 1) + 1) + 1)).bind getS).bind fun l5 =>
(run (Et base) 11 [(.agg #[(.int .i64 n2), (.int .i64 n3), (.string s4), (.slice l5.1 l5.2 l5.2)])] h).bind fun r6 =>
((some r6.1).bind (getAgg 4)).bind fun l7 =>
((l7[0]?).bind (getI .i64)).bind fun n8 =>
((l7[1]?).bind (getI .i64)).bind fun n9 =>
((l7[2]?).bind getStr).bind fun s10 =>
((l7[3]?).bind getS).bind fun l11 =>
(if 0 ≤ v4 ∧ v4 < ((v3n : Nat) : Int) then
((v3 : Option Addr)).bind fun a12 =>
(wr base r6.2 a12.block (a12.off + Int.toNat v4 * 4) [(.int .i64 n8), (.int .i64 n9), (.string s10), (.slice l11.1 l11.2 l11.2)]).bind fun h13 =>
some (0, [some (.slice v0 v0n v0n), some (.slice v3 v3n v3n), some (.int .i64 (IntKind.wrap .i64 (v4 + (1 : Int))))], h13)
else none)
else none)
else
some (2, [some (.slice v3 v3n v3n)], h)) : Option (Nat × Slots × AH)) := by kernel_rfl
theorem f45_eq (base : Nat) (v0 : Option Addr) (v0n : Nat) (h : AH) : exFun (Et base) (run (Et base)) loopL a45 Try.f45 [(.slice v0 v0n v0n)] h =
((if ((v0n : Nat) : Int) = ((v0n : Nat) : Int) ∧ 0 ≤ ((v0n : Nat) : Int) ∧ ((v0n : Nat) : Int) * 56 ≤ 140737488355328 ∧ ((v0n : Nat) : Int) ≤ 140737488355328 then
(some (h ++ [some ⟨rep [(.int .i64 0), (.int .i64 0), (.string ⟨#[]⟩), (.slice none 0 0)] (Int.toNat ((v0n : Nat) : Int)), 38⟩])).bind fun h1 =>
(loopL (B45_0 base) [some (.slice v0 v0n v0n), some (.slice (some ⟨(List.length h), 0, none⟩) (Int.toNat ((v0n : Nat) : Int)) (Int.toNat ((v0n : Nat) : Int))), some (.int .i64 (0 : Int))] h1).bind fun q2 =>
(if q2.1 = 2 then
((sget q2.2.1 0).bind getS).bind fun l3 =>
some ((.slice l3.1 l3.2 l3.2), q2.2.2)
else
none)
else none) : Option (Value × AH)) := by kernel_rfl
theorem r45 {base : Nat} {v0 : Option Addr} {v0n : Nat} {h : AH} {r : Value × AH} (hx :
((if ((v0n : Nat) : Int) = ((v0n : Nat) : Int) ∧ 0 ≤ ((v0n : Nat) : Int) ∧ ((v0n : Nat) : Int) * 56 ≤ 140737488355328 ∧ ((v0n : Nat) : Int) ≤ 140737488355328 then
(some (h ++ [some ⟨rep [(.int .i64 0), (.int .i64 0), (.string ⟨#[]⟩), (.slice none 0 0)] (Int.toNat ((v0n : Nat) : Int)), 38⟩])).bind fun h1 =>
(loopL (B45_0 base) [some (.slice v0 v0n v0n), some (.slice (some ⟨(List.length h), 0, none⟩) (Int.toNat ((v0n : Nat) : Int)) (Int.toNat ((v0n : Nat) : Int))), some (.int .i64 (0 : Int))] h1).bind fun q2 =>
(if q2.1 = 2 then
((sget q2.2.1 0).bind getS).bind fun l3 =>
some ((.slice l3.1 l3.2 l3.2), q2.2.2)
else
none)
else none)) = some r) : run (Et base) 45 [(.slice v0 v0n v0n)] h = some r := run_i Try.func45 (by kernel_rfl) ((f45_eq base v0 v0n h).trans hx)
/-! impl.ActorNew (gates 0) -/
noncomputable def B46_0 (base : Nat) : Body := fun l h => lay s46_0 l fun s => exCode (Et base) (run (Et base)) loopL a46_0 (subC [1, 1, 1, 0, 0, 0] (bodyC Try.f46)) s h (keepK s46_0 e46_0)
theorem B46_0_eq (base : Nat) (v6 : Addr) (v7 : Addr) (h : AH) : B46_0 base [some (.pointer (some v6)), some (.pointer (some v7))] h =
(((cell h v7.block (v7.off + 2)).bind getS).bind fun l1 =>
(if (decide (((l1.2 : Nat) : Int) < (8 : Int))) = true then
((cell h v7.block (v7.off + 2)).bind getS).bind fun l2 =>
(some (h ++ [some ⟨[(.int .i64 (1 : Int)), (.int .i64 (0 : Int)), (.string (⟨#[]⟩ : ByteArray)), (.slice none 0 0)], 38⟩])).bind fun h3 =>
(app base h3 38 4 56 l2.1 l2.2 (rawAt h3 (some ⟨(List.length h), 0, none⟩) (1 * 4)) 1).bind fun p4 =>
((some p4.1).bind getS).bind fun l5 =>
(wr base p4.2 v7.block (v7.off + 2) [(.slice l5.1 l5.2 l5.2)]).bind fun h6 =>
some (0, [some (.pointer (some v6)), some (.pointer (some v7))], h6)
else
some (2, [some (.pointer (some v6)), some (.pointer (some v7))], h)) : Option (Nat × Slots × AH)) := by kernel_rfl
theorem f46_eq (base : Nat) (v0 : Int) (v1 : Int) (v2_0 : Int) (v2_1 : Int) (v2_2 : ByteArray) (v2_3 : Option Addr) (v2_3n : Nat) (h : AH) : exFun (Et base) (run (Et base)) loopL a46 Try.f46 [(.int .i64 v0), (.int .i64 v1), (.agg #[(.int .i64 v2_0), (.int .i64 v2_1), (.string v2_2), (.slice v2_3 v2_3n v2_3n)])] h =
((some (h ++ [some ⟨[(.int .i64 v2_0), (.int .i64 v2_1), (.string v2_2), (.slice v2_3 v2_3n v2_3n)], 38⟩])).bind fun h1 =>
(some (h1 ++ [some ⟨[(.int .i64 0), (.int .i64 0), (.slice none 0 0), (.slice none 0 0), (.slice none 0 0)], 52⟩])).bind fun h2 =>
((run (Et base) 66 [(.int .i64 v0), (.int .i64 (1 : Int)), (.int .i64 (99999 : Int))] h2).bind fun r4 =>
((some r4.1).bind getB).bind fun b5 =>
(if (!b5) = true then
some (.inl ([some (.int .i64 v0), some (.int .i64 v1), some (.pointer (some ⟨(List.length h), 0, none⟩)), some (.pointer (some ⟨(List.length h1), 0, none⟩)), some (.bool true)], r4.2))
else
(if (decide (v1 < (0 : Int))) = true then
some (.inl ([some (.int .i64 v0), some (.int .i64 v1), some (.pointer (some ⟨(List.length h), 0, none⟩)), some (.pointer (some ⟨(List.length h1), 0, none⟩)), some (.bool true)], r4.2))
else
((cell r4.2 (List.length h) 0).bind (getI .i64)).bind fun n6 =>
((cell r4.2 (List.length h) 1).bind (getI .i64)).bind fun n7 =>
((cell r4.2 (List.length h) 2).bind getStr).bind fun s8 =>
((cell r4.2 (List.length h) 3).bind getS).bind fun l9 =>
(run (Et base) 71 [(.agg #[(.int .i64 n6), (.int .i64 n7), (.string s8), (.slice l9.1 l9.2 l9.2)])] r4.2).bind fun r10 =>
((some r10.1).bind getB).bind fun b11 =>
some (.inl ([some (.int .i64 v0), some (.int .i64 v1), some (.pointer (some ⟨(List.length h), 0, none⟩)), some (.pointer (some ⟨(List.length h1), 0, none⟩)), some (.bool (!b11))], r10.2))))).bind fun j3 => joinK j3 fun j3 =>
((sget j3.1 0).bind (getI .i64)).bind fun n12 =>
((sget (j3.1.tail) 0).bind (getI .i64)).bind fun n13 =>
((sget (j3.1.tail.tail) 0).bind getA).bind fun d14 =>
((sget (j3.1.tail.tail.tail) 0).bind getA).bind fun d15 =>
((sget (j3.1.tail.tail.tail.tail) 0).bind getB).bind fun b16 =>
(if b16 = true then
(wr base j3.2 d15.block d15.off [(.int .i64 (0 : Int)), (.int .i64 (0 : Int)), (.slice none 0 0), (.slice none 0 0), (.slice none 0 0)]).bind fun h17 =>
((cell h17 d15.block d15.off).bind (getI .i64)).bind fun n18 =>
((cell h17 d15.block (d15.off + 1)).bind (getI .i64)).bind fun n19 =>
((cell h17 d15.block ((d15.off + 1) + 1)).bind getS).bind fun l20 =>
((cell h17 d15.block (((d15.off + 1) + 1) + 1)).bind getS).bind fun l21 =>
((cell h17 d15.block ((((d15.off + 1) + 1) + 1) + 1)).bind getS).bind fun l22 =>
some ((.agg #[(.int .i64 n18), (.int .i64 n19), (.slice l20.1 l20.2 l20.2), (.slice l21.1 l21.2 l21.2), (.slice l22.1 l22.2 l22.2)]), h17)
else
((cell j3.2 d14.block d14.off).bind (getI .i64)).bind fun n23 =>
((cell j3.2 d14.block (d14.off + 1)).bind (getI .i64)).bind fun n24 =>
((cell j3.2 d14.block ((d14.off + 1) + 1)).bind getStr).bind fun s25 =>
((cell j3.2 d14.block (((d14.off + 1) + 1) + 1)).bind getS).bind fun l26 =>
(run (Et base) 72 [(.agg #[(.int .i64 n23), (.int .i64 n24), (.string s25), (.slice l26.1 l26.2 l26.2)])] j3.2).bind fun r27 =>
((some r27.1).bind (getAgg 4)).bind fun l28 =>
((l28[0]?).bind (getI .i64)).bind fun n29 =>
((l28[1]?).bind (getI .i64)).bind fun n30 =>
((l28[2]?).bind getStr).bind fun s31 =>
((l28[3]?).bind getS).bind fun l32 =>
(some (r27.2 ++ [some ⟨[(.int .i64 n29), (.int .i64 n30), (.string s31), (.slice l32.1 l32.2 l32.2)], 38⟩])).bind fun h33 =>
(some (h33 ++ [some ⟨[(.int .i64 0), (.int .i64 0), (.slice none 0 0), (.slice none 0 0), (.slice none 0 0)], 52⟩])).bind fun h34 =>
(wr base h34 (List.length h33) 0 [(.int .i64 n12), (.int .i64 n13), (.slice (some ⟨(List.length r27.2), 0, none⟩) 1 1), (.slice none 0 0), (.slice none 0 0)]).bind fun h35 =>
(loopL (B46_0 base) [some (.pointer (some d15)), some (.pointer (some ⟨(List.length h33), 0, none⟩))] h35).bind fun q36 =>
(if q36.1 = 2 then
((sget q36.2.1 0).bind getA).bind fun d37 =>
((sget (q36.2.1.tail) 0).bind getA).bind fun d38 =>
((cell q36.2.2 d38.block d38.off).bind (getI .i64)).bind fun n39 =>
((cell q36.2.2 d38.block (d38.off + 1)).bind (getI .i64)).bind fun n40 =>
((cell q36.2.2 d38.block ((d38.off + 1) + 1)).bind getS).bind fun l41 =>
((cell q36.2.2 d38.block (((d38.off + 1) + 1) + 1)).bind getS).bind fun l42 =>
((cell q36.2.2 d38.block ((((d38.off + 1) + 1) + 1) + 1)).bind getS).bind fun l43 =>
(wr base q36.2.2 d37.block d37.off [(.int .i64 n39), (.int .i64 n40), (.slice l41.1 l41.2 l41.2), (.slice l42.1 l42.2 l42.2), (.slice l43.1 l43.2 l43.2)]).bind fun h44 =>
((cell h44 d37.block d37.off).bind (getI .i64)).bind fun n45 =>
((cell h44 d37.block (d37.off + 1)).bind (getI .i64)).bind fun n46 =>
((cell h44 d37.block ((d37.off + 1) + 1)).bind getS).bind fun l47 =>
((cell h44 d37.block (((d37.off + 1) + 1) + 1)).bind getS).bind fun l48 =>
((cell h44 d37.block ((((d37.off + 1) + 1) + 1) + 1)).bind getS).bind fun l49 =>
some ((.agg #[(.int .i64 n45), (.int .i64 n46), (.slice l47.1 l47.2 l47.2), (.slice l48.1 l48.2 l48.2), (.slice l49.1 l49.2 l49.2)]), h44)
else
none)) : Option (Value × AH)) := by kernel_rfl
theorem r46 {base : Nat} {v0 : Int} {v1 : Int} {v2_0 : Int} {v2_1 : Int} {v2_2 : ByteArray} {v2_3 : Option Addr} {v2_3n : Nat} {h : AH} {r : Value × AH} (hx :
((some (h ++ [some ⟨[(.int .i64 v2_0), (.int .i64 v2_1), (.string v2_2), (.slice v2_3 v2_3n v2_3n)], 38⟩])).bind fun h1 =>
(some (h1 ++ [some ⟨[(.int .i64 0), (.int .i64 0), (.slice none 0 0), (.slice none 0 0), (.slice none 0 0)], 52⟩])).bind fun h2 =>
((run (Et base) 66 [(.int .i64 v0), (.int .i64 (1 : Int)), (.int .i64 (99999 : Int))] h2).bind fun r4 =>
((some r4.1).bind getB).bind fun b5 =>
(if (!b5) = true then
some (.inl ([some (.int .i64 v0), some (.int .i64 v1), some (.pointer (some ⟨(List.length h), 0, none⟩)), some (.pointer (some ⟨(List.length h1), 0, none⟩)), some (.bool true)], r4.2))
else
(if (decide (v1 < (0 : Int))) = true then
some (.inl ([some (.int .i64 v0), some (.int .i64 v1), some (.pointer (some ⟨(List.length h), 0, none⟩)), some (.pointer (some ⟨(List.length h1), 0, none⟩)), some (.bool true)], r4.2))
else
((cell r4.2 (List.length h) 0).bind (getI .i64)).bind fun n6 =>
((cell r4.2 (List.length h) 1).bind (getI .i64)).bind fun n7 =>
((cell r4.2 (List.length h) 2).bind getStr).bind fun s8 =>
((cell r4.2 (List.length h) 3).bind getS).bind fun l9 =>
(run (Et base) 71 [(.agg #[(.int .i64 n6), (.int .i64 n7), (.string s8), (.slice l9.1 l9.2 l9.2)])] r4.2).bind fun r10 =>
((some r10.1).bind getB).bind fun b11 =>
some (.inl ([some (.int .i64 v0), some (.int .i64 v1), some (.pointer (some ⟨(List.length h), 0, none⟩)), some (.pointer (some ⟨(List.length h1), 0, none⟩)), some (.bool (!b11))], r10.2))))).bind fun j3 => joinK j3 fun j3 =>
((sget j3.1 0).bind (getI .i64)).bind fun n12 =>
((sget (j3.1.tail) 0).bind (getI .i64)).bind fun n13 =>
((sget (j3.1.tail.tail) 0).bind getA).bind fun d14 =>
((sget (j3.1.tail.tail.tail) 0).bind getA).bind fun d15 =>
((sget (j3.1.tail.tail.tail.tail) 0).bind getB).bind fun b16 =>
(if b16 = true then
(wr base j3.2 d15.block d15.off [(.int .i64 (0 : Int)), (.int .i64 (0 : Int)), (.slice none 0 0), (.slice none 0 0), (.slice none 0 0)]).bind fun h17 =>
((cell h17 d15.block d15.off).bind (getI .i64)).bind fun n18 =>
((cell h17 d15.block (d15.off + 1)).bind (getI .i64)).bind fun n19 =>
((cell h17 d15.block ((d15.off + 1) + 1)).bind getS).bind fun l20 =>
((cell h17 d15.block (((d15.off + 1) + 1) + 1)).bind getS).bind fun l21 =>
((cell h17 d15.block ((((d15.off + 1) + 1) + 1) + 1)).bind getS).bind fun l22 =>
some ((.agg #[(.int .i64 n18), (.int .i64 n19), (.slice l20.1 l20.2 l20.2), (.slice l21.1 l21.2 l21.2), (.slice l22.1 l22.2 l22.2)]), h17)
else
((cell j3.2 d14.block d14.off).bind (getI .i64)).bind fun n23 =>
((cell j3.2 d14.block (d14.off + 1)).bind (getI .i64)).bind fun n24 =>
((cell j3.2 d14.block ((d14.off + 1) + 1)).bind getStr).bind fun s25 =>
((cell j3.2 d14.block (((d14.off + 1) + 1) + 1)).bind getS).bind fun l26 =>
(run (Et base) 72 [(.agg #[(.int .i64 n23), (.int .i64 n24), (.string s25), (.slice l26.1 l26.2 l26.2)])] j3.2).bind fun r27 =>
((some r27.1).bind (getAgg 4)).bind fun l28 =>
((l28[0]?).bind (getI .i64)).bind fun n29 =>
((l28[1]?).bind (getI .i64)).bind fun n30 =>
((l28[2]?).bind getStr).bind fun s31 =>
((l28[3]?).bind getS).bind fun l32 =>
(some (r27.2 ++ [some ⟨[(.int .i64 n29), (.int .i64 n30), (.string s31), (.slice l32.1 l32.2 l32.2)], 38⟩])).bind fun h33 =>
(some (h33 ++ [some ⟨[(.int .i64 0), (.int .i64 0), (.slice none 0 0), (.slice none 0 0), (.slice none 0 0)], 52⟩])).bind fun h34 =>
(wr base h34 (List.length h33) 0 [(.int .i64 n12), (.int .i64 n13), (.slice (some ⟨(List.length r27.2), 0, none⟩) 1 1), (.slice none 0 0), (.slice none 0 0)]).bind fun h35 =>
(loopL (B46_0 base) [some (.pointer (some d15)), some (.pointer (some ⟨(List.length h33), 0, none⟩))] h35).bind fun q36 =>
(if q36.1 = 2 then
((sget q36.2.1 0).bind getA).bind fun d37 =>
((sget (q36.2.1.tail) 0).bind getA).bind fun d38 =>
((cell q36.2.2 d38.block d38.off).bind (getI .i64)).bind fun n39 =>
((cell q36.2.2 d38.block (d38.off + 1)).bind (getI .i64)).bind fun n40 =>
((cell q36.2.2 d38.block ((d38.off + 1) + 1)).bind getS).bind fun l41 =>
((cell q36.2.2 d38.block (((d38.off + 1) + 1) + 1)).bind getS).bind fun l42 =>
((cell q36.2.2 d38.block ((((d38.off + 1) + 1) + 1) + 1)).bind getS).bind fun l43 =>
(wr base q36.2.2 d37.block d37.off [(.int .i64 n39), (.int .i64 n40), (.slice l41.1 l41.2 l41.2), (.slice l42.1 l42.2 l42.2), (.slice l43.1 l43.2 l43.2)]).bind fun h44 =>
((cell h44 d37.block d37.off).bind (getI .i64)).bind fun n45 =>
((cell h44 d37.block (d37.off + 1)).bind (getI .i64)).bind fun n46 =>
((cell h44 d37.block ((d37.off + 1) + 1)).bind getS).bind fun l47 =>
((cell h44 d37.block (((d37.off + 1) + 1) + 1)).bind getS).bind fun l48 =>
((cell h44 d37.block ((((d37.off + 1) + 1) + 1) + 1)).bind getS).bind fun l49 =>
some ((.agg #[(.int .i64 n45), (.int .i64 n46), (.slice l47.1 l47.2 l47.2), (.slice l48.1 l48.2 l48.2), (.slice l49.1 l49.2 l49.2)]), h44)
else
none))) = some r) : run (Et base) 46 [(.int .i64 v0), (.int .i64 v1), (.agg #[(.int .i64 v2_0), (.int .i64 v2_1), (.string v2_2), (.slice v2_3 v2_3n v2_3n)])] h = some r := run_i Try.func46 (by kernel_rfl) ((f46_eq base v0 v1 v2_0 v2_1 v2_2 v2_3 v2_3n h).trans hx)
/-! impl.say (gates 0) -/
theorem f47_eq (base : Nat) (v0 : Option Addr) (v0n : Nat) (v1 : Int) (v2 : Int) (v3_0 : Int) (v3_1 : Int) (v3_2 : ByteArray) (v3_3 : Option Addr) (v3_3n : Nat) (h : AH) : exFun (Et base) (run (Et base)) loopL a47 Try.f47 [(.slice v0 v0n v0n), (.int .i64 v1), (.int .i64 v2), (.agg #[(.int .i64 v3_0), (.int .i64 v3_1), (.string v3_2), (.slice v3_3 v3_3n v3_3n)])] h =
((some (h ++ [some ⟨[(.int .i64 v3_0), (.int .i64 v3_1), (.string v3_2), (.slice v3_3 v3_3n v3_3n)], 38⟩])).bind fun h1 =>
(if (decide (((v0n : Nat) : Int) ≥ (500 : Int))) = true then
some ((.slice v0 v0n v0n), h1)
else
((cell h1 (List.length h) 0).bind (getI .i64)).bind fun n2 =>
((cell h1 (List.length h) 1).bind (getI .i64)).bind fun n3 =>
((cell h1 (List.length h) 2).bind getStr).bind fun s4 =>
((cell h1 (List.length h) 3).bind getS).bind fun l5 =>
(run (Et base) 72 [(.agg #[(.int .i64 n2), (.int .i64 n3), (.string s4), (.slice l5.1 l5.2 l5.2)])] h1).bind fun r6 =>
((some r6.1).bind (getAgg 4)).bind fun l7 =>
((l7[0]?).bind (getI .i64)).bind fun n8 =>
((l7[1]?).bind (getI .i64)).bind fun n9 =>
((l7[2]?).bind getStr).bind fun s10 =>
((l7[3]?).bind getS).bind fun l11 =>
(some (r6.2 ++ [some ⟨[(.int .i64 v1), (.int .i64 v2), (.int .i64 n8), (.int .i64 n9), (.string s10), (.slice l11.1 l11.2 l11.2)], 127⟩])).bind fun h12 =>
(app base h12 127 6 72 v0 v0n (rawAt h12 (some ⟨(List.length r6.2), 0, none⟩) (1 * 6)) 1).bind fun p13 =>
((some p13.1).bind getS).bind fun l14 =>
some ((.slice l14.1 l14.2 l14.2), p13.2)) : Option (Value × AH)) := by kernel_rfl
theorem r47 {base : Nat} {v0 : Option Addr} {v0n : Nat} {v1 : Int} {v2 : Int} {v3_0 : Int} {v3_1 : Int} {v3_2 : ByteArray} {v3_3 : Option Addr} {v3_3n : Nat} {h : AH} {r : Value × AH} (hx :
((some (h ++ [some ⟨[(.int .i64 v3_0), (.int .i64 v3_1), (.string v3_2), (.slice v3_3 v3_3n v3_3n)], 38⟩])).bind fun h1 =>
(if (decide (((v0n : Nat) : Int) ≥ (500 : Int))) = true then
some ((.slice v0 v0n v0n), h1)
else
((cell h1 (List.length h) 0).bind (getI .i64)).bind fun n2 =>
((cell h1 (List.length h) 1).bind (getI .i64)).bind fun n3 =>
((cell h1 (List.length h) 2).bind getStr).bind fun s4 =>
((cell h1 (List.length h) 3).bind getS).bind fun l5 =>
(run (Et base) 72 [(.agg #[(.int .i64 n2), (.int .i64 n3), (.string s4), (.slice l5.1 l5.2 l5.2)])] h1).bind fun r6 =>
((some r6.1).bind (getAgg 4)).bind fun l7 =>
((l7[0]?).bind (getI .i64)).bind fun n8 =>
((l7[1]?).bind (getI .i64)).bind fun n9 =>
((l7[2]?).bind getStr).bind fun s10 =>
((l7[3]?).bind getS).bind fun l11 =>
(some (r6.2 ++ [some ⟨[(.int .i64 v1), (.int .i64 v2), (.int .i64 n8), (.int .i64 n9), (.string s10), (.slice l11.1 l11.2 l11.2)], 127⟩])).bind fun h12 =>
(app base h12 127 6 72 v0 v0n (rawAt h12 (some ⟨(List.length r6.2), 0, none⟩) (1 * 6)) 1).bind fun p13 =>
((some p13.1).bind getS).bind fun l14 =>
some ((.slice l14.1 l14.2 l14.2), p13.2))) = some r) : run (Et base) 47 [(.slice v0 v0n v0n), (.int .i64 v1), (.int .i64 v2), (.agg #[(.int .i64 v3_0), (.int .i64 v3_1), (.string v3_2), (.slice v3_3 v3_3n v3_3n)])] h = some r := run_i Try.func47 (by kernel_rfl) ((f47_eq base v0 v0n v1 v2 v3_0 v3_1 v3_2 v3_3 v3_3n h).trans hx)
/-! laws.eqActorS (gates 0) -/
noncomputable def B48_0 (base : Nat) : Body := fun l h => lay s48_0 l fun s => exCode (Et base) (run (Et base)) loopL a48_0 (subC [1, 1, 0, 1, 0, 0] (bodyC Try.f48)) s h (keepK s48_0 e48_0)
theorem B48_0_eq (base : Nat) (v0 : Option Addr) (v0n : Nat) (v1 : Option Addr) (v1n : Nat) (v5 : Int) (h : AH) : B48_0 base [some (.slice v0 v0n v0n), some (.slice v1 v1n v1n), some (.int .i64 v5)] h =
((if (decide (v5 < ((v0n : Nat) : Int))) = true then
(if 0 ≤ v5 ∧ v5 < ((v0n : Nat) : Int) then
((v0 : Option Addr)).bind fun a1 =>
((cell h a1.block (a1.off + Int.toNat v5 * 5)).bind (getI .i64)).bind fun n2 =>
((cell h a1.block ((a1.off + Int.toNat v5 * 5) + 1)).bind (getI .i64)).bind fun n3 =>
((cell h a1.block (((a1.off + Int.toNat v5 * 5) + 1) + 1)).bind getS).bind fun l4 =>
((cell h a1.block ((((a1.off + Int.toNat v5 * 5) + 1) + 1) + 1)).bind getS).bind fun l5 =>
((cell h a1.block (((((a1.off + Int.toNat v5 * 5) + 1) + 1) + 1) + 1)).bind getS).bind fun l6 =>
(if 0 ≤ v5 ∧ v5 < ((v1n : Nat) : Int) then
((v1 : Option Addr)).bind fun a7 =>
((cell h a7.block (a7.off + Int.toNat v5 * 5)).bind (getI .i64)).bind fun n8 =>
((cell h a7.block ((a7.off + Int.toNat v5 * 5) + 1)).bind (getI .i64)).bind fun n9 =>
((cell h a7.block (((a7.off + Int.toNat v5 * 5) + 1) + 1)).bind getS).bind fun l10 =>
((cell h a7.block ((((a7.off + Int.toNat v5 * 5) + 1) + 1) + 1)).bind getS).bind fun l11 =>
((cell h a7.block (((((a7.off + Int.toNat v5 * 5) + 1) + 1) + 1) + 1)).bind getS).bind fun l12 =>
(run (Et base) 24 [(.agg #[(.int .i64 n2), (.int .i64 n3), (.slice l4.1 l4.2 l4.2), (.slice l5.1 l5.2 l5.2), (.slice l6.1 l6.2 l6.2)]), (.agg #[(.int .i64 n8), (.int .i64 n9), (.slice l10.1 l10.2 l10.2), (.slice l11.1 l11.2 l11.2), (.slice l12.1 l12.2 l12.2)])] h).bind fun r13 =>
((some r13.1).bind getB).bind fun b14 =>
(if (!b14) = true then
some (1, [some (.bool false)], r13.2)
else
some (0, [some (.slice v0 v0n v0n), some (.slice v1 v1n v1n), some (.int .i64 (IntKind.wrap .i64 (v5 + (1 : Int))))], r13.2))
else none)
else none)
else
some (2, [], h)) : Option (Nat × Slots × AH)) := by kernel_rfl
theorem f48_eq (base : Nat) (v0 : Option Addr) (v0n : Nat) (v1 : Option Addr) (v1n : Nat) (h : AH) : exFun (Et base) (run (Et base)) loopL a48 Try.f48 [(.slice v0 v0n v0n), (.slice v1 v1n v1n)] h =
((if (((v0n : Nat) : Int) != ((v1n : Nat) : Int)) = true then
some ((.bool false), h)
else
(loopL (B48_0 base) [some (.slice v0 v0n v0n), some (.slice v1 v1n v1n), some (.int .i64 (0 : Int))] h).bind fun q1 =>
(if q1.1 = 1 then
((sget q1.2.1 0).bind getB).bind fun b2 =>
some ((.bool b2), q1.2.2)
else
(if q1.1 = 2 then
some ((.bool true), q1.2.2)
else
none))) : Option (Value × AH)) := by kernel_rfl
theorem r48 {base : Nat} {v0 : Option Addr} {v0n : Nat} {v1 : Option Addr} {v1n : Nat} {h : AH} {r : Value × AH} (hx :
((if (((v0n : Nat) : Int) != ((v1n : Nat) : Int)) = true then
some ((.bool false), h)
else
(loopL (B48_0 base) [some (.slice v0 v0n v0n), some (.slice v1 v1n v1n), some (.int .i64 (0 : Int))] h).bind fun q1 =>
(if q1.1 = 1 then
((sget q1.2.1 0).bind getB).bind fun b2 =>
some ((.bool b2), q1.2.2)
else
(if q1.1 = 2 then
some ((.bool true), q1.2.2)
else
none)))) = some r) : run (Et base) 48 [(.slice v0 v0n v0n), (.slice v1 v1n v1n)] h = some r := run_i Try.func48 (by kernel_rfl) ((f48_eq base v0 v0n v1 v1n h).trans hx)
/-! laws.eqSaidS (gates 0) -/
noncomputable def B49_0 (base : Nat) : Body := fun l h => lay s49_0 l fun s => exCode (Et base) (run (Et base)) loopL a49_0 (subC [1, 1, 0, 1, 0, 0] (bodyC Try.f49)) s h (keepK s49_0 e49_0)
theorem B49_0_eq (base : Nat) (v0 : Option Addr) (v0n : Nat) (v1 : Option Addr) (v1n : Nat) (v5 : Int) (h : AH) : B49_0 base [some (.slice v0 v0n v0n), some (.slice v1 v1n v1n), some (.int .i64 v5)] h =
((if (decide (v5 < ((v0n : Nat) : Int))) = true then
(if 0 ≤ v5 ∧ v5 < ((v0n : Nat) : Int) then
((v0 : Option Addr)).bind fun a1 =>
((cell h a1.block (a1.off + Int.toNat v5 * 6)).bind (getI .i64)).bind fun n2 =>
((cell h a1.block ((a1.off + Int.toNat v5 * 6) + 1)).bind (getI .i64)).bind fun n3 =>
((cell h a1.block (((a1.off + Int.toNat v5 * 6) + 1) + 1)).bind (getI .i64)).bind fun n4 =>
((cell h a1.block ((((a1.off + Int.toNat v5 * 6) + 1) + 1) + 1)).bind (getI .i64)).bind fun n5 =>
((cell h a1.block (((((a1.off + Int.toNat v5 * 6) + 1) + 1) + 1) + 1)).bind getStr).bind fun s6 =>
((cell h a1.block ((((((a1.off + Int.toNat v5 * 6) + 1) + 1) + 1) + 1) + 1)).bind getS).bind fun l7 =>
(if 0 ≤ v5 ∧ v5 < ((v1n : Nat) : Int) then
((v1 : Option Addr)).bind fun a8 =>
((cell h a8.block (a8.off + Int.toNat v5 * 6)).bind (getI .i64)).bind fun n9 =>
((cell h a8.block ((a8.off + Int.toNat v5 * 6) + 1)).bind (getI .i64)).bind fun n10 =>
((cell h a8.block (((a8.off + Int.toNat v5 * 6) + 1) + 1)).bind (getI .i64)).bind fun n11 =>
((cell h a8.block ((((a8.off + Int.toNat v5 * 6) + 1) + 1) + 1)).bind (getI .i64)).bind fun n12 =>
((cell h a8.block (((((a8.off + Int.toNat v5 * 6) + 1) + 1) + 1) + 1)).bind getStr).bind fun s13 =>
((cell h a8.block ((((((a8.off + Int.toNat v5 * 6) + 1) + 1) + 1) + 1) + 1)).bind getS).bind fun l14 =>
(run (Et base) 103 [(.agg #[(.int .i64 n2), (.int .i64 n3), (.int .i64 n4), (.int .i64 n5), (.string s6), (.slice l7.1 l7.2 l7.2)]), (.agg #[(.int .i64 n9), (.int .i64 n10), (.int .i64 n11), (.int .i64 n12), (.string s13), (.slice l14.1 l14.2 l14.2)])] h).bind fun r15 =>
((some r15.1).bind getB).bind fun b16 =>
(if (!b16) = true then
some (1, [some (.bool false)], r15.2)
else
some (0, [some (.slice v0 v0n v0n), some (.slice v1 v1n v1n), some (.int .i64 (IntKind.wrap .i64 (v5 + (1 : Int))))], r15.2))
else none)
else none)
else
some (2, [], h)) : Option (Nat × Slots × AH)) := by kernel_rfl
theorem f49_eq (base : Nat) (v0 : Option Addr) (v0n : Nat) (v1 : Option Addr) (v1n : Nat) (h : AH) : exFun (Et base) (run (Et base)) loopL a49 Try.f49 [(.slice v0 v0n v0n), (.slice v1 v1n v1n)] h =
((if (((v0n : Nat) : Int) != ((v1n : Nat) : Int)) = true then
some ((.bool false), h)
else
(loopL (B49_0 base) [some (.slice v0 v0n v0n), some (.slice v1 v1n v1n), some (.int .i64 (0 : Int))] h).bind fun q1 =>
(if q1.1 = 1 then
((sget q1.2.1 0).bind getB).bind fun b2 =>
some ((.bool b2), q1.2.2)
else
(if q1.1 = 2 then
some ((.bool true), q1.2.2)
else
none))) : Option (Value × AH)) := by kernel_rfl
theorem r49 {base : Nat} {v0 : Option Addr} {v0n : Nat} {v1 : Option Addr} {v1n : Nat} {h : AH} {r : Value × AH} (hx :
((if (((v0n : Nat) : Int) != ((v1n : Nat) : Int)) = true then
some ((.bool false), h)
else
(loopL (B49_0 base) [some (.slice v0 v0n v0n), some (.slice v1 v1n v1n), some (.int .i64 (0 : Int))] h).bind fun q1 =>
(if q1.1 = 1 then
((sget q1.2.1 0).bind getB).bind fun b2 =>
some ((.bool b2), q1.2.2)
else
(if q1.1 = 2 then
some ((.bool true), q1.2.2)
else
none)))) = some r) : run (Et base) 49 [(.slice v0 v0n v0n), (.slice v1 v1n v1n)] h = some r := run_i Try.func49 (by kernel_rfl) ((f49_eq base v0 v0n v1 v1n h).trans hx)
/-! laws.eqIns (gates 0) -/
theorem f50_eq (base : Nat) (v0_0 : Int) (v0_1 : Int) (v0_2 : Int) (v0_3 : Int) (v0_4 : Int) (v0_5 : ByteArray) (v1_0 : Int) (v1_1 : Int) (v1_2 : Int) (v1_3 : Int) (v1_4 : Int) (v1_5 : ByteArray) (h : AH) : exFun (Et base) (run (Et base)) loopL a50 Try.f50 [(.agg #[(.int .i64 v0_0), (.int .i64 v0_1), (.int .i64 v0_2), (.int .i64 v0_3), (.int .i64 v0_4), (.string v0_5)]), (.agg #[(.int .i64 v1_0), (.int .i64 v1_1), (.int .i64 v1_2), (.int .i64 v1_3), (.int .i64 v1_4), (.string v1_5)])] h =
((some (h ++ [some ⟨[(.int .i64 v0_0), (.int .i64 v0_1), (.int .i64 v0_2), (.int .i64 v0_3), (.int .i64 v0_4), (.string v0_5)], 82⟩])).bind fun h1 =>
(some (h1 ++ [some ⟨[(.int .i64 v1_0), (.int .i64 v1_1), (.int .i64 v1_2), (.int .i64 v1_3), (.int .i64 v1_4), (.string v1_5)], 82⟩])).bind fun h2 =>
((cell h2 (List.length h) 0).bind (getI .i64)).bind fun n3 =>
((cell h2 (List.length h1) 0).bind (getI .i64)).bind fun n4 =>
(if (n3 != n4) = true then
some ((.bool false), h2)
else
((cell h2 (List.length h) 1).bind (getI .i64)).bind fun n5 =>
((cell h2 (List.length h1) 1).bind (getI .i64)).bind fun n6 =>
(if (n5 != n6) = true then
some ((.bool false), h2)
else
((cell h2 (List.length h) 2).bind (getI .i64)).bind fun n7 =>
((cell h2 (List.length h1) 2).bind (getI .i64)).bind fun n8 =>
(if (n7 != n8) = true then
some ((.bool false), h2)
else
((cell h2 (List.length h) 3).bind (getI .i64)).bind fun n9 =>
((cell h2 (List.length h1) 3).bind (getI .i64)).bind fun n10 =>
(if (n9 != n10) = true then
some ((.bool false), h2)
else
((cell h2 (List.length h) 4).bind (getI .i64)).bind fun n11 =>
((cell h2 (List.length h1) 4).bind (getI .i64)).bind fun n12 =>
(if (n11 != n12) = true then
some ((.bool false), h2)
else
((cell h2 (List.length h) 5).bind getStr).bind fun s13 =>
((cell h2 (List.length h1) 5).bind getStr).bind fun s14 =>
(if (!(s13.toList == s14.toList)) = true then
some ((.bool false), h2)
else
some ((.bool true), h2))))))) : Option (Value × AH)) := by kernel_rfl
theorem r50 {base : Nat} {v0_0 : Int} {v0_1 : Int} {v0_2 : Int} {v0_3 : Int} {v0_4 : Int} {v0_5 : ByteArray} {v1_0 : Int} {v1_1 : Int} {v1_2 : Int} {v1_3 : Int} {v1_4 : Int} {v1_5 : ByteArray} {h : AH} {r : Value × AH} (hx :
((some (h ++ [some ⟨[(.int .i64 v0_0), (.int .i64 v0_1), (.int .i64 v0_2), (.int .i64 v0_3), (.int .i64 v0_4), (.string v0_5)], 82⟩])).bind fun h1 =>
(some (h1 ++ [some ⟨[(.int .i64 v1_0), (.int .i64 v1_1), (.int .i64 v1_2), (.int .i64 v1_3), (.int .i64 v1_4), (.string v1_5)], 82⟩])).bind fun h2 =>
((cell h2 (List.length h) 0).bind (getI .i64)).bind fun n3 =>
((cell h2 (List.length h1) 0).bind (getI .i64)).bind fun n4 =>
(if (n3 != n4) = true then
some ((.bool false), h2)
else
((cell h2 (List.length h) 1).bind (getI .i64)).bind fun n5 =>
((cell h2 (List.length h1) 1).bind (getI .i64)).bind fun n6 =>
(if (n5 != n6) = true then
some ((.bool false), h2)
else
((cell h2 (List.length h) 2).bind (getI .i64)).bind fun n7 =>
((cell h2 (List.length h1) 2).bind (getI .i64)).bind fun n8 =>
(if (n7 != n8) = true then
some ((.bool false), h2)
else
((cell h2 (List.length h) 3).bind (getI .i64)).bind fun n9 =>
((cell h2 (List.length h1) 3).bind (getI .i64)).bind fun n10 =>
(if (n9 != n10) = true then
some ((.bool false), h2)
else
((cell h2 (List.length h) 4).bind (getI .i64)).bind fun n11 =>
((cell h2 (List.length h1) 4).bind (getI .i64)).bind fun n12 =>
(if (n11 != n12) = true then
some ((.bool false), h2)
else
((cell h2 (List.length h) 5).bind getStr).bind fun s13 =>
((cell h2 (List.length h1) 5).bind getStr).bind fun s14 =>
(if (!(s13.toList == s14.toList)) = true then
some ((.bool false), h2)
else
some ((.bool true), h2)))))))) = some r) : run (Et base) 50 [(.agg #[(.int .i64 v0_0), (.int .i64 v0_1), (.int .i64 v0_2), (.int .i64 v0_3), (.int .i64 v0_4), (.string v0_5)]), (.agg #[(.int .i64 v1_0), (.int .i64 v1_1), (.int .i64 v1_2), (.int .i64 v1_3), (.int .i64 v1_4), (.string v1_5)])] h = some r := run_i Try.func50 (by kernel_rfl) ((f50_eq base v0_0 v0_1 v0_2 v0_3 v0_4 v0_5 v1_0 v1_1 v1_2 v1_3 v1_4 v1_5 h).trans hx)
/-! laws.eqTermS (gates 0) -/
noncomputable def B51_0 (base : Nat) : Body := fun l h => lay s51_0 l fun s => exCode (Et base) (run (Et base)) loopL a51_0 (subC [1, 1, 0, 1, 0, 0] (bodyC Try.f51)) s h (keepK s51_0 e51_0)
theorem B51_0_eq (base : Nat) (v0 : Option Addr) (v0n : Nat) (v1 : Option Addr) (v1n : Nat) (v5 : Int) (h : AH) : B51_0 base [some (.slice v0 v0n v0n), some (.slice v1 v1n v1n), some (.int .i64 v5)] h =
((if (decide (v5 < ((v0n : Nat) : Int))) = true then
(if 0 ≤ v5 ∧ v5 < ((v0n : Nat) : Int) then
((v0 : Option Addr)).bind fun a1 =>
((cell h a1.block (a1.off + Int.toNat v5 * 4)).bind (getI .i64)).bind fun n2 =>
((cell h a1.block ((a1.off + Int.toNat v5 * 4) + 1)).bind (getI .i64)).bind fun n3 =>
((cell h a1.block (((a1.off + Int.toNat v5 * 4) + 1) + 1)).bind getStr).bind fun s4 =>
((cell h a1.block ((((a1.off + Int.toNat v5 * 4) + 1) + 1) + 1)).bind getS).bind fun l5 =>
(if 0 ≤ v5 ∧ v5 < ((v1n : Nat) : Int) then
((v1 : Option Addr)).bind fun a6 =>
((cell h a6.block (a6.off + Int.toNat v5 * 4)).bind (getI .i64)).bind fun n7 =>
((cell h a6.block ((a6.off + Int.toNat v5 * 4) + 1)).bind (getI .i64)).bind fun n8 =>
((cell h a6.block (((a6.off + Int.toNat v5 * 4) + 1) + 1)).bind getStr).bind fun s9 =>
((cell h a6.block ((((a6.off + Int.toNat v5 * 4) + 1) + 1) + 1)).bind getS).bind fun l10 =>
(run (Et base) 15 [(.agg #[(.int .i64 n2), (.int .i64 n3), (.string s4), (.slice l5.1 l5.2 l5.2)]), (.agg #[(.int .i64 n7), (.int .i64 n8), (.string s9), (.slice l10.1 l10.2 l10.2)])] h).bind fun r11 =>
((some r11.1).bind getB).bind fun b12 =>
(if (!b12) = true then
some (1, [some (.bool false)], r11.2)
else
some (0, [some (.slice v0 v0n v0n), some (.slice v1 v1n v1n), some (.int .i64 (IntKind.wrap .i64 (v5 + (1 : Int))))], r11.2))
else none)
else none)
else
some (2, [], h)) : Option (Nat × Slots × AH)) := by kernel_rfl
theorem f51_eq (base : Nat) (v0 : Option Addr) (v0n : Nat) (v1 : Option Addr) (v1n : Nat) (h : AH) : exFun (Et base) (run (Et base)) loopL a51 Try.f51 [(.slice v0 v0n v0n), (.slice v1 v1n v1n)] h =
((if (((v0n : Nat) : Int) != ((v1n : Nat) : Int)) = true then
some ((.bool false), h)
else
(loopL (B51_0 base) [some (.slice v0 v0n v0n), some (.slice v1 v1n v1n), some (.int .i64 (0 : Int))] h).bind fun q1 =>
(if q1.1 = 1 then
((sget q1.2.1 0).bind getB).bind fun b2 =>
some ((.bool b2), q1.2.2)
else
(if q1.1 = 2 then
some ((.bool true), q1.2.2)
else
none))) : Option (Value × AH)) := by kernel_rfl
theorem r51 {base : Nat} {v0 : Option Addr} {v0n : Nat} {v1 : Option Addr} {v1n : Nat} {h : AH} {r : Value × AH} (hx :
((if (((v0n : Nat) : Int) != ((v1n : Nat) : Int)) = true then
some ((.bool false), h)
else
(loopL (B51_0 base) [some (.slice v0 v0n v0n), some (.slice v1 v1n v1n), some (.int .i64 (0 : Int))] h).bind fun q1 =>
(if q1.1 = 1 then
((sget q1.2.1 0).bind getB).bind fun b2 =>
some ((.bool b2), q1.2.2)
else
(if q1.1 = 2 then
some ((.bool true), q1.2.2)
else
none)))) = some r) : run (Et base) 51 [(.slice v0 v0n v0n), (.slice v1 v1n v1n)] h = some r := run_i Try.func51 (by kernel_rfl) ((f51_eq base v0 v0n v1 v1n h).trans hx)
/-! laws.markText (gates 0) -/
noncomputable def B52_0 (base : Nat) : Body := fun l h => lay s52_0 l fun s => exCode (Et base) (run (Et base)) loopL a52_0 (subC [1, 1, 1, 0, 0, 0] (bodyC Try.f52)) s h (keepK s52_0 e52_0)
theorem B52_0_eq (base : Nat) (v0 : Int) (v3 : ByteArray) (h : AH) : B52_0 base [some (.int .i64 v0), some (.string v3)] h =
((if (decide (v0 > (0 : Int))) = true then
(some (h ++ [some ⟨[(.int .u8 (IntKind.wrap .u8 (IntKind.wrap .i64 ((48 : Int) + (Int.tmod v0 (10 : Int))))))], 5⟩])).bind fun h1 =>
((rawAt h1 (some ⟨(List.length h), 0, none⟩) 1).bind u8s).bind fun z2 =>
(if (bstr z2).size + v3.size ≤ 9223372036854775807 then
some (0, [some (.int .i64 (IntKind.wrap .i64 (Int.tdiv v0 (10 : Int)))), some (.string ((bstr z2) ++ v3))], h1)
else none)
else
some (2, [some (.string v3)], h)) : Option (Nat × Slots × AH)) := by kernel_rfl
theorem f52_eq (base : Nat) (v0 : Int) (h : AH) : exFun (Et base) (run (Et base)) loopL a52 Try.f52 [(.int .i64 v0)] h =
((if (decide (v0 ≤ (0 : Int))) = true then
some ((.string (⟨#[109, 48]⟩ : ByteArray)), h)
else
(loopL (B52_0 base) [some (.int .i64 v0), some (.string (⟨#[]⟩ : ByteArray))] h).bind fun q1 =>
(if q1.1 = 2 then
((sget q1.2.1 0).bind getStr).bind fun s2 =>
(if (⟨#[109]⟩ : ByteArray).size + s2.size ≤ 9223372036854775807 then
some ((.string ((⟨#[109]⟩ : ByteArray) ++ s2)), q1.2.2)
else none)
else
none)) : Option (Value × AH)) := by kernel_rfl
theorem r52 {base : Nat} {v0 : Int} {h : AH} {r : Value × AH} (hx :
((if (decide (v0 ≤ (0 : Int))) = true then
some ((.string (⟨#[109, 48]⟩ : ByteArray)), h)
else
(loopL (B52_0 base) [some (.int .i64 v0), some (.string (⟨#[]⟩ : ByteArray))] h).bind fun q1 =>
(if q1.1 = 2 then
((sget q1.2.1 0).bind getStr).bind fun s2 =>
(if (⟨#[109]⟩ : ByteArray).size + s2.size ≤ 9223372036854775807 then
some ((.string ((⟨#[109]⟩ : ByteArray) ++ s2)), q1.2.2)
else none)
else
none))) = some r) : run (Et base) 52 [(.int .i64 v0)] h = some r := run_i Try.func52 (by kernel_rfl) ((f52_eq base v0 h).trans hx)
/-! laws.markTermS (gates 0) -/
noncomputable def B53_0 (base : Nat) : Body := fun l h => lay s53_0 l fun s => exCode (Et base) (run (Et base)) loopL a53_0 (subC [1, 0, 1, 0, 0] (bodyC Try.f53)) s h (keepK s53_0 e53_0)
theorem B53_0_eq (base : Nat) (v0 : Option Addr) (v0n : Nat) (v1 : Int) (v5 : Int) (h : AH) : B53_0 base [some (.slice v0 v0n v0n), some (.int .i64 v1), some (.int .i64 v5)] h =
((if (decide (v5 < ((v0n : Nat) : Int))) = true then
(if 0 ≤ v5 ∧ v5 < ((v0n : Nat) : Int) then
((v0 : Option Addr)).bind fun a1 =>
(wr base h a1.block ((a1.off + Int.toNat v5 * 4) + 0) [(.int .i64 v1)]).bind fun h2 =>
(if 0 ≤ v5 ∧ v5 < ((v0n : Nat) : Int) then
((v0 : Option Addr)).bind fun a3 =>
(wr base h2 a3.block ((a3.off + Int.toNat v5 * 4) + 1) [(.int .i64 (IntKind.wrap .i64 (v1 + (1 : Int))))]).bind fun h4 =>
(run (Et base) 52 [(.int .i64 (IntKind.wrap .i64 ((IntKind.wrap .i64 (v1 + (1 : Int))) + (1 : Int))))] h4).bind fun r5 =>
((some r5.1).bind getStr).bind fun s6 =>
(if 0 ≤ v5 ∧ v5 < ((v0n : Nat) : Int) then
((v0 : Option Addr)).bind fun a7 =>
(wr base r5.2 a7.block ((a7.off + Int.toNat v5 * 4) + 2) [(.string s6)]).bind fun h8 =>
(if 0 ≤ v5 ∧ v5 < ((v0n : Nat) : Int) then
((v0 : Option Addr)).bind fun a9 =>
((cell h8 a9.block ((a9.off + Int.toNat v5 * 4) + 3)).bind getS).bind fun l10 =>
(run (Et base) 53 [(.slice l10.1 l10.2 l10.2), (.int .i64 (IntKind.wrap .i64 ((IntKind.wrap .i64 ((IntKind.wrap .i64 (v1 + (1 : Int))) + (1 : Int))) + (1 : Int))))] h8).bind fun r11 =>
((some r11.1).bind (getI .i64)).bind fun n12 =>
some (0, [some (.slice v0 v0n v0n), some (.int .i64 n12), some (.int .i64 (IntKind.wrap .i64 (v5 + (1 : Int))))], r11.2)
else none)
else none)
else none)
else none)
else
some (2, [some (.int .i64 v1)], h)) : Option (Nat × Slots × AH)) := by kernel_rfl
theorem f53_eq (base : Nat) (v0 : Option Addr) (v0n : Nat) (v1 : Int) (h : AH) : exFun (Et base) (run (Et base)) loopL a53 Try.f53 [(.slice v0 v0n v0n), (.int .i64 v1)] h =
((loopL (B53_0 base) [some (.slice v0 v0n v0n), some (.int .i64 v1), some (.int .i64 (0 : Int))] h).bind fun q1 =>
(if q1.1 = 2 then
((sget q1.2.1 0).bind (getI .i64)).bind fun n2 =>
some ((.int .i64 n2), q1.2.2)
else
none) : Option (Value × AH)) := by kernel_rfl
theorem r53 {base : Nat} {v0 : Option Addr} {v0n : Nat} {v1 : Int} {h : AH} {r : Value × AH} (hx :
((loopL (B53_0 base) [some (.slice v0 v0n v0n), some (.int .i64 v1), some (.int .i64 (0 : Int))] h).bind fun q1 =>
(if q1.1 = 2 then
((sget q1.2.1 0).bind (getI .i64)).bind fun n2 =>
some ((.int .i64 n2), q1.2.2)
else
none)) = some r) : run (Et base) 53 [(.slice v0 v0n v0n), (.int .i64 v1)] h = some r := run_i Try.func53 (by kernel_rfl) ((f53_eq base v0 v0n v1 h).trans hx)
/-! laws.markActorS (gates 0) -/
noncomputable def B54_0 (base : Nat) : Body := fun l h => lay s54_0 l fun s => exCode (Et base) (run (Et base)) loopL a54_0 (subC [1, 0, 1, 0, 0] (bodyC Try.f54)) s h (keepK s54_0 e54_0)
theorem B54_0_eq (base : Nat) (v0 : Option Addr) (v0n : Nat) (v1 : Int) (v5 : Int) (h : AH) : B54_0 base [some (.slice v0 v0n v0n), some (.int .i64 v1), some (.int .i64 v5)] h =
((if (decide (v5 < ((v0n : Nat) : Int))) = true then
(if 0 ≤ v5 ∧ v5 < ((v0n : Nat) : Int) then
((v0 : Option Addr)).bind fun a1 =>
(wr base h a1.block ((a1.off + Int.toNat v5 * 5) + 0) [(.int .i64 v1)]).bind fun h2 =>
(if 0 ≤ v5 ∧ v5 < ((v0n : Nat) : Int) then
((v0 : Option Addr)).bind fun a3 =>
(wr base h2 a3.block ((a3.off + Int.toNat v5 * 5) + 1) [(.int .i64 (IntKind.wrap .i64 (v1 + (1 : Int))))]).bind fun h4 =>
(if 0 ≤ v5 ∧ v5 < ((v0n : Nat) : Int) then
((v0 : Option Addr)).bind fun a5 =>
((cell h4 a5.block ((a5.off + Int.toNat v5 * 5) + 2)).bind getS).bind fun l6 =>
(run (Et base) 53 [(.slice l6.1 l6.2 l6.2), (.int .i64 (IntKind.wrap .i64 ((IntKind.wrap .i64 (v1 + (1 : Int))) + (1 : Int))))] h4).bind fun r7 =>
((some r7.1).bind (getI .i64)).bind fun n8 =>
(if 0 ≤ v5 ∧ v5 < ((v0n : Nat) : Int) then
((v0 : Option Addr)).bind fun a9 =>
((cell r7.2 a9.block ((a9.off + Int.toNat v5 * 5) + 3)).bind getS).bind fun l10 =>
(run (Et base) 53 [(.slice l10.1 l10.2 l10.2), (.int .i64 n8)] r7.2).bind fun r11 =>
((some r11.1).bind (getI .i64)).bind fun n12 =>
(if 0 ≤ v5 ∧ v5 < ((v0n : Nat) : Int) then
((v0 : Option Addr)).bind fun a13 =>
((cell r11.2 a13.block ((a13.off + Int.toNat v5 * 5) + 4)).bind getS).bind fun l14 =>
(run (Et base) 75 [(.slice l14.1 l14.2 l14.2), (.int .i64 n12)] r11.2).bind fun r15 =>
((some r15.1).bind (getI .i64)).bind fun n16 =>
some (0, [some (.slice v0 v0n v0n), some (.int .i64 n16), some (.int .i64 (IntKind.wrap .i64 (v5 + (1 : Int))))], r15.2)
else none)
else none)
else none)
else none)
else none)
else
some (2, [some (.int .i64 v1)], h)) : Option (Nat × Slots × AH)) := by kernel_rfl
theorem f54_eq (base : Nat) (v0 : Option Addr) (v0n : Nat) (v1 : Int) (h : AH) : exFun (Et base) (run (Et base)) loopL a54 Try.f54 [(.slice v0 v0n v0n), (.int .i64 v1)] h =
((loopL (B54_0 base) [some (.slice v0 v0n v0n), some (.int .i64 v1), some (.int .i64 (0 : Int))] h).bind fun q1 =>
(if q1.1 = 2 then
((sget q1.2.1 0).bind (getI .i64)).bind fun n2 =>
some ((.int .i64 n2), q1.2.2)
else
none) : Option (Value × AH)) := by kernel_rfl
theorem r54 {base : Nat} {v0 : Option Addr} {v0n : Nat} {v1 : Int} {h : AH} {r : Value × AH} (hx :
((loopL (B54_0 base) [some (.slice v0 v0n v0n), some (.int .i64 v1), some (.int .i64 (0 : Int))] h).bind fun q1 =>
(if q1.1 = 2 then
((sget q1.2.1 0).bind (getI .i64)).bind fun n2 =>
some ((.int .i64 n2), q1.2.2)
else
none)) = some r) : run (Et base) 54 [(.slice v0 v0n v0n), (.int .i64 v1)] h = some r := run_i Try.func54 (by kernel_rfl) ((f54_eq base v0 v0n v1 h).trans hx)
end Go.Proofs.Ytolcnednfbbnnaa.Am
