/- What each of these functions comes to on the abstract machine, one equation a function and one a loop.
Conditions: none. -/
import Derived.Test.YtolcnednfbbnnaaTb
set_option linter.unusedVariables false
set_option maxRecDepth 100000
namespace Go.Proofs.Ytolcnednfbbnnaa.Am
open Go Go.RowKit
/-! spec.l9Terms (gates 0) -/
noncomputable def B104_0 (base : Nat) : Body := fun l h => lay s104_0 l fun s => exCode (Et base) (run (Et base)) loopL a104_0 (subC [1, 0, 1, 0, 0] (bodyC Try.f104)) s h (keepK s104_0 e104_0)
theorem B104_0_eq (base : Nat) (v0 : Option Addr) (v0n : Nat) (v3 : Int) (h : AH) : B104_0 base [some (.slice v0 v0n v0n), some (.int .i64 v3)] h =
((if (decide (v3 < ((v0n : Nat) : Int))) = true then
(if 0 ≤ v3 ∧ v3 < ((v0n : Nat) : Int) then
((v0 : Option Addr)).bind fun a1 =>
((cell h a1.block (a1.off + Int.toNat v3 * 4)).bind (getI .i64)).bind fun n2 =>
((cell h a1.block ((a1.off + Int.toNat v3 * 4) + 1)).bind (getI .i64)).bind fun n3 =>
((cell h a1.block (((a1.off + Int.toNat v3 * 4) + 1) + 1)).bind getStr).bind fun s4 =>
((cell h a1.block ((((a1.off + Int.toNat v3 * 4) + 1) + 1) + 1)).bind getS).bind fun l5 =>
(run (Et base) 95 [(.agg #[(.int .i64 n2), (.int .i64 n3), (.string s4), (.slice l5.1 l5.2 l5.2)])] h).bind fun r6 =>
((some r6.1).bind getB).bind fun b7 =>
(if (!b7) = true then
some (1, [some (.bool false)], r6.2)
else
some (0, [some (.slice v0 v0n v0n), some (.int .i64 (IntKind.wrap .i64 (v3 + (1 : Int))))], r6.2))
else none)
else
some (2, [], h)) : Option (Nat × Slots × AH)) := by kernel_rfl
theorem f104_eq (base : Nat) (v0 : Option Addr) (v0n : Nat) (h : AH) : exFun (Et base) (run (Et base)) loopL a104 Try.f104 [(.slice v0 v0n v0n)] h =
((loopL (B104_0 base) [some (.slice v0 v0n v0n), some (.int .i64 (0 : Int))] h).bind fun q1 =>
(if q1.1 = 1 then
((sget q1.2.1 0).bind getB).bind fun b2 =>
some ((.bool b2), q1.2.2)
else
(if q1.1 = 2 then
some ((.bool true), q1.2.2)
else
none)) : Option (Value × AH)) := by kernel_rfl
theorem r104 {base : Nat} {v0 : Option Addr} {v0n : Nat} {h : AH} {r : Value × AH} (hx :
((loopL (B104_0 base) [some (.slice v0 v0n v0n), some (.int .i64 (0 : Int))] h).bind fun q1 =>
(if q1.1 = 1 then
((sget q1.2.1 0).bind getB).bind fun b2 =>
some ((.bool b2), q1.2.2)
else
(if q1.1 = 2 then
some ((.bool true), q1.2.2)
else
none))) = some r) : run (Et base) 104 [(.slice v0 v0n v0n)] h = some r := run_i Try.func104 (by kernel_rfl) ((f104_eq base v0 v0n h).trans hx)
/-! spec.l9Links (gates 0) -/
noncomputable def B105_0 (base : Nat) : Body := fun l h => lay s105_0 l fun s => exCode (Et base) (run (Et base)) loopL a105_0 (subC [1, 0, 1, 0, 0] (bodyC Try.f105)) s h (keepK s105_0 e105_0)
theorem B105_0_eq (base : Nat) (v0 : Option Addr) (v0n : Nat) (v1 : Int) (v5 : Int) (h : AH) : B105_0 base [some (.slice v0 v0n v0n), some (.int .i64 v1), some (.int .i64 v5)] h =
((if (decide (v5 < ((v0n : Nat) : Int))) = true then
((if 0 ≤ v5 ∧ v5 < ((v0n : Nat) : Int) then
((v0 : Option Addr)).bind fun a2 =>
((cell h a2.block (a2.off + Int.toNat v5 * 1)).bind (getI .i64)).bind fun n3 =>
(run (Et base) 61 [(.int .i64 n3), (.int .i64 (1 : Int)), (.int .i64 (99999 : Int))] h).bind fun r4 =>
((some r4.1).bind getB).bind fun b5 =>
(if (!b5) = true then
some (.inl ([some (.slice v0 v0n v0n), some (.int .i64 v1), some (.int .i64 v5), some (.bool true)], r4.2))
else
(if 0 ≤ v5 ∧ v5 < ((v0n : Nat) : Int) then
((v0 : Option Addr)).bind fun a6 =>
((cell r4.2 a6.block (a6.off + Int.toNat v5 * 1)).bind (getI .i64)).bind fun n7 =>
(if (n7 == v1) = true then
some (.inl ([some (.slice v0 v0n v0n), some (.int .i64 v1), some (.int .i64 v5), some (.bool true)], r4.2))
else
(if (decide (v5 > (0 : Int))) = true then
(if 0 ≤ (IntKind.wrap .i64 (v5 - (1 : Int))) ∧ (IntKind.wrap .i64 (v5 - (1 : Int))) < ((v0n : Nat) : Int) then
((v0 : Option Addr)).bind fun a8 =>
((cell r4.2 a8.block (a8.off + Int.toNat (IntKind.wrap .i64 (v5 - (1 : Int))) * 1)).bind (getI .i64)).bind fun n9 =>
(if 0 ≤ v5 ∧ v5 < ((v0n : Nat) : Int) then
((v0 : Option Addr)).bind fun a10 =>
((cell r4.2 a10.block (a10.off + Int.toNat v5 * 1)).bind (getI .i64)).bind fun n11 =>
some (.inl ([some (.slice v0 v0n v0n), some (.int .i64 v1), some (.int .i64 v5), some (.bool (decide (n9 ≥ n11)))], r4.2))
else none)
else none)
else
some (.inl ([some (.slice v0 v0n v0n), some (.int .i64 v1), some (.int .i64 v5), some (.bool false)], r4.2))))
else none))
else none)).bind fun j1 => joinK j1 fun j1 =>
((sget j1.1 0).bind getS).bind fun l12 =>
((sget (j1.1.tail) 0).bind (getI .i64)).bind fun n13 =>
((sget (j1.1.tail.tail) 0).bind (getI .i64)).bind fun n14 =>
((sget (j1.1.tail.tail.tail) 0).bind getB).bind fun b15 =>
(if b15 = true then
some (1, [some (.bool false)], j1.2)
else
some (0, [some (.slice l12.1 l12.2 l12.2), some (.int .i64 n13), some (.int .i64 (IntKind.wrap .i64 (n14 + (1 : Int))))], j1.2))
else
some (2, [some (.slice v0 v0n v0n)], h)) : Option (Nat × Slots × AH)) := by kernel_rfl
theorem f105_eq (base : Nat) (v0 : Option Addr) (v0n : Nat) (v1 : Int) (h : AH) : exFun (Et base) (run (Et base)) loopL a105 Try.f105 [(.slice v0 v0n v0n), (.int .i64 v1)] h =
((loopL (B105_0 base) [some (.slice v0 v0n v0n), some (.int .i64 v1), some (.int .i64 (0 : Int))] h).bind fun q1 =>
(if q1.1 = 1 then
((sget q1.2.1 0).bind getB).bind fun b2 =>
some ((.bool b2), q1.2.2)
else
(if q1.1 = 2 then
((sget q1.2.1 0).bind getS).bind fun l3 =>
some ((.bool (decide (((l3.2 : Nat) : Int) ≤ (50 : Int)))), q1.2.2)
else
none)) : Option (Value × AH)) := by kernel_rfl
theorem r105 {base : Nat} {v0 : Option Addr} {v0n : Nat} {v1 : Int} {h : AH} {r : Value × AH} (hx :
((loopL (B105_0 base) [some (.slice v0 v0n v0n), some (.int .i64 v1), some (.int .i64 (0 : Int))] h).bind fun q1 =>
(if q1.1 = 1 then
((sget q1.2.1 0).bind getB).bind fun b2 =>
some ((.bool b2), q1.2.2)
else
(if q1.1 = 2 then
((sget q1.2.1 0).bind getS).bind fun l3 =>
some ((.bool (decide (((l3.2 : Nat) : Int) ≤ (50 : Int)))), q1.2.2)
else
none))) = some r) : run (Et base) 105 [(.slice v0 v0n v0n), (.int .i64 v1)] h = some r := run_i Try.func105 (by kernel_rfl) ((f105_eq base v0 v0n v1 h).trans hx)
/-! impl.copyTerms (gates 0) -/
noncomputable def B110_0 (base : Nat) : Body := fun l h => lay s110_0 l fun s => exCode (Et base) (run (Et base)) loopL a110_0 (subC [1, 1, 0, 1, 0, 0] (bodyC Try.f110)) s h (keepK s110_0 e110_0)
theorem B110_0_eq (base : Nat) (v3 : Option Addr) (v3n : Nat) (v6 : Option Addr) (v6n : Nat) (v7 : Int) (v8 : Int) (h : AH) : B110_0 base [some (.slice v3 v3n v3n), some (.slice v6 v6n v6n), some (.int .i64 v7), some (.int .i64 v8)] h =
((if (decide (v8 < v7)) = true then
(if 0 ≤ v8 ∧ v8 < ((v6n : Nat) : Int) then
((v6 : Option Addr)).bind fun a1 =>
((cell h a1.block (a1.off + Int.toNat v8 * 4)).bind (getI .i64)).bind fun n2 =>
((cell h a1.block ((a1.off + Int.toNat v8 * 4) + 1)).bind (getI .i64)).bind fun n3 =>
((cell h a1.block (((a1.off + Int.toNat v8 * 4) + 1) + 1)).bind getStr).bind fun s4 =>
((cell h a1.block ((((a1.off + Int.toNat v8 * 4) + 1) + 1) + 1)).bind getS).bind fun l5 =>
(some (h ++ [some ⟨[(.int .i64 0), (.int .i64 0), (.string ⟨#[]⟩), (.slice none 0 0)], 38⟩])).bind fun h6 =>
(wr base h6 (List.length h) 0 [(.int .i64 n2), (.int .i64 n3), (.string s4), (.slice l5.1 l5.2 l5.2)]).bind fun h7 =>
((cell h7 (List.length h) 0).bind (getI .i64)).bind fun n8 =>
((cell h7 (List.length h) 1).bind (getI .i64)).bind fun n9 =>
((cell h7 (List.length h) 2).bind getStr).bind fun s10 =>
((cell h7 (List.length h) 3).bind getS).bind fun l11 =>
(run (Et base) 72 [(.agg #[(.int .i64 n8), (.int .i64 n9), (.string s10), (.slice l11.1 l11.2 l11.2)])] h7).bind fun r12 =>
((some r12.1).bind (getAgg 4)).bind fun l13 =>
((l13[0]?).bind (getI .i64)).bind fun n14 =>
((l13[1]?).bind (getI .i64)).bind fun n15 =>
((l13[2]?).bind getStr).bind fun s16 =>
((l13[3]?).bind getS).bind fun l17 =>
(some (r12.2 ++ [some ⟨[(.int .i64 n14), (.int .i64 n15), (.string s16), (.slice l17.1 l17.2 l17.2)], 38⟩])).bind fun h18 =>
(app base h18 38 4 56 v3 v3n (rawAt h18 (some ⟨(List.length r12.2), 0, none⟩) (1 * 4)) 1).bind fun p19 =>
((some p19.1).bind getS).bind fun l20 =>
some (0, [some (.slice l20.1 l20.2 l20.2), some (.slice v6 v6n v6n), some (.int .i64 v7), some (.int .i64 (IntKind.wrap .i64 (v8 + (1 : Int))))], p19.2)
else none)
else
some (2, [some (.slice v3 v3n v3n)], h)) : Option (Nat × Slots × AH)) := by kernel_rfl
theorem f110_eq (base : Nat) (v0 : Option Addr) (v0n : Nat) (h : AH) : exFun (Et base) (run (Et base)) loopL a110 Try.f110 [(.slice v0 v0n v0n)] h =
((loopL (B110_0 base) [some (.slice none 0 0), some (.slice v0 v0n v0n), some (.int .i64 ((v0n : Nat) : Int)), some (.int .i64 (0 : Int))] h).bind fun q1 =>
(if q1.1 = 2 then
((sget q1.2.1 0).bind getS).bind fun l2 =>
some ((.slice l2.1 l2.2 l2.2), q1.2.2)
else
none) : Option (Value × AH)) := by kernel_rfl
theorem r110 {base : Nat} {v0 : Option Addr} {v0n : Nat} {h : AH} {r : Value × AH} (hx :
((loopL (B110_0 base) [some (.slice none 0 0), some (.slice v0 v0n v0n), some (.int .i64 ((v0n : Nat) : Int)), some (.int .i64 (0 : Int))] h).bind fun q1 =>
(if q1.1 = 2 then
((sget q1.2.1 0).bind getS).bind fun l2 =>
some ((.slice l2.1 l2.2 l2.2), q1.2.2)
else
none)) = some r) : run (Et base) 110 [(.slice v0 v0n v0n)] h = some r := run_i Try.func110 (by kernel_rfl) ((f110_eq base v0 v0n h).trans hx)
/-! impl.counted (gates 0) -/
noncomputable def B113_0 (base : Nat) : Body := fun l h => lay s113_0 l fun s => exCode (Et base) (run (Et base)) loopL a113_0 (subC [1, 1, 1, 0, 1, 0, 0] (bodyC Try.f113)) s h (keepK s113_0 e113_0)
theorem B113_0_eq (base : Nat) (v1 : Int) (v2 : Int) (v27 : Option Addr) (v27n : Nat) (v28 : Int) (v29 : Int) (h : AH) : B113_0 base [some (.int .i64 v1), some (.int .i64 v2), some (.slice v27 v27n v27n), some (.int .i64 v28), some (.int .i64 v29)] h =
((if (decide (v29 < v28)) = true then
(if 0 ≤ v29 ∧ v29 < ((v27n : Nat) : Int) then
((v27 : Option Addr)).bind fun a1 =>
((cell h a1.block (a1.off + Int.toNat v29 * 4)).bind (getI .i64)).bind fun n2 =>
((cell h a1.block ((a1.off + Int.toNat v29 * 4) + 1)).bind (getI .i64)).bind fun n3 =>
((cell h a1.block (((a1.off + Int.toNat v29 * 4) + 1) + 1)).bind getStr).bind fun s4 =>
((cell h a1.block ((((a1.off + Int.toNat v29 * 4) + 1) + 1) + 1)).bind getS).bind fun l5 =>
(some (h ++ [some ⟨[(.int .i64 0), (.int .i64 0), (.string ⟨#[]⟩), (.slice none 0 0)], 38⟩])).bind fun h6 =>
(wr base h6 (List.length h) 0 [(.int .i64 n2), (.int .i64 n3), (.string s4), (.slice l5.1 l5.2 l5.2)]).bind fun h7 =>
((cell h7 (List.length h) 0).bind (getI .i64)).bind fun n8 =>
((cell h7 (List.length h) 1).bind (getI .i64)).bind fun n9 =>
((cell h7 (List.length h) 2).bind getStr).bind fun s10 =>
((cell h7 (List.length h) 3).bind getS).bind fun l11 =>
(run (Et base) 113 [(.agg #[(.int .i64 n8), (.int .i64 n9), (.string s10), (.slice l11.1 l11.2 l11.2)]), (.int .i64 (IntKind.wrap .i64 (v1 + (1 : Int)))), (.int .i64 v2)] h7).bind fun r12 =>
(getTup 2 r12.1).bind fun l13 =>
((l13[0]?).bind (getI .i64)).bind fun n14 =>
((l13[1]?).bind getB).bind fun b15 =>
(if (!b15) = true then
some (1, [some (.int .i64 n14), some (.bool false)], r12.2)
else
some (0, [some (.int .i64 v1), some (.int .i64 n14), some (.slice v27 v27n v27n), some (.int .i64 v28), some (.int .i64 (IntKind.wrap .i64 (v29 + (1 : Int))))], r12.2))
else none)
else
some (2, [some (.int .i64 v2)], h)) : Option (Nat × Slots × AH)) := by kernel_rfl
theorem f113_eq (base : Nat) (v0_0 : Int) (v0_1 : Int) (v0_2 : ByteArray) (v0_3 : Option Addr) (v0_3n : Nat) (v1 : Int) (v2 : Int) (h : AH) : exFun (Et base) (run (Et base)) loopL a113 Try.f113 [(.agg #[(.int .i64 v0_0), (.int .i64 v0_1), (.string v0_2), (.slice v0_3 v0_3n v0_3n)]), (.int .i64 v1), (.int .i64 v2)] h =
((some (h ++ [some ⟨[(.int .i64 v0_0), (.int .i64 v0_1), (.string v0_2), (.slice v0_3 v0_3n v0_3n)], 38⟩])).bind fun h1 =>
((if (decide (v1 > (6 : Int))) = true then
some (.inl ([some (.int .i64 v1), some (.int .i64 (IntKind.wrap .i64 (v2 + (1 : Int)))), some (.pointer (some ⟨(List.length h), 0, none⟩)), some (.bool true)], h1))
else
(if (decide ((IntKind.wrap .i64 (v2 + (1 : Int))) > (100 : Int))) = true then
some (.inl ([some (.int .i64 v1), some (.int .i64 (IntKind.wrap .i64 (v2 + (1 : Int)))), some (.pointer (some ⟨(List.length h), 0, none⟩)), some (.bool true)], h1))
else
((cell h1 (List.length h) 0).bind (getI .i64)).bind fun n3 =>
((cell h1 (List.length h) 1).bind (getI .i64)).bind fun n4 =>
((cell h1 (List.length h) 2).bind getStr).bind fun s5 =>
((cell h1 (List.length h) 3).bind getS).bind fun l6 =>
(run (Et base) 134 [(.agg #[(.int .i64 n3), (.int .i64 n4), (.string s5), (.slice l6.1 l6.2 l6.2)])] h1).bind fun r7 =>
((some r7.1).bind getB).bind fun b8 =>
some (.inl ([some (.int .i64 v1), some (.int .i64 (IntKind.wrap .i64 (v2 + (1 : Int)))), some (.pointer (some ⟨(List.length h), 0, none⟩)), some (.bool (!b8))], r7.2))))).bind fun j2 => joinK j2 fun j2 =>
((sget j2.1 0).bind (getI .i64)).bind fun n9 =>
((sget (j2.1.tail) 0).bind (getI .i64)).bind fun n10 =>
((sget (j2.1.tail.tail) 0).bind getA).bind fun d11 =>
((sget (j2.1.tail.tail.tail) 0).bind getB).bind fun b12 =>
(if b12 = true then
some ((.tuple #[(.int .i64 n10), (.bool false)]), j2.2)
else
((cell j2.2 d11.block (d11.off + 3)).bind getS).bind fun l13 =>
(loopL (B113_0 base) [some (.int .i64 n9), some (.int .i64 n10), some (.slice l13.1 l13.2 l13.2), some (.int .i64 ((l13.2 : Nat) : Int)), some (.int .i64 (0 : Int))] j2.2).bind fun q14 =>
(if q14.1 = 1 then
((sget q14.2.1 0).bind (getI .i64)).bind fun n15 =>
((sget (q14.2.1.tail) 0).bind getB).bind fun b16 =>
some ((.tuple #[(.int .i64 n15), (.bool b16)]), q14.2.2)
else
(if q14.1 = 2 then
((sget q14.2.1 0).bind (getI .i64)).bind fun n17 =>
some ((.tuple #[(.int .i64 n17), (.bool true)]), q14.2.2)
else
none))) : Option (Value × AH)) := by kernel_rfl
theorem r113 {base : Nat} {v0_0 : Int} {v0_1 : Int} {v0_2 : ByteArray} {v0_3 : Option Addr} {v0_3n : Nat} {v1 : Int} {v2 : Int} {h : AH} {r : Value × AH} (hx :
((some (h ++ [some ⟨[(.int .i64 v0_0), (.int .i64 v0_1), (.string v0_2), (.slice v0_3 v0_3n v0_3n)], 38⟩])).bind fun h1 =>
((if (decide (v1 > (6 : Int))) = true then
some (.inl ([some (.int .i64 v1), some (.int .i64 (IntKind.wrap .i64 (v2 + (1 : Int)))), some (.pointer (some ⟨(List.length h), 0, none⟩)), some (.bool true)], h1))
else
(if (decide ((IntKind.wrap .i64 (v2 + (1 : Int))) > (100 : Int))) = true then
some (.inl ([some (.int .i64 v1), some (.int .i64 (IntKind.wrap .i64 (v2 + (1 : Int)))), some (.pointer (some ⟨(List.length h), 0, none⟩)), some (.bool true)], h1))
else
((cell h1 (List.length h) 0).bind (getI .i64)).bind fun n3 =>
((cell h1 (List.length h) 1).bind (getI .i64)).bind fun n4 =>
((cell h1 (List.length h) 2).bind getStr).bind fun s5 =>
((cell h1 (List.length h) 3).bind getS).bind fun l6 =>
(run (Et base) 134 [(.agg #[(.int .i64 n3), (.int .i64 n4), (.string s5), (.slice l6.1 l6.2 l6.2)])] h1).bind fun r7 =>
((some r7.1).bind getB).bind fun b8 =>
some (.inl ([some (.int .i64 v1), some (.int .i64 (IntKind.wrap .i64 (v2 + (1 : Int)))), some (.pointer (some ⟨(List.length h), 0, none⟩)), some (.bool (!b8))], r7.2))))).bind fun j2 => joinK j2 fun j2 =>
((sget j2.1 0).bind (getI .i64)).bind fun n9 =>
((sget (j2.1.tail) 0).bind (getI .i64)).bind fun n10 =>
((sget (j2.1.tail.tail) 0).bind getA).bind fun d11 =>
((sget (j2.1.tail.tail.tail) 0).bind getB).bind fun b12 =>
(if b12 = true then
some ((.tuple #[(.int .i64 n10), (.bool false)]), j2.2)
else
((cell j2.2 d11.block (d11.off + 3)).bind getS).bind fun l13 =>
(loopL (B113_0 base) [some (.int .i64 n9), some (.int .i64 n10), some (.slice l13.1 l13.2 l13.2), some (.int .i64 ((l13.2 : Nat) : Int)), some (.int .i64 (0 : Int))] j2.2).bind fun q14 =>
(if q14.1 = 1 then
((sget q14.2.1 0).bind (getI .i64)).bind fun n15 =>
((sget (q14.2.1.tail) 0).bind getB).bind fun b16 =>
some ((.tuple #[(.int .i64 n15), (.bool b16)]), q14.2.2)
else
(if q14.1 = 2 then
((sget q14.2.1 0).bind (getI .i64)).bind fun n17 =>
some ((.tuple #[(.int .i64 n17), (.bool true)]), q14.2.2)
else
none)))) = some r) : run (Et base) 113 [(.agg #[(.int .i64 v0_0), (.int .i64 v0_1), (.string v0_2), (.slice v0_3 v0_3n v0_3n)]), (.int .i64 v1), (.int .i64 v2)] h = some r := run_i Try.func113 (by kernel_rfl) ((f113_eq base v0_0 v0_1 v0_2 v0_3 v0_3n v1 v2 h).trans hx)
/-! impl.InsOk (gates 0) -/
theorem f123_eq (base : Nat) (v0_0 : Int) (v0_1 : Int) (v0_2 : Int) (v0_3 : Int) (v0_4 : Int) (v0_5 : ByteArray) (v1 : Int) (h : AH) : exFun (Et base) (run (Et base)) loopL a123 Try.f123 [(.agg #[(.int .i64 v0_0), (.int .i64 v0_1), (.int .i64 v0_2), (.int .i64 v0_3), (.int .i64 v0_4), (.string v0_5)]), (.int .i64 v1)] h =
((some (h ++ [some ⟨[(.int .i64 v0_0), (.int .i64 v0_1), (.int .i64 v0_2), (.int .i64 v0_3), (.int .i64 v0_4), (.string v0_5)], 82⟩])).bind fun h1 =>
((run (Et base) 66 [(.int .i64 v1), (.int .i64 (1 : Int)), (.int .i64 (200 : Int))] h1).bind fun r3 =>
((some r3.1).bind getB).bind fun b4 =>
(if (!b4) = true then
some (.inl ([some (.int .i64 v1), some (.pointer (some ⟨(List.length h), 0, none⟩)), some (.bool true)], r3.2))
else
((cell r3.2 (List.length h) 0).bind (getI .i64)).bind fun n5 =>
((cell r3.2 (List.length h) 1).bind (getI .i64)).bind fun n6 =>
((cell r3.2 (List.length h) 2).bind (getI .i64)).bind fun n7 =>
((cell r3.2 (List.length h) 3).bind (getI .i64)).bind fun n8 =>
((cell r3.2 (List.length h) 4).bind (getI .i64)).bind fun n9 =>
((cell r3.2 (List.length h) 5).bind getStr).bind fun s10 =>
(run (Et base) 146 [(.agg #[(.int .i64 n5), (.int .i64 n6), (.int .i64 n7), (.int .i64 n8), (.int .i64 n9), (.string s10)])] r3.2).bind fun r11 =>
((some r11.1).bind getB).bind fun b12 =>
(if (!b12) = true then
some (.inl ([some (.int .i64 v1), some (.pointer (some ⟨(List.length h), 0, none⟩)), some (.bool true)], r11.2))
else
((cell r11.2 (List.length h) 1).bind (getI .i64)).bind fun n13 =>
(run (Et base) 147 [(.int .i64 n13)] r11.2).bind fun r14 =>
((some r14.1).bind getB).bind fun b15 =>
(if (!b15) = true then
some (.inl ([some (.int .i64 v1), some (.pointer (some ⟨(List.length h), 0, none⟩)), some (.bool true)], r14.2))
else
((cell r14.2 (List.length h) 2).bind (getI .i64)).bind fun n16 =>
(run (Et base) 147 [(.int .i64 n16)] r14.2).bind fun r17 =>
((some r17.1).bind getB).bind fun b18 =>
(if (!b18) = true then
some (.inl ([some (.int .i64 v1), some (.pointer (some ⟨(List.length h), 0, none⟩)), some (.bool true)], r17.2))
else
((cell r17.2 (List.length h) 3).bind (getI .i64)).bind fun n19 =>
(run (Et base) 147 [(.int .i64 n19)] r17.2).bind fun r20 =>
((some r20.1).bind getB).bind fun b21 =>
some (.inl ([some (.int .i64 v1), some (.pointer (some ⟨(List.length h), 0, none⟩)), some (.bool (!b21))], r20.2))))))).bind fun j2 => joinK j2 fun j2 =>
((sget j2.1 0).bind (getI .i64)).bind fun n22 =>
((sget (j2.1.tail) 0).bind getA).bind fun d23 =>
((sget (j2.1.tail.tail) 0).bind getB).bind fun b24 =>
(if b24 = true then
some ((.bool false), j2.2)
else
((cell j2.2 d23.block (d23.off + 0)).bind (getI .i64)).bind fun n25 =>
(if (n25 == (1 : Int)) = true then
((cell j2.2 d23.block (d23.off + 4)).bind (getI .i64)).bind fun n26 =>
(run (Et base) 66 [(.int .i64 n26), (.int .i64 (-1000000 : Int)), (.int .i64 (1000000 : Int))] j2.2).bind fun r27 =>
((some r27.1).bind getB).bind fun b28 =>
some ((.bool b28), r27.2)
else
(if (n25 == (2 : Int)) = true then
((cell j2.2 d23.block (d23.off + 5)).bind getStr).bind fun s29 =>
(run (Et base) 148 [(.string s29)] j2.2).bind fun r30 =>
((some r30.1).bind getB).bind fun b31 =>
some ((.bool b31), r30.2)
else
(if (n25 == (4 : Int)) = true then
((cell j2.2 d23.block (d23.off + 4)).bind (getI .i64)).bind fun n32 =>
(run (Et base) 66 [(.int .i64 n32), (.int .i64 (0 : Int)), (.int .i64 (8 : Int))] j2.2).bind fun r33 =>
((some r33.1).bind getB).bind fun b34 =>
(if b34 = true then
((cell r33.2 d23.block (d23.off + 2)).bind (getI .i64)).bind fun n35 =>
((cell r33.2 d23.block (d23.off + 4)).bind (getI .i64)).bind fun n36 =>
some ((.bool (decide ((IntKind.wrap .i64 (n35 + n36)) ≤ (8 : Int)))), r33.2)
else
some ((.bool false), r33.2))
else
(if (n25 == (6 : Int)) = true then
((cell j2.2 d23.block (d23.off + 4)).bind (getI .i64)).bind fun n37 =>
(run (Et base) 66 [(.int .i64 n37), (.int .i64 (0 : Int)), (.int .i64 (7 : Int))] j2.2).bind fun r38 =>
((some r38.1).bind getB).bind fun b39 =>
some ((.bool b39), r38.2)
else
(if (n25 == (11 : Int)) = true then
((cell j2.2 d23.block (d23.off + 2)).bind (getI .i64)).bind fun n40 =>
(run (Et base) 66 [(.int .i64 n40), (.int .i64 (1 : Int)), (.int .i64 (6 : Int))] j2.2).bind fun r41 =>
((some r41.1).bind getB).bind fun b42 =>
(if b42 = true then
((cell r41.2 d23.block (d23.off + 4)).bind (getI .i64)).bind fun n43 =>
(run (Et base) 66 [(.int .i64 n43), (.int .i64 (0 : Int)), (.int .i64 (IntKind.wrap .i64 (n22 - (1 : Int))))] r41.2).bind fun r44 =>
((some r44.1).bind getB).bind fun b45 =>
some ((.bool b45), r44.2)
else
some ((.bool false), r41.2))
else
((if (n25 == (10 : Int)) = true then
some (.inl ([some (.int .i64 n22), some (.pointer (some d23)), some (.bool (n25 == (10 : Int)))], j2.2))
else
(if (n25 == (12 : Int)) = true then
some (.inl ([some (.int .i64 n22), some (.pointer (some d23)), some (.bool (n25 == (12 : Int)))], j2.2))
else
some (.inl ([some (.int .i64 n22), some (.pointer (some d23)), some (.bool (n25 == (16 : Int)))], j2.2))))).bind fun j46 => joinK j46 fun j46 =>
((sget j46.1 0).bind (getI .i64)).bind fun n47 =>
((sget (j46.1.tail) 0).bind getA).bind fun d48 =>
((sget (j46.1.tail.tail) 0).bind getB).bind fun b49 =>
(if b49 = true then
((cell j46.2 d48.block (d48.off + 4)).bind (getI .i64)).bind fun n50 =>
(run (Et base) 66 [(.int .i64 n50), (.int .i64 (0 : Int)), (.int .i64 (IntKind.wrap .i64 (n47 - (1 : Int))))] j46.2).bind fun r51 =>
((some r51.1).bind getB).bind fun b52 =>
some ((.bool b52), r51.2)
else
some ((.bool true), j46.2)))))))) : Option (Value × AH)) := by kernel_rfl
theorem r123 {base : Nat} {v0_0 : Int} {v0_1 : Int} {v0_2 : Int} {v0_3 : Int} {v0_4 : Int} {v0_5 : ByteArray} {v1 : Int} {h : AH} {r : Value × AH} (hx :
((some (h ++ [some ⟨[(.int .i64 v0_0), (.int .i64 v0_1), (.int .i64 v0_2), (.int .i64 v0_3), (.int .i64 v0_4), (.string v0_5)], 82⟩])).bind fun h1 =>
((run (Et base) 66 [(.int .i64 v1), (.int .i64 (1 : Int)), (.int .i64 (200 : Int))] h1).bind fun r3 =>
((some r3.1).bind getB).bind fun b4 =>
(if (!b4) = true then
some (.inl ([some (.int .i64 v1), some (.pointer (some ⟨(List.length h), 0, none⟩)), some (.bool true)], r3.2))
else
((cell r3.2 (List.length h) 0).bind (getI .i64)).bind fun n5 =>
((cell r3.2 (List.length h) 1).bind (getI .i64)).bind fun n6 =>
((cell r3.2 (List.length h) 2).bind (getI .i64)).bind fun n7 =>
((cell r3.2 (List.length h) 3).bind (getI .i64)).bind fun n8 =>
((cell r3.2 (List.length h) 4).bind (getI .i64)).bind fun n9 =>
((cell r3.2 (List.length h) 5).bind getStr).bind fun s10 =>
(run (Et base) 146 [(.agg #[(.int .i64 n5), (.int .i64 n6), (.int .i64 n7), (.int .i64 n8), (.int .i64 n9), (.string s10)])] r3.2).bind fun r11 =>
((some r11.1).bind getB).bind fun b12 =>
(if (!b12) = true then
some (.inl ([some (.int .i64 v1), some (.pointer (some ⟨(List.length h), 0, none⟩)), some (.bool true)], r11.2))
else
((cell r11.2 (List.length h) 1).bind (getI .i64)).bind fun n13 =>
(run (Et base) 147 [(.int .i64 n13)] r11.2).bind fun r14 =>
((some r14.1).bind getB).bind fun b15 =>
(if (!b15) = true then
some (.inl ([some (.int .i64 v1), some (.pointer (some ⟨(List.length h), 0, none⟩)), some (.bool true)], r14.2))
else
((cell r14.2 (List.length h) 2).bind (getI .i64)).bind fun n16 =>
(run (Et base) 147 [(.int .i64 n16)] r14.2).bind fun r17 =>
((some r17.1).bind getB).bind fun b18 =>
(if (!b18) = true then
some (.inl ([some (.int .i64 v1), some (.pointer (some ⟨(List.length h), 0, none⟩)), some (.bool true)], r17.2))
else
((cell r17.2 (List.length h) 3).bind (getI .i64)).bind fun n19 =>
(run (Et base) 147 [(.int .i64 n19)] r17.2).bind fun r20 =>
((some r20.1).bind getB).bind fun b21 =>
some (.inl ([some (.int .i64 v1), some (.pointer (some ⟨(List.length h), 0, none⟩)), some (.bool (!b21))], r20.2))))))).bind fun j2 => joinK j2 fun j2 =>
((sget j2.1 0).bind (getI .i64)).bind fun n22 =>
((sget (j2.1.tail) 0).bind getA).bind fun d23 =>
((sget (j2.1.tail.tail) 0).bind getB).bind fun b24 =>
(if b24 = true then
some ((.bool false), j2.2)
else
((cell j2.2 d23.block (d23.off + 0)).bind (getI .i64)).bind fun n25 =>
(if (n25 == (1 : Int)) = true then
((cell j2.2 d23.block (d23.off + 4)).bind (getI .i64)).bind fun n26 =>
(run (Et base) 66 [(.int .i64 n26), (.int .i64 (-1000000 : Int)), (.int .i64 (1000000 : Int))] j2.2).bind fun r27 =>
((some r27.1).bind getB).bind fun b28 =>
some ((.bool b28), r27.2)
else
(if (n25 == (2 : Int)) = true then
((cell j2.2 d23.block (d23.off + 5)).bind getStr).bind fun s29 =>
(run (Et base) 148 [(.string s29)] j2.2).bind fun r30 =>
((some r30.1).bind getB).bind fun b31 =>
some ((.bool b31), r30.2)
else
(if (n25 == (4 : Int)) = true then
((cell j2.2 d23.block (d23.off + 4)).bind (getI .i64)).bind fun n32 =>
(run (Et base) 66 [(.int .i64 n32), (.int .i64 (0 : Int)), (.int .i64 (8 : Int))] j2.2).bind fun r33 =>
((some r33.1).bind getB).bind fun b34 =>
(if b34 = true then
((cell r33.2 d23.block (d23.off + 2)).bind (getI .i64)).bind fun n35 =>
((cell r33.2 d23.block (d23.off + 4)).bind (getI .i64)).bind fun n36 =>
some ((.bool (decide ((IntKind.wrap .i64 (n35 + n36)) ≤ (8 : Int)))), r33.2)
else
some ((.bool false), r33.2))
else
(if (n25 == (6 : Int)) = true then
((cell j2.2 d23.block (d23.off + 4)).bind (getI .i64)).bind fun n37 =>
(run (Et base) 66 [(.int .i64 n37), (.int .i64 (0 : Int)), (.int .i64 (7 : Int))] j2.2).bind fun r38 =>
((some r38.1).bind getB).bind fun b39 =>
some ((.bool b39), r38.2)
else
(if (n25 == (11 : Int)) = true then
((cell j2.2 d23.block (d23.off + 2)).bind (getI .i64)).bind fun n40 =>
(run (Et base) 66 [(.int .i64 n40), (.int .i64 (1 : Int)), (.int .i64 (6 : Int))] j2.2).bind fun r41 =>
((some r41.1).bind getB).bind fun b42 =>
(if b42 = true then
((cell r41.2 d23.block (d23.off + 4)).bind (getI .i64)).bind fun n43 =>
(run (Et base) 66 [(.int .i64 n43), (.int .i64 (0 : Int)), (.int .i64 (IntKind.wrap .i64 (n22 - (1 : Int))))] r41.2).bind fun r44 =>
((some r44.1).bind getB).bind fun b45 =>
some ((.bool b45), r44.2)
else
some ((.bool false), r41.2))
else
((if (n25 == (10 : Int)) = true then
some (.inl ([some (.int .i64 n22), some (.pointer (some d23)), some (.bool (n25 == (10 : Int)))], j2.2))
else
(if (n25 == (12 : Int)) = true then
some (.inl ([some (.int .i64 n22), some (.pointer (some d23)), some (.bool (n25 == (12 : Int)))], j2.2))
else
some (.inl ([some (.int .i64 n22), some (.pointer (some d23)), some (.bool (n25 == (16 : Int)))], j2.2))))).bind fun j46 => joinK j46 fun j46 =>
((sget j46.1 0).bind (getI .i64)).bind fun n47 =>
((sget (j46.1.tail) 0).bind getA).bind fun d48 =>
((sget (j46.1.tail.tail) 0).bind getB).bind fun b49 =>
(if b49 = true then
((cell j46.2 d48.block (d48.off + 4)).bind (getI .i64)).bind fun n50 =>
(run (Et base) 66 [(.int .i64 n50), (.int .i64 (0 : Int)), (.int .i64 (IntKind.wrap .i64 (n47 - (1 : Int))))] j46.2).bind fun r51 =>
((some r51.1).bind getB).bind fun b52 =>
some ((.bool b52), r51.2)
else
some ((.bool true), j46.2))))))))) = some r) : run (Et base) 123 [(.agg #[(.int .i64 v0_0), (.int .i64 v0_1), (.int .i64 v0_2), (.int .i64 v0_3), (.int .i64 v0_4), (.string v0_5)]), (.int .i64 v1)] h = some r := run_i Try.func123 (by kernel_rfl) ((f123_eq base v0_0 v0_1 v0_2 v0_3 v0_4 v0_5 v1 h).trans hx)
/-! spec.InsOk (gates 1) -/
theorem f124_eq (base : Nat) (v0_0 : Int) (v0_1 : Int) (v0_2 : Int) (v0_3 : Int) (v0_4 : Int) (v0_5 : ByteArray) (v1 : Int) (h : AH) : exFun (Et base) (run (Et base)) loopL a124 Try.f124 [(.agg #[(.int .i64 v0_0), (.int .i64 v0_1), (.int .i64 v0_2), (.int .i64 v0_3), (.int .i64 v0_4), (.string v0_5)]), (.int .i64 v1)] h =
((some (h ++ [some ⟨[(.int .i64 v0_0), (.int .i64 v0_1), (.int .i64 v0_2), (.int .i64 v0_3), (.int .i64 v0_4), (.string v0_5)], 82⟩])).bind fun h1 =>
((run (Et base) 61 [(.int .i64 v1), (.int .i64 (1 : Int)), (.int .i64 (200 : Int))] h1).bind fun r3 =>
((some r3.1).bind getB).bind fun b4 =>
(if (!b4) = true then
some (.inl ([some (.int .i64 v1), some (.pointer (some ⟨(List.length h), 0, none⟩)), some (.bool true)], r3.2))
else
((cell r3.2 (List.length h) 0).bind (getI .i64)).bind fun n5 =>
(run (Et base) 61 [(.int .i64 n5), (.int .i64 (1 : Int)), (.int .i64 (20 : Int))] r3.2).bind fun r6 =>
((some r6.1).bind getB).bind fun b7 =>
some (.inl ([some (.int .i64 v1), some (.pointer (some ⟨(List.length h), 0, none⟩)), some (.bool (!b7))], r6.2)))).bind fun j2 => joinK j2 fun j2 =>
((sget j2.1 0).bind (getI .i64)).bind fun n8 =>
((sget (j2.1.tail) 0).bind getA).bind fun d9 =>
((sget (j2.1.tail.tail) 0).bind getB).bind fun b10 =>
(if b10 = true then
some ((.bool false), j2.2)
else
(run (Et base) 149 [] j2.2).bind fun r11 =>
((some r11.1).bind getS).bind fun l12 =>
(gate (sameA j2.2 r11.2 (some ⟨d9.block, (d9.off + 0), none⟩) 1)
(((cell r11.2 d9.block (d9.off + 0)).bind (getI .i64)).bind fun n13 =>
(if 0 ≤ (IntKind.wrap .i64 (n13 - (1 : Int))) ∧ (IntKind.wrap .i64 (n13 - (1 : Int))) < ((l12.2 : Nat) : Int) then
((l12.1 : Option Addr)).bind fun a14 =>
((cell r11.2 a14.block (a14.off + Int.toNat (IntKind.wrap .i64 (n13 - (1 : Int))) * 1)).bind getStr).bind fun s15 =>
(((cell r11.2 d9.block (d9.off + 1)).bind (getI .i64)).bind fun n17 =>
(run (Et base) 150 [(.string s15), (.int .u8 (65 : Int)), (.int .i64 n17)] r11.2).bind fun r18 =>
((some r18.1).bind getB).bind fun b19 =>
(if (!b19) = true then
some (.inl ([some (.int .i64 n8), some (.pointer (some d9)), some (.bool true)], r18.2))
else
((cell r18.2 d9.block (d9.off + 3)).bind (getI .i64)).bind fun n20 =>
(run (Et base) 150 [(.string s15), (.int .u8 (67 : Int)), (.int .i64 n20)] r18.2).bind fun r21 =>
((some r21.1).bind getB).bind fun b22 =>
(if (!b22) = true then
some (.inl ([some (.int .i64 n8), some (.pointer (some d9)), some (.bool true)], r21.2))
else
((cell r21.2 d9.block (d9.off + 0)).bind (getI .i64)).bind fun n23 =>
(if (n23 != (11 : Int)) = true then
((cell r21.2 d9.block (d9.off + 2)).bind (getI .i64)).bind fun n24 =>
(run (Et base) 150 [(.string s15), (.int .u8 (66 : Int)), (.int .i64 n24)] r21.2).bind fun r25 =>
((some r25.1).bind getB).bind fun b26 =>
(if (!b26) = true then
some (.inl ([some (.int .i64 n8), some (.pointer (some d9)), some (.bool true)], r25.2))
else
((cell r25.2 d9.block (d9.off + 0)).bind (getI .i64)).bind fun n27 =>
(if (n27 == (11 : Int)) = true then
((cell r25.2 d9.block (d9.off + 2)).bind (getI .i64)).bind fun n28 =>
(run (Et base) 61 [(.int .i64 n28), (.int .i64 (1 : Int)), (.int .i64 (6 : Int))] r25.2).bind fun r29 =>
((some r29.1).bind getB).bind fun b30 =>
some (.inl ([some (.int .i64 n8), some (.pointer (some d9)), some (.bool (!b30))], r29.2))
else
some (.inl ([some (.int .i64 n8), some (.pointer (some d9)), some (.bool false)], r25.2))))
else
((cell r21.2 d9.block (d9.off + 0)).bind (getI .i64)).bind fun n31 =>
(if (n31 == (11 : Int)) = true then
((cell r21.2 d9.block (d9.off + 2)).bind (getI .i64)).bind fun n32 =>
(run (Et base) 61 [(.int .i64 n32), (.int .i64 (1 : Int)), (.int .i64 (6 : Int))] r21.2).bind fun r33 =>
((some r33.1).bind getB).bind fun b34 =>
some (.inl ([some (.int .i64 n8), some (.pointer (some d9)), some (.bool (!b34))], r33.2))
else
some (.inl ([some (.int .i64 n8), some (.pointer (some d9)), some (.bool false)], r21.2))))))).bind fun j16 => joinK j16 fun j16 =>
((sget j16.1 0).bind (getI .i64)).bind fun n35 =>
((sget (j16.1.tail) 0).bind getA).bind fun d36 =>
((sget (j16.1.tail.tail) 0).bind getB).bind fun b37 =>
(if b37 = true then
some ((.bool false), j16.2)
else
(((cell j16.2 d36.block (d36.off + 0)).bind (getI .i64)).bind fun n39 =>
(if (n39 == (2 : Int)) = true then
((cell j16.2 d36.block (d36.off + 5)).bind getStr).bind fun s40 =>
(run (Et base) 151 [(.string s40)] j16.2).bind fun r41 =>
((some r41.1).bind getB).bind fun b42 =>
(if (!b42) = true then
some (.inl ([some (.int .i64 n35), some (.pointer (some d36)), some (.bool true)], r41.2))
else
((cell r41.2 d36.block (d36.off + 0)).bind (getI .i64)).bind fun n43 =>
(if (n43 != (2 : Int)) = true then
((cell r41.2 d36.block (d36.off + 5)).bind getStr).bind fun s44 =>
some (.inl ([some (.int .i64 n35), some (.pointer (some d36)), some (.bool (!(s44.toList == (⟨#[]⟩ : ByteArray).toList)))], r41.2))
else
some (.inl ([some (.int .i64 n35), some (.pointer (some d36)), some (.bool false)], r41.2))))
else
((cell j16.2 d36.block (d36.off + 0)).bind (getI .i64)).bind fun n45 =>
(if (n45 != (2 : Int)) = true then
((cell j16.2 d36.block (d36.off + 5)).bind getStr).bind fun s46 =>
some (.inl ([some (.int .i64 n35), some (.pointer (some d36)), some (.bool (!(s46.toList == (⟨#[]⟩ : ByteArray).toList)))], j16.2))
else
some (.inl ([some (.int .i64 n35), some (.pointer (some d36)), some (.bool false)], j16.2))))).bind fun j38 => joinK j38 fun j38 =>
((sget j38.1 0).bind (getI .i64)).bind fun n47 =>
((sget (j38.1.tail) 0).bind getA).bind fun d48 =>
((sget (j38.1.tail.tail) 0).bind getB).bind fun b49 =>
(if b49 = true then
some ((.bool false), j38.2)
else
((cell j38.2 d48.block d48.off).bind (getI .i64)).bind fun n50 =>
((cell j38.2 d48.block (d48.off + 1)).bind (getI .i64)).bind fun n51 =>
((cell j38.2 d48.block ((d48.off + 1) + 1)).bind (getI .i64)).bind fun n52 =>
((cell j38.2 d48.block (((d48.off + 1) + 1) + 1)).bind (getI .i64)).bind fun n53 =>
((cell j38.2 d48.block ((((d48.off + 1) + 1) + 1) + 1)).bind (getI .i64)).bind fun n54 =>
((cell j38.2 d48.block (((((d48.off + 1) + 1) + 1) + 1) + 1)).bind getStr).bind fun s55 =>
(run (Et base) 152 [(.agg #[(.int .i64 n50), (.int .i64 n51), (.int .i64 n52), (.int .i64 n53), (.int .i64 n54), (.string s55)]), (.int .i64 n47)] j38.2).bind fun r56 =>
((some r56.1).bind getB).bind fun b57 =>
some ((.bool b57), r56.2)))
else none)))) : Option (Value × AH)) := by kernel_rfl
theorem r124 {base : Nat} {v0_0 : Int} {v0_1 : Int} {v0_2 : Int} {v0_3 : Int} {v0_4 : Int} {v0_5 : ByteArray} {v1 : Int} {h : AH} {r : Value × AH} (hx :
((some (h ++ [some ⟨[(.int .i64 v0_0), (.int .i64 v0_1), (.int .i64 v0_2), (.int .i64 v0_3), (.int .i64 v0_4), (.string v0_5)], 82⟩])).bind fun h1 =>
((run (Et base) 61 [(.int .i64 v1), (.int .i64 (1 : Int)), (.int .i64 (200 : Int))] h1).bind fun r3 =>
((some r3.1).bind getB).bind fun b4 =>
(if (!b4) = true then
some (.inl ([some (.int .i64 v1), some (.pointer (some ⟨(List.length h), 0, none⟩)), some (.bool true)], r3.2))
else
((cell r3.2 (List.length h) 0).bind (getI .i64)).bind fun n5 =>
(run (Et base) 61 [(.int .i64 n5), (.int .i64 (1 : Int)), (.int .i64 (20 : Int))] r3.2).bind fun r6 =>
((some r6.1).bind getB).bind fun b7 =>
some (.inl ([some (.int .i64 v1), some (.pointer (some ⟨(List.length h), 0, none⟩)), some (.bool (!b7))], r6.2)))).bind fun j2 => joinK j2 fun j2 =>
((sget j2.1 0).bind (getI .i64)).bind fun n8 =>
((sget (j2.1.tail) 0).bind getA).bind fun d9 =>
((sget (j2.1.tail.tail) 0).bind getB).bind fun b10 =>
(if b10 = true then
some ((.bool false), j2.2)
else
(run (Et base) 149 [] j2.2).bind fun r11 =>
((some r11.1).bind getS).bind fun l12 =>
(gate (sameA j2.2 r11.2 (some ⟨d9.block, (d9.off + 0), none⟩) 1)
(((cell r11.2 d9.block (d9.off + 0)).bind (getI .i64)).bind fun n13 =>
(if 0 ≤ (IntKind.wrap .i64 (n13 - (1 : Int))) ∧ (IntKind.wrap .i64 (n13 - (1 : Int))) < ((l12.2 : Nat) : Int) then
((l12.1 : Option Addr)).bind fun a14 =>
((cell r11.2 a14.block (a14.off + Int.toNat (IntKind.wrap .i64 (n13 - (1 : Int))) * 1)).bind getStr).bind fun s15 =>
(((cell r11.2 d9.block (d9.off + 1)).bind (getI .i64)).bind fun n17 =>
(run (Et base) 150 [(.string s15), (.int .u8 (65 : Int)), (.int .i64 n17)] r11.2).bind fun r18 =>
((some r18.1).bind getB).bind fun b19 =>
(if (!b19) = true then
some (.inl ([some (.int .i64 n8), some (.pointer (some d9)), some (.bool true)], r18.2))
else
((cell r18.2 d9.block (d9.off + 3)).bind (getI .i64)).bind fun n20 =>
(run (Et base) 150 [(.string s15), (.int .u8 (67 : Int)), (.int .i64 n20)] r18.2).bind fun r21 =>
((some r21.1).bind getB).bind fun b22 =>
(if (!b22) = true then
some (.inl ([some (.int .i64 n8), some (.pointer (some d9)), some (.bool true)], r21.2))
else
((cell r21.2 d9.block (d9.off + 0)).bind (getI .i64)).bind fun n23 =>
(if (n23 != (11 : Int)) = true then
((cell r21.2 d9.block (d9.off + 2)).bind (getI .i64)).bind fun n24 =>
(run (Et base) 150 [(.string s15), (.int .u8 (66 : Int)), (.int .i64 n24)] r21.2).bind fun r25 =>
((some r25.1).bind getB).bind fun b26 =>
(if (!b26) = true then
some (.inl ([some (.int .i64 n8), some (.pointer (some d9)), some (.bool true)], r25.2))
else
((cell r25.2 d9.block (d9.off + 0)).bind (getI .i64)).bind fun n27 =>
(if (n27 == (11 : Int)) = true then
((cell r25.2 d9.block (d9.off + 2)).bind (getI .i64)).bind fun n28 =>
(run (Et base) 61 [(.int .i64 n28), (.int .i64 (1 : Int)), (.int .i64 (6 : Int))] r25.2).bind fun r29 =>
((some r29.1).bind getB).bind fun b30 =>
some (.inl ([some (.int .i64 n8), some (.pointer (some d9)), some (.bool (!b30))], r29.2))
else
some (.inl ([some (.int .i64 n8), some (.pointer (some d9)), some (.bool false)], r25.2))))
else
((cell r21.2 d9.block (d9.off + 0)).bind (getI .i64)).bind fun n31 =>
(if (n31 == (11 : Int)) = true then
((cell r21.2 d9.block (d9.off + 2)).bind (getI .i64)).bind fun n32 =>
(run (Et base) 61 [(.int .i64 n32), (.int .i64 (1 : Int)), (.int .i64 (6 : Int))] r21.2).bind fun r33 =>
((some r33.1).bind getB).bind fun b34 =>
some (.inl ([some (.int .i64 n8), some (.pointer (some d9)), some (.bool (!b34))], r33.2))
else
some (.inl ([some (.int .i64 n8), some (.pointer (some d9)), some (.bool false)], r21.2))))))).bind fun j16 => joinK j16 fun j16 =>
((sget j16.1 0).bind (getI .i64)).bind fun n35 =>
((sget (j16.1.tail) 0).bind getA).bind fun d36 =>
((sget (j16.1.tail.tail) 0).bind getB).bind fun b37 =>
(if b37 = true then
some ((.bool false), j16.2)
else
(((cell j16.2 d36.block (d36.off + 0)).bind (getI .i64)).bind fun n39 =>
(if (n39 == (2 : Int)) = true then
((cell j16.2 d36.block (d36.off + 5)).bind getStr).bind fun s40 =>
(run (Et base) 151 [(.string s40)] j16.2).bind fun r41 =>
((some r41.1).bind getB).bind fun b42 =>
(if (!b42) = true then
some (.inl ([some (.int .i64 n35), some (.pointer (some d36)), some (.bool true)], r41.2))
else
((cell r41.2 d36.block (d36.off + 0)).bind (getI .i64)).bind fun n43 =>
(if (n43 != (2 : Int)) = true then
((cell r41.2 d36.block (d36.off + 5)).bind getStr).bind fun s44 =>
some (.inl ([some (.int .i64 n35), some (.pointer (some d36)), some (.bool (!(s44.toList == (⟨#[]⟩ : ByteArray).toList)))], r41.2))
else
some (.inl ([some (.int .i64 n35), some (.pointer (some d36)), some (.bool false)], r41.2))))
else
((cell j16.2 d36.block (d36.off + 0)).bind (getI .i64)).bind fun n45 =>
(if (n45 != (2 : Int)) = true then
((cell j16.2 d36.block (d36.off + 5)).bind getStr).bind fun s46 =>
some (.inl ([some (.int .i64 n35), some (.pointer (some d36)), some (.bool (!(s46.toList == (⟨#[]⟩ : ByteArray).toList)))], j16.2))
else
some (.inl ([some (.int .i64 n35), some (.pointer (some d36)), some (.bool false)], j16.2))))).bind fun j38 => joinK j38 fun j38 =>
((sget j38.1 0).bind (getI .i64)).bind fun n47 =>
((sget (j38.1.tail) 0).bind getA).bind fun d48 =>
((sget (j38.1.tail.tail) 0).bind getB).bind fun b49 =>
(if b49 = true then
some ((.bool false), j38.2)
else
((cell j38.2 d48.block d48.off).bind (getI .i64)).bind fun n50 =>
((cell j38.2 d48.block (d48.off + 1)).bind (getI .i64)).bind fun n51 =>
((cell j38.2 d48.block ((d48.off + 1) + 1)).bind (getI .i64)).bind fun n52 =>
((cell j38.2 d48.block (((d48.off + 1) + 1) + 1)).bind (getI .i64)).bind fun n53 =>
((cell j38.2 d48.block ((((d48.off + 1) + 1) + 1) + 1)).bind (getI .i64)).bind fun n54 =>
((cell j38.2 d48.block (((((d48.off + 1) + 1) + 1) + 1) + 1)).bind getStr).bind fun s55 =>
(run (Et base) 152 [(.agg #[(.int .i64 n50), (.int .i64 n51), (.int .i64 n52), (.int .i64 n53), (.int .i64 n54), (.string s55)]), (.int .i64 n47)] j38.2).bind fun r56 =>
((some r56.1).bind getB).bind fun b57 =>
some ((.bool b57), r56.2)))
else none))))) = some r) : run (Et base) 124 [(.agg #[(.int .i64 v0_0), (.int .i64 v0_1), (.int .i64 v0_2), (.int .i64 v0_3), (.int .i64 v0_4), (.string v0_5)]), (.int .i64 v1)] h = some r := run_i Try.func124 (by kernel_rfl) ((f124_eq base v0_0 v0_1 v0_2 v0_3 v0_4 v0_5 v1 h).trans hx)
/-! spec.l11At (gates 0) -/
noncomputable def B125_0 (base : Nat) : Body := fun l h => lay s125_0 l fun s => exCode (Et base) (run (Et base)) loopL a125_0 (subC [1, 0, 1, 0, 0] (bodyC Try.f125)) s h (keepK s125_0 e125_0)
theorem B125_0_eq (base : Nat) (v1 : Int) (v2 : Addr) (v5 : Int) (h : AH) : B125_0 base [some (.int .i64 v1), some (.pointer (some v2)), some (.int .i64 v5)] h =
(((cell h v2.block (v2.off + 1)).bind getS).bind fun l1 =>
(if (decide (v5 < ((l1.2 : Nat) : Int))) = true then
((cell h v2.block (v2.off + 1)).bind getS).bind fun l2 =>
(if 0 ≤ v5 ∧ v5 < ((l2.2 : Nat) : Int) then
((l2.1 : Option Addr)).bind fun a3 =>
((cell h a3.block ((a3.off + Int.toNat v5 * 5) + 0)).bind (getI .i64)).bind fun n4 =>
(if (n4 == v1) = true then
some (1, [some (.int .i64 v5)], h)
else
some (0, [some (.int .i64 v1), some (.pointer (some v2)), some (.int .i64 (IntKind.wrap .i64 (v5 + (1 : Int))))], h))
else none)
else
some (2, [], h)) : Option (Nat × Slots × AH)) := by kernel_rfl
theorem f125_eq (base : Nat) (v0_0 : Option Addr) (v0_0n : Nat) (v0_1 : Option Addr) (v0_1n : Nat) (v0_2 : Int) (v0_3 : Option Addr) (v0_3n : Nat) (v1 : Int) (h : AH) : exFun (Et base) (run (Et base)) loopL a125 Try.f125 [(.agg #[(.slice v0_0 v0_0n v0_0n), (.slice v0_1 v0_1n v0_1n), (.int .i64 v0_2), (.slice v0_3 v0_3n v0_3n)]), (.int .i64 v1)] h =
((some (h ++ [some ⟨[(.slice v0_0 v0_0n v0_0n), (.slice v0_1 v0_1n v0_1n), (.int .i64 v0_2), (.slice v0_3 v0_3n v0_3n)], 32⟩])).bind fun h1 =>
(loopL (B125_0 base) [some (.int .i64 v1), some (.pointer (some ⟨(List.length h), 0, none⟩)), some (.int .i64 (0 : Int))] h1).bind fun q2 =>
(if q2.1 = 1 then
((sget q2.2.1 0).bind (getI .i64)).bind fun n3 =>
some ((.int .i64 n3), q2.2.2)
else
(if q2.1 = 2 then
some ((.int .i64 (-1 : Int)), q2.2.2)
else
none)) : Option (Value × AH)) := by kernel_rfl
theorem r125 {base : Nat} {v0_0 : Option Addr} {v0_0n : Nat} {v0_1 : Option Addr} {v0_1n : Nat} {v0_2 : Int} {v0_3 : Option Addr} {v0_3n : Nat} {v1 : Int} {h : AH} {r : Value × AH} (hx :
((some (h ++ [some ⟨[(.slice v0_0 v0_0n v0_0n), (.slice v0_1 v0_1n v0_1n), (.int .i64 v0_2), (.slice v0_3 v0_3n v0_3n)], 32⟩])).bind fun h1 =>
(loopL (B125_0 base) [some (.int .i64 v1), some (.pointer (some ⟨(List.length h), 0, none⟩)), some (.int .i64 (0 : Int))] h1).bind fun q2 =>
(if q2.1 = 1 then
((sget q2.2.1 0).bind (getI .i64)).bind fun n3 =>
some ((.int .i64 n3), q2.2.2)
else
(if q2.1 = 2 then
some ((.int .i64 (-1 : Int)), q2.2.2)
else
none))) = some r) : run (Et base) 125 [(.agg #[(.slice v0_0 v0_0n v0_0n), (.slice v0_1 v0_1n v0_1n), (.int .i64 v0_2), (.slice v0_3 v0_3n v0_3n)]), (.int .i64 v1)] h = some r := run_i Try.func125 (by kernel_rfl) ((f125_eq base v0_0 v0_0n v0_1 v0_1n v0_2 v0_3 v0_3n v1 h).trans hx)
/-! spec.l11Has (gates 0) -/
noncomputable def B126_0 (base : Nat) : Body := fun l h => lay s126_0 l fun s => exCode (Et base) (run (Et base)) loopL a126_0 (subC [1, 0, 1, 0, 0] (bodyC Try.f126)) s h (keepK s126_0 e126_0)
theorem B126_0_eq (base : Nat) (v0 : Option Addr) (v0n : Nat) (v1 : Int) (v5 : Int) (h : AH) : B126_0 base [some (.slice v0 v0n v0n), some (.int .i64 v1), some (.int .i64 v5)] h =
((if (decide (v5 < ((v0n : Nat) : Int))) = true then
(if 0 ≤ v5 ∧ v5 < ((v0n : Nat) : Int) then
((v0 : Option Addr)).bind fun a1 =>
((cell h a1.block (a1.off + Int.toNat v5 * 1)).bind (getI .i64)).bind fun n2 =>
(if (n2 == v1) = true then
some (1, [some (.bool true)], h)
else
some (0, [some (.slice v0 v0n v0n), some (.int .i64 v1), some (.int .i64 (IntKind.wrap .i64 (v5 + (1 : Int))))], h))
else none)
else
some (2, [], h)) : Option (Nat × Slots × AH)) := by kernel_rfl
theorem f126_eq (base : Nat) (v0 : Option Addr) (v0n : Nat) (v1 : Int) (h : AH) : exFun (Et base) (run (Et base)) loopL a126 Try.f126 [(.slice v0 v0n v0n), (.int .i64 v1)] h =
((loopL (B126_0 base) [some (.slice v0 v0n v0n), some (.int .i64 v1), some (.int .i64 (0 : Int))] h).bind fun q1 =>
(if q1.1 = 1 then
((sget q1.2.1 0).bind getB).bind fun b2 =>
some ((.bool b2), q1.2.2)
else
(if q1.1 = 2 then
some ((.bool false), q1.2.2)
else
none)) : Option (Value × AH)) := by kernel_rfl
theorem r126 {base : Nat} {v0 : Option Addr} {v0n : Nat} {v1 : Int} {h : AH} {r : Value × AH} (hx :
((loopL (B126_0 base) [some (.slice v0 v0n v0n), some (.int .i64 v1), some (.int .i64 (0 : Int))] h).bind fun q1 =>
(if q1.1 = 1 then
((sget q1.2.1 0).bind getB).bind fun b2 =>
some ((.bool b2), q1.2.2)
else
(if q1.1 = 2 then
some ((.bool false), q1.2.2)
else
none))) = some r) : run (Et base) 126 [(.slice v0 v0n v0n), (.int .i64 v1)] h = some r := run_i Try.func126 (by kernel_rfl) ((f126_eq base v0 v0n v1 h).trans hx)
/-! spec.l1Look (gates 0) -/
noncomputable def B128_0 (base : Nat) : Body := fun l h => lay s128_0 l fun s => exCode (Et base) (run (Et base)) loopL a128_0 (subC [1, 1, 1, 0, 1, 0, 0] (bodyC Try.f128)) s h (keepK s128_0 e128_0)
theorem B128_0_eq (base : Nat) (v1 : Int) (v2 : Int) (v3 : Addr) (v7 : Int) (h : AH) : B128_0 base [some (.int .i64 v1), some (.int .i64 v2), some (.pointer (some v3)), some (.int .i64 v7)] h =
((((cell h v3.block (v3.off + 3)).bind getS).bind fun l2 =>
(if (decide (v7 < ((l2.2 : Nat) : Int))) = true then
some (.inl ([some (.int .i64 v1), some (.int .i64 v2), some (.pointer (some v3)), some (.int .i64 v7), some (.bool (decide (v2 ≥ (0 : Int))))], h))
else
some (.inl ([some (.int .i64 v1), some (.int .i64 v2), some (.pointer (some v3)), some (.int .i64 v7), some (.bool false)], h)))).bind fun j1 => joinK j1 fun j1 =>
((sget j1.1 0).bind (getI .i64)).bind fun n3 =>
((sget (j1.1.tail) 0).bind (getI .i64)).bind fun n4 =>
((sget (j1.1.tail.tail) 0).bind getA).bind fun d5 =>
((sget (j1.1.tail.tail.tail) 0).bind (getI .i64)).bind fun n6 =>
((sget (j1.1.tail.tail.tail.tail) 0).bind getB).bind fun b7 =>
(if b7 = true then
((cell j1.2 d5.block (d5.off + 3)).bind getS).bind fun l8 =>
(if 0 ≤ n6 ∧ n6 < ((l8.2 : Nat) : Int) then
((l8.1 : Option Addr)).bind fun a9 =>
((cell j1.2 a9.block (a9.off + Int.toNat n6 * 4)).bind (getI .i64)).bind fun n10 =>
((cell j1.2 a9.block ((a9.off + Int.toNat n6 * 4) + 1)).bind (getI .i64)).bind fun n11 =>
((cell j1.2 a9.block (((a9.off + Int.toNat n6 * 4) + 1) + 1)).bind getStr).bind fun s12 =>
((cell j1.2 a9.block ((((a9.off + Int.toNat n6 * 4) + 1) + 1) + 1)).bind getS).bind fun l13 =>
(run (Et base) 128 [(.agg #[(.int .i64 n10), (.int .i64 n11), (.string s12), (.slice l13.1 l13.2 l13.2)]), (.int .i64 (IntKind.wrap .i64 (n3 - (1 : Int)))), (.int .i64 n4)] j1.2).bind fun r14 =>
((some r14.1).bind (getI .i64)).bind fun n15 =>
some (0, [some (.int .i64 n3), some (.int .i64 n15), some (.pointer (some d5)), some (.int .i64 (IntKind.wrap .i64 (n6 + (1 : Int))))], r14.2)
else none)
else
some (2, [some (.int .i64 n4)], j1.2)) : Option (Nat × Slots × AH)) := by kernel_rfl
theorem f128_eq (base : Nat) (v0_0 : Int) (v0_1 : Int) (v0_2 : ByteArray) (v0_3 : Option Addr) (v0_3n : Nat) (v1 : Int) (v2 : Int) (h : AH) : exFun (Et base) (run (Et base)) loopL a128 Try.f128 [(.agg #[(.int .i64 v0_0), (.int .i64 v0_1), (.string v0_2), (.slice v0_3 v0_3n v0_3n)]), (.int .i64 v1), (.int .i64 v2)] h =
((some (h ++ [some ⟨[(.int .i64 v0_0), (.int .i64 v0_1), (.string v0_2), (.slice v0_3 v0_3n v0_3n)], 38⟩])).bind fun h1 =>
((if (decide (v1 < (1 : Int))) = true then
some (.inl ([some (.int .i64 v1), some (.int .i64 v2), some (.pointer (some ⟨(List.length h), 0, none⟩)), some (.bool true)], h1))
else
(if (decide (v2 < (1 : Int))) = true then
some (.inl ([some (.int .i64 v1), some (.int .i64 v2), some (.pointer (some ⟨(List.length h), 0, none⟩)), some (.bool true)], h1))
else
((cell h1 (List.length h) 0).bind (getI .i64)).bind fun n3 =>
((cell h1 (List.length h) 1).bind (getI .i64)).bind fun n4 =>
((cell h1 (List.length h) 2).bind getStr).bind fun s5 =>
((cell h1 (List.length h) 3).bind getS).bind fun l6 =>
(run (Et base) 153 [(.agg #[(.int .i64 n3), (.int .i64 n4), (.string s5), (.slice l6.1 l6.2 l6.2)])] h1).bind fun r7 =>
((some r7.1).bind getB).bind fun b8 =>
some (.inl ([some (.int .i64 v1), some (.int .i64 v2), some (.pointer (some ⟨(List.length h), 0, none⟩)), some (.bool (!b8))], r7.2))))).bind fun j2 => joinK j2 fun j2 =>
((sget j2.1 0).bind (getI .i64)).bind fun n9 =>
((sget (j2.1.tail) 0).bind (getI .i64)).bind fun n10 =>
((sget (j2.1.tail.tail) 0).bind getA).bind fun d11 =>
((sget (j2.1.tail.tail.tail) 0).bind getB).bind fun b12 =>
(if b12 = true then
some ((.int .i64 (-1 : Int)), j2.2)
else
(loopL (B128_0 base) [some (.int .i64 n9), some (.int .i64 (IntKind.wrap .i64 (n10 - (1 : Int)))), some (.pointer (some d11)), some (.int .i64 (0 : Int))] j2.2).bind fun q13 =>
(if q13.1 = 2 then
((sget q13.2.1 0).bind (getI .i64)).bind fun n14 =>
some ((.int .i64 n14), q13.2.2)
else
none)) : Option (Value × AH)) := by kernel_rfl
theorem r128 {base : Nat} {v0_0 : Int} {v0_1 : Int} {v0_2 : ByteArray} {v0_3 : Option Addr} {v0_3n : Nat} {v1 : Int} {v2 : Int} {h : AH} {r : Value × AH} (hx :
((some (h ++ [some ⟨[(.int .i64 v0_0), (.int .i64 v0_1), (.string v0_2), (.slice v0_3 v0_3n v0_3n)], 38⟩])).bind fun h1 =>
((if (decide (v1 < (1 : Int))) = true then
some (.inl ([some (.int .i64 v1), some (.int .i64 v2), some (.pointer (some ⟨(List.length h), 0, none⟩)), some (.bool true)], h1))
else
(if (decide (v2 < (1 : Int))) = true then
some (.inl ([some (.int .i64 v1), some (.int .i64 v2), some (.pointer (some ⟨(List.length h), 0, none⟩)), some (.bool true)], h1))
else
((cell h1 (List.length h) 0).bind (getI .i64)).bind fun n3 =>
((cell h1 (List.length h) 1).bind (getI .i64)).bind fun n4 =>
((cell h1 (List.length h) 2).bind getStr).bind fun s5 =>
((cell h1 (List.length h) 3).bind getS).bind fun l6 =>
(run (Et base) 153 [(.agg #[(.int .i64 n3), (.int .i64 n4), (.string s5), (.slice l6.1 l6.2 l6.2)])] h1).bind fun r7 =>
((some r7.1).bind getB).bind fun b8 =>
some (.inl ([some (.int .i64 v1), some (.int .i64 v2), some (.pointer (some ⟨(List.length h), 0, none⟩)), some (.bool (!b8))], r7.2))))).bind fun j2 => joinK j2 fun j2 =>
((sget j2.1 0).bind (getI .i64)).bind fun n9 =>
((sget (j2.1.tail) 0).bind (getI .i64)).bind fun n10 =>
((sget (j2.1.tail.tail) 0).bind getA).bind fun d11 =>
((sget (j2.1.tail.tail.tail) 0).bind getB).bind fun b12 =>
(if b12 = true then
some ((.int .i64 (-1 : Int)), j2.2)
else
(loopL (B128_0 base) [some (.int .i64 n9), some (.int .i64 (IntKind.wrap .i64 (n10 - (1 : Int)))), some (.pointer (some d11)), some (.int .i64 (0 : Int))] j2.2).bind fun q13 =>
(if q13.1 = 2 then
((sget q13.2.1 0).bind (getI .i64)).bind fun n14 =>
some ((.int .i64 n14), q13.2.2)
else
none))) = some r) : run (Et base) 128 [(.agg #[(.int .i64 v0_0), (.int .i64 v0_1), (.string v0_2), (.slice v0_3 v0_3n v0_3n)]), (.int .i64 v1), (.int .i64 v2)] h = some r := run_i Try.func128 (by kernel_rfl) ((f128_eq base v0_0 v0_1 v0_2 v0_3 v0_3n v1 v2 h).trans hx)
/-! impl.fieldsOk (gates 0) -/
theorem f134_eq (base : Nat) (v0_0 : Int) (v0_1 : Int) (v0_2 : ByteArray) (v0_3 : Option Addr) (v0_3n : Nat) (h : AH) : exFun (Et base) (run (Et base)) loopL a134 Try.f134 [(.agg #[(.int .i64 v0_0), (.int .i64 v0_1), (.string v0_2), (.slice v0_3 v0_3n v0_3n)])] h =
((some (h ++ [some ⟨[(.int .i64 v0_0), (.int .i64 v0_1), (.string v0_2), (.slice v0_3 v0_3n v0_3n)], 38⟩])).bind fun h1 =>
((cell h1 (List.length h) 0).bind (getI .i64)).bind fun n2 =>
(if (n2 == (1 : Int)) = true then
((cell h1 (List.length h) 1).bind (getI .i64)).bind fun n3 =>
(run (Et base) 66 [(.int .i64 n3), (.int .i64 (-1000000 : Int)), (.int .i64 (1000000 : Int))] h1).bind fun r4 =>
((some r4.1).bind getB).bind fun b5 =>
(if b5 = true then
((cell r4.2 (List.length h) 2).bind getStr).bind fun s6 =>
(if (s6.toList == (⟨#[]⟩ : ByteArray).toList) = true then
((cell r4.2 (List.length h) 3).bind getS).bind fun l7 =>
some ((.bool (((l7.2 : Nat) : Int) == (0 : Int))), r4.2)
else
some ((.bool false), r4.2))
else
some ((.bool false), r4.2))
else
(if (n2 == (2 : Int)) = true then
((cell h1 (List.length h) 1).bind (getI .i64)).bind fun n8 =>
(if (n8 == (0 : Int)) = true then
((cell h1 (List.length h) 2).bind getStr).bind fun s9 =>
(run (Et base) 148 [(.string s9)] h1).bind fun r10 =>
((some r10.1).bind getB).bind fun b11 =>
(if b11 = true then
((cell r10.2 (List.length h) 3).bind getS).bind fun l12 =>
some ((.bool (((l12.2 : Nat) : Int) == (0 : Int))), r10.2)
else
some ((.bool false), r10.2))
else
some ((.bool false), h1))
else
(if (n2 == (3 : Int)) = true then
((cell h1 (List.length h) 1).bind (getI .i64)).bind fun n13 =>
(run (Et base) 66 [(.int .i64 n13), (.int .i64 (0 : Int)), (.int .i64 (99999 : Int))] h1).bind fun r14 =>
((some r14.1).bind getB).bind fun b15 =>
(if b15 = true then
((cell r14.2 (List.length h) 2).bind getStr).bind fun s16 =>
(if (s16.toList == (⟨#[]⟩ : ByteArray).toList) = true then
((cell r14.2 (List.length h) 3).bind getS).bind fun l17 =>
some ((.bool (((l17.2 : Nat) : Int) == (0 : Int))), r14.2)
else
some ((.bool false), r14.2))
else
some ((.bool false), r14.2))
else
(if (n2 == (4 : Int)) = true then
((cell h1 (List.length h) 1).bind (getI .i64)).bind fun n18 =>
(if (n18 == (0 : Int)) = true then
((cell h1 (List.length h) 2).bind getStr).bind fun s19 =>
(if (s19.toList == (⟨#[]⟩ : ByteArray).toList) = true then
((cell h1 (List.length h) 3).bind getS).bind fun l20 =>
some ((.bool (decide (((l20.2 : Nat) : Int) ≤ (8 : Int)))), h1)
else
some ((.bool false), h1))
else
some ((.bool false), h1))
else
(if (n2 == (5 : Int)) = true then
((cell h1 (List.length h) 1).bind (getI .i64)).bind fun n21 =>
(if (n21 == (0 : Int)) = true then
((cell h1 (List.length h) 2).bind getStr).bind fun s22 =>
(if (s22.toList == (⟨#[]⟩ : ByteArray).toList) = true then
((cell h1 (List.length h) 3).bind getS).bind fun l23 =>
some ((.bool (decide (((l23.2 : Nat) : Int) ≤ (20 : Int)))), h1)
else
some ((.bool false), h1))
else
some ((.bool false), h1))
else
(if (n2 == (6 : Int)) = true then
((cell h1 (List.length h) 1).bind (getI .i64)).bind fun n24 =>
(if (n24 == (0 : Int)) = true then
((cell h1 (List.length h) 2).bind getStr).bind fun s25 =>
(if (decide ((s25.size : Int) ≤ (40 : Int))) = true then
((cell h1 (List.length h) 3).bind getS).bind fun l26 =>
some ((.bool (((l26.2 : Nat) : Int) == (0 : Int))), h1)
else
some ((.bool false), h1))
else
some ((.bool false), h1))
else
some ((.bool false), h1))))))) : Option (Value × AH)) := by kernel_rfl
theorem r134 {base : Nat} {v0_0 : Int} {v0_1 : Int} {v0_2 : ByteArray} {v0_3 : Option Addr} {v0_3n : Nat} {h : AH} {r : Value × AH} (hx :
((some (h ++ [some ⟨[(.int .i64 v0_0), (.int .i64 v0_1), (.string v0_2), (.slice v0_3 v0_3n v0_3n)], 38⟩])).bind fun h1 =>
((cell h1 (List.length h) 0).bind (getI .i64)).bind fun n2 =>
(if (n2 == (1 : Int)) = true then
((cell h1 (List.length h) 1).bind (getI .i64)).bind fun n3 =>
(run (Et base) 66 [(.int .i64 n3), (.int .i64 (-1000000 : Int)), (.int .i64 (1000000 : Int))] h1).bind fun r4 =>
((some r4.1).bind getB).bind fun b5 =>
(if b5 = true then
((cell r4.2 (List.length h) 2).bind getStr).bind fun s6 =>
(if (s6.toList == (⟨#[]⟩ : ByteArray).toList) = true then
((cell r4.2 (List.length h) 3).bind getS).bind fun l7 =>
some ((.bool (((l7.2 : Nat) : Int) == (0 : Int))), r4.2)
else
some ((.bool false), r4.2))
else
some ((.bool false), r4.2))
else
(if (n2 == (2 : Int)) = true then
((cell h1 (List.length h) 1).bind (getI .i64)).bind fun n8 =>
(if (n8 == (0 : Int)) = true then
((cell h1 (List.length h) 2).bind getStr).bind fun s9 =>
(run (Et base) 148 [(.string s9)] h1).bind fun r10 =>
((some r10.1).bind getB).bind fun b11 =>
(if b11 = true then
((cell r10.2 (List.length h) 3).bind getS).bind fun l12 =>
some ((.bool (((l12.2 : Nat) : Int) == (0 : Int))), r10.2)
else
some ((.bool false), r10.2))
else
some ((.bool false), h1))
else
(if (n2 == (3 : Int)) = true then
((cell h1 (List.length h) 1).bind (getI .i64)).bind fun n13 =>
(run (Et base) 66 [(.int .i64 n13), (.int .i64 (0 : Int)), (.int .i64 (99999 : Int))] h1).bind fun r14 =>
((some r14.1).bind getB).bind fun b15 =>
(if b15 = true then
((cell r14.2 (List.length h) 2).bind getStr).bind fun s16 =>
(if (s16.toList == (⟨#[]⟩ : ByteArray).toList) = true then
((cell r14.2 (List.length h) 3).bind getS).bind fun l17 =>
some ((.bool (((l17.2 : Nat) : Int) == (0 : Int))), r14.2)
else
some ((.bool false), r14.2))
else
some ((.bool false), r14.2))
else
(if (n2 == (4 : Int)) = true then
((cell h1 (List.length h) 1).bind (getI .i64)).bind fun n18 =>
(if (n18 == (0 : Int)) = true then
((cell h1 (List.length h) 2).bind getStr).bind fun s19 =>
(if (s19.toList == (⟨#[]⟩ : ByteArray).toList) = true then
((cell h1 (List.length h) 3).bind getS).bind fun l20 =>
some ((.bool (decide (((l20.2 : Nat) : Int) ≤ (8 : Int)))), h1)
else
some ((.bool false), h1))
else
some ((.bool false), h1))
else
(if (n2 == (5 : Int)) = true then
((cell h1 (List.length h) 1).bind (getI .i64)).bind fun n21 =>
(if (n21 == (0 : Int)) = true then
((cell h1 (List.length h) 2).bind getStr).bind fun s22 =>
(if (s22.toList == (⟨#[]⟩ : ByteArray).toList) = true then
((cell h1 (List.length h) 3).bind getS).bind fun l23 =>
some ((.bool (decide (((l23.2 : Nat) : Int) ≤ (20 : Int)))), h1)
else
some ((.bool false), h1))
else
some ((.bool false), h1))
else
(if (n2 == (6 : Int)) = true then
((cell h1 (List.length h) 1).bind (getI .i64)).bind fun n24 =>
(if (n24 == (0 : Int)) = true then
((cell h1 (List.length h) 2).bind getStr).bind fun s25 =>
(if (decide ((s25.size : Int) ≤ (40 : Int))) = true then
((cell h1 (List.length h) 3).bind getS).bind fun l26 =>
some ((.bool (((l26.2 : Nat) : Int) == (0 : Int))), h1)
else
some ((.bool false), h1))
else
some ((.bool false), h1))
else
some ((.bool false), h1)))))))) = some r) : run (Et base) 134 [(.agg #[(.int .i64 v0_0), (.int .i64 v0_1), (.string v0_2), (.slice v0_3 v0_3n v0_3n)])] h = some r := run_i Try.func134 (by kernel_rfl) ((f134_eq base v0_0 v0_1 v0_2 v0_3 v0_3n h).trans hx)
/-! impl.onlyNamed (gates 0) -/
theorem f146_eq (base : Nat) (v0_0 : Int) (v0_1 : Int) (v0_2 : Int) (v0_3 : Int) (v0_4 : Int) (v0_5 : ByteArray) (h : AH) : exFun (Et base) (run (Et base)) loopL a146 Try.f146 [(.agg #[(.int .i64 v0_0), (.int .i64 v0_1), (.int .i64 v0_2), (.int .i64 v0_3), (.int .i64 v0_4), (.string v0_5)])] h =
((some (h ++ [some ⟨[(.int .i64 v0_0), (.int .i64 v0_1), (.int .i64 v0_2), (.int .i64 v0_3), (.int .i64 v0_4), (.string v0_5)], 82⟩])).bind fun h1 =>
((cell h1 (List.length h) 0).bind (getI .i64)).bind fun n2 =>
(run (Et base) 160 [(.int .i64 n2)] h1).bind fun r3 =>
((some r3.1).bind getStr).bind fun s4 =>
(some (r3.2 ++ [some ⟨[(.string ⟨#[]⟩)], 9⟩])).bind fun h5 =>
(wr base h5 (List.length r3.2) 0 [(.string s4)]).bind fun h6 =>
((cell h6 (List.length r3.2) 0).bind getStr).bind fun s7 =>
(if (!(s7.toList == (⟨#[]⟩ : ByteArray).toList)) = true then
((run (Et base) 161 [(.int .u8 (65 : Int)), (.pointer (some ⟨(List.length r3.2), 0, none⟩))] h6).bind fun r9 =>
((some r9.1).bind getB).bind fun b10 =>
some ((.bool b10), r9.2)).bind fun r8 =>
((some r8.1).bind getB).bind fun b11 =>
(if b11 = true then
((run (Et base) 161 [(.int .u8 (66 : Int)), (.pointer (some ⟨(List.length r3.2), 0, none⟩))] r8.2).bind fun r13 =>
((some r13.1).bind getB).bind fun b14 =>
some ((.bool b14), r13.2)).bind fun r12 =>
((some r12.1).bind getB).bind fun b15 =>
(if b15 = true then
((run (Et base) 161 [(.int .u8 (67 : Int)), (.pointer (some ⟨(List.length r3.2), 0, none⟩))] r12.2).bind fun r17 =>
((some r17.1).bind getB).bind fun b18 =>
some ((.bool b18), r17.2)).bind fun r16 =>
((some r16.1).bind getB).bind fun b19 =>
(if b19 = true then
((run (Et base) 161 [(.int .u8 (78 : Int)), (.pointer (some ⟨(List.length r3.2), 0, none⟩))] r16.2).bind fun r21 =>
((some r21.1).bind getB).bind fun b22 =>
some ((.bool b22), r21.2)).bind fun r20 =>
((some r20.1).bind getB).bind fun b23 =>
(if b23 = true then
((run (Et base) 161 [(.int .u8 (83 : Int)), (.pointer (some ⟨(List.length r3.2), 0, none⟩))] r20.2).bind fun r25 =>
((some r25.1).bind getB).bind fun b26 =>
some ((.bool b26), r25.2)).bind fun r24 =>
((some r24.1).bind getB).bind fun b27 =>
(if b27 = true then
some ((.bool true), r24.2)
else
((cell r24.2 (List.length h) 5).bind getStr).bind fun s28 =>
some ((.bool (s28.toList == (⟨#[]⟩ : ByteArray).toList)), r24.2))
else
((cell r20.2 (List.length h) 4).bind (getI .i64)).bind fun n29 =>
(if (n29 == (0 : Int)) = true then
((run (Et base) 161 [(.int .u8 (83 : Int)), (.pointer (some ⟨(List.length r3.2), 0, none⟩))] r20.2).bind fun r31 =>
((some r31.1).bind getB).bind fun b32 =>
some ((.bool b32), r31.2)).bind fun r30 =>
((some r30.1).bind getB).bind fun b33 =>
(if b33 = true then
some ((.bool true), r30.2)
else
((cell r30.2 (List.length h) 5).bind getStr).bind fun s34 =>
some ((.bool (s34.toList == (⟨#[]⟩ : ByteArray).toList)), r30.2))
else
some ((.bool false), r20.2)))
else
((cell r16.2 (List.length h) 3).bind (getI .i64)).bind fun n35 =>
(if (n35 == (0 : Int)) = true then
((run (Et base) 161 [(.int .u8 (78 : Int)), (.pointer (some ⟨(List.length r3.2), 0, none⟩))] r16.2).bind fun r37 =>
((some r37.1).bind getB).bind fun b38 =>
some ((.bool b38), r37.2)).bind fun r36 =>
((some r36.1).bind getB).bind fun b39 =>
(if b39 = true then
((run (Et base) 161 [(.int .u8 (83 : Int)), (.pointer (some ⟨(List.length r3.2), 0, none⟩))] r36.2).bind fun r41 =>
((some r41.1).bind getB).bind fun b42 =>
some ((.bool b42), r41.2)).bind fun r40 =>
((some r40.1).bind getB).bind fun b43 =>
(if b43 = true then
some ((.bool true), r40.2)
else
((cell r40.2 (List.length h) 5).bind getStr).bind fun s44 =>
some ((.bool (s44.toList == (⟨#[]⟩ : ByteArray).toList)), r40.2))
else
((cell r36.2 (List.length h) 4).bind (getI .i64)).bind fun n45 =>
(if (n45 == (0 : Int)) = true then
((run (Et base) 161 [(.int .u8 (83 : Int)), (.pointer (some ⟨(List.length r3.2), 0, none⟩))] r36.2).bind fun r47 =>
((some r47.1).bind getB).bind fun b48 =>
some ((.bool b48), r47.2)).bind fun r46 =>
((some r46.1).bind getB).bind fun b49 =>
(if b49 = true then
some ((.bool true), r46.2)
else
((cell r46.2 (List.length h) 5).bind getStr).bind fun s50 =>
some ((.bool (s50.toList == (⟨#[]⟩ : ByteArray).toList)), r46.2))
else
some ((.bool false), r36.2)))
else
some ((.bool false), r16.2)))
else
((cell r12.2 (List.length h) 2).bind (getI .i64)).bind fun n51 =>
(if (n51 == (0 : Int)) = true then
((run (Et base) 161 [(.int .u8 (67 : Int)), (.pointer (some ⟨(List.length r3.2), 0, none⟩))] r12.2).bind fun r53 =>
((some r53.1).bind getB).bind fun b54 =>
some ((.bool b54), r53.2)).bind fun r52 =>
((some r52.1).bind getB).bind fun b55 =>
(if b55 = true then
((run (Et base) 161 [(.int .u8 (78 : Int)), (.pointer (some ⟨(List.length r3.2), 0, none⟩))] r52.2).bind fun r57 =>
((some r57.1).bind getB).bind fun b58 =>
some ((.bool b58), r57.2)).bind fun r56 =>
((some r56.1).bind getB).bind fun b59 =>
(if b59 = true then
((run (Et base) 161 [(.int .u8 (83 : Int)), (.pointer (some ⟨(List.length r3.2), 0, none⟩))] r56.2).bind fun r61 =>
((some r61.1).bind getB).bind fun b62 =>
some ((.bool b62), r61.2)).bind fun r60 =>
((some r60.1).bind getB).bind fun b63 =>
(if b63 = true then
some ((.bool true), r60.2)
else
((cell r60.2 (List.length h) 5).bind getStr).bind fun s64 =>
some ((.bool (s64.toList == (⟨#[]⟩ : ByteArray).toList)), r60.2))
else
((cell r56.2 (List.length h) 4).bind (getI .i64)).bind fun n65 =>
(if (n65 == (0 : Int)) = true then
((run (Et base) 161 [(.int .u8 (83 : Int)), (.pointer (some ⟨(List.length r3.2), 0, none⟩))] r56.2).bind fun r67 =>
((some r67.1).bind getB).bind fun b68 =>
some ((.bool b68), r67.2)).bind fun r66 =>
((some r66.1).bind getB).bind fun b69 =>
(if b69 = true then
some ((.bool true), r66.2)
else
((cell r66.2 (List.length h) 5).bind getStr).bind fun s70 =>
some ((.bool (s70.toList == (⟨#[]⟩ : ByteArray).toList)), r66.2))
else
some ((.bool false), r56.2)))
else
((cell r52.2 (List.length h) 3).bind (getI .i64)).bind fun n71 =>
(if (n71 == (0 : Int)) = true then
((run (Et base) 161 [(.int .u8 (78 : Int)), (.pointer (some ⟨(List.length r3.2), 0, none⟩))] r52.2).bind fun r73 =>
((some r73.1).bind getB).bind fun b74 =>
some ((.bool b74), r73.2)).bind fun r72 =>
((some r72.1).bind getB).bind fun b75 =>
(if b75 = true then
((run (Et base) 161 [(.int .u8 (83 : Int)), (.pointer (some ⟨(List.length r3.2), 0, none⟩))] r72.2).bind fun r77 =>
((some r77.1).bind getB).bind fun b78 =>
some ((.bool b78), r77.2)).bind fun r76 =>
((some r76.1).bind getB).bind fun b79 =>
(if b79 = true then
some ((.bool true), r76.2)
else
((cell r76.2 (List.length h) 5).bind getStr).bind fun s80 =>
some ((.bool (s80.toList == (⟨#[]⟩ : ByteArray).toList)), r76.2))
else
((cell r72.2 (List.length h) 4).bind (getI .i64)).bind fun n81 =>
(if (n81 == (0 : Int)) = true then
((run (Et base) 161 [(.int .u8 (83 : Int)), (.pointer (some ⟨(List.length r3.2), 0, none⟩))] r72.2).bind fun r83 =>
((some r83.1).bind getB).bind fun b84 =>
some ((.bool b84), r83.2)).bind fun r82 =>
((some r82.1).bind getB).bind fun b85 =>
(if b85 = true then
some ((.bool true), r82.2)
else
((cell r82.2 (List.length h) 5).bind getStr).bind fun s86 =>
some ((.bool (s86.toList == (⟨#[]⟩ : ByteArray).toList)), r82.2))
else
some ((.bool false), r72.2)))
else
some ((.bool false), r52.2)))
else
some ((.bool false), r12.2)))
else
((cell r8.2 (List.length h) 1).bind (getI .i64)).bind fun n87 =>
(if (n87 == (0 : Int)) = true then
((run (Et base) 161 [(.int .u8 (66 : Int)), (.pointer (some ⟨(List.length r3.2), 0, none⟩))] r8.2).bind fun r89 =>
((some r89.1).bind getB).bind fun b90 =>
some ((.bool b90), r89.2)).bind fun r88 =>
((some r88.1).bind getB).bind fun b91 =>
(if b91 = true then
((run (Et base) 161 [(.int .u8 (67 : Int)), (.pointer (some ⟨(List.length r3.2), 0, none⟩))] r88.2).bind fun r93 =>
((some r93.1).bind getB).bind fun b94 =>
some ((.bool b94), r93.2)).bind fun r92 =>
((some r92.1).bind getB).bind fun b95 =>
(if b95 = true then
((run (Et base) 161 [(.int .u8 (78 : Int)), (.pointer (some ⟨(List.length r3.2), 0, none⟩))] r92.2).bind fun r97 =>
((some r97.1).bind getB).bind fun b98 =>
some ((.bool b98), r97.2)).bind fun r96 =>
((some r96.1).bind getB).bind fun b99 =>
(if b99 = true then
((run (Et base) 161 [(.int .u8 (83 : Int)), (.pointer (some ⟨(List.length r3.2), 0, none⟩))] r96.2).bind fun r101 =>
((some r101.1).bind getB).bind fun b102 =>
some ((.bool b102), r101.2)).bind fun r100 =>
((some r100.1).bind getB).bind fun b103 =>
(if b103 = true then
some ((.bool true), r100.2)
else
((cell r100.2 (List.length h) 5).bind getStr).bind fun s104 =>
some ((.bool (s104.toList == (⟨#[]⟩ : ByteArray).toList)), r100.2))
else
((cell r96.2 (List.length h) 4).bind (getI .i64)).bind fun n105 =>
(if (n105 == (0 : Int)) = true then
((run (Et base) 161 [(.int .u8 (83 : Int)), (.pointer (some ⟨(List.length r3.2), 0, none⟩))] r96.2).bind fun r107 =>
((some r107.1).bind getB).bind fun b108 =>
some ((.bool b108), r107.2)).bind fun r106 =>
((some r106.1).bind getB).bind fun b109 =>
(if b109 = true then
some ((.bool true), r106.2)
else
((cell r106.2 (List.length h) 5).bind getStr).bind fun s110 =>
some ((.bool (s110.toList == (⟨#[]⟩ : ByteArray).toList)), r106.2))
else
some ((.bool false), r96.2)))
else
((cell r92.2 (List.length h) 3).bind (getI .i64)).bind fun n111 =>
(if (n111 == (0 : Int)) = true then
((run (Et base) 161 [(.int .u8 (78 : Int)), (.pointer (some ⟨(List.length r3.2), 0, none⟩))] r92.2).bind fun r113 =>
((some r113.1).bind getB).bind fun b114 =>
some ((.bool b114), r113.2)).bind fun r112 =>
((some r112.1).bind getB).bind fun b115 =>
(if b115 = true then
((run (Et base) 161 [(.int .u8 (83 : Int)), (.pointer (some ⟨(List.length r3.2), 0, none⟩))] r112.2).bind fun r117 =>
((some r117.1).bind getB).bind fun b118 =>
some ((.bool b118), r117.2)).bind fun r116 =>
((some r116.1).bind getB).bind fun b119 =>
(if b119 = true then
some ((.bool true), r116.2)
else
((cell r116.2 (List.length h) 5).bind getStr).bind fun s120 =>
some ((.bool (s120.toList == (⟨#[]⟩ : ByteArray).toList)), r116.2))
else
((cell r112.2 (List.length h) 4).bind (getI .i64)).bind fun n121 =>
(if (n121 == (0 : Int)) = true then
((run (Et base) 161 [(.int .u8 (83 : Int)), (.pointer (some ⟨(List.length r3.2), 0, none⟩))] r112.2).bind fun r123 =>
((some r123.1).bind getB).bind fun b124 =>
some ((.bool b124), r123.2)).bind fun r122 =>
((some r122.1).bind getB).bind fun b125 =>
(if b125 = true then
some ((.bool true), r122.2)
else
((cell r122.2 (List.length h) 5).bind getStr).bind fun s126 =>
some ((.bool (s126.toList == (⟨#[]⟩ : ByteArray).toList)), r122.2))
else
some ((.bool false), r112.2)))
else
some ((.bool false), r92.2)))
else
((cell r88.2 (List.length h) 2).bind (getI .i64)).bind fun n127 =>
(if (n127 == (0 : Int)) = true then
((run (Et base) 161 [(.int .u8 (67 : Int)), (.pointer (some ⟨(List.length r3.2), 0, none⟩))] r88.2).bind fun r129 =>
((some r129.1).bind getB).bind fun b130 =>
some ((.bool b130), r129.2)).bind fun r128 =>
((some r128.1).bind getB).bind fun b131 =>
(if b131 = true then
((run (Et base) 161 [(.int .u8 (78 : Int)), (.pointer (some ⟨(List.length r3.2), 0, none⟩))] r128.2).bind fun r133 =>
((some r133.1).bind getB).bind fun b134 =>
some ((.bool b134), r133.2)).bind fun r132 =>
((some r132.1).bind getB).bind fun b135 =>
(if b135 = true then
((run (Et base) 161 [(.int .u8 (83 : Int)), (.pointer (some ⟨(List.length r3.2), 0, none⟩))] r132.2).bind fun r137 =>
((some r137.1).bind getB).bind fun b138 =>
some ((.bool b138), r137.2)).bind fun r136 =>
((some r136.1).bind getB).bind fun b139 =>
(if b139 = true then
some ((.bool true), r136.2)
else
((cell r136.2 (List.length h) 5).bind getStr).bind fun s140 =>
some ((.bool (s140.toList == (⟨#[]⟩ : ByteArray).toList)), r136.2))
else
((cell r132.2 (List.length h) 4).bind (getI .i64)).bind fun n141 =>
(if (n141 == (0 : Int)) = true then
((run (Et base) 161 [(.int .u8 (83 : Int)), (.pointer (some ⟨(List.length r3.2), 0, none⟩))] r132.2).bind fun r143 =>
((some r143.1).bind getB).bind fun b144 =>
some ((.bool b144), r143.2)).bind fun r142 =>
((some r142.1).bind getB).bind fun b145 =>
(if b145 = true then
some ((.bool true), r142.2)
else
((cell r142.2 (List.length h) 5).bind getStr).bind fun s146 =>
some ((.bool (s146.toList == (⟨#[]⟩ : ByteArray).toList)), r142.2))
else
some ((.bool false), r132.2)))
else
((cell r128.2 (List.length h) 3).bind (getI .i64)).bind fun n147 =>
(if (n147 == (0 : Int)) = true then
((run (Et base) 161 [(.int .u8 (78 : Int)), (.pointer (some ⟨(List.length r3.2), 0, none⟩))] r128.2).bind fun r149 =>
((some r149.1).bind getB).bind fun b150 =>
some ((.bool b150), r149.2)).bind fun r148 =>
((some r148.1).bind getB).bind fun b151 =>
(if b151 = true then
((run (Et base) 161 [(.int .u8 (83 : Int)), (.pointer (some ⟨(List.length r3.2), 0, none⟩))] r148.2).bind fun r153 =>
((some r153.1).bind getB).bind fun b154 =>
some ((.bool b154), r153.2)).bind fun r152 =>
((some r152.1).bind getB).bind fun b155 =>
(if b155 = true then
some ((.bool true), r152.2)
else
((cell r152.2 (List.length h) 5).bind getStr).bind fun s156 =>
some ((.bool (s156.toList == (⟨#[]⟩ : ByteArray).toList)), r152.2))
else
((cell r148.2 (List.length h) 4).bind (getI .i64)).bind fun n157 =>
(if (n157 == (0 : Int)) = true then
((run (Et base) 161 [(.int .u8 (83 : Int)), (.pointer (some ⟨(List.length r3.2), 0, none⟩))] r148.2).bind fun r159 =>
((some r159.1).bind getB).bind fun b160 =>
some ((.bool b160), r159.2)).bind fun r158 =>
((some r158.1).bind getB).bind fun b161 =>
(if b161 = true then
some ((.bool true), r158.2)
else
((cell r158.2 (List.length h) 5).bind getStr).bind fun s162 =>
some ((.bool (s162.toList == (⟨#[]⟩ : ByteArray).toList)), r158.2))
else
some ((.bool false), r148.2)))
else
some ((.bool false), r128.2)))
else
some ((.bool false), r88.2)))
else
some ((.bool false), r8.2)))
else
some ((.bool false), h6)) : Option (Value × AH)) := by kernel_rfl
theorem r146 {base : Nat} {v0_0 : Int} {v0_1 : Int} {v0_2 : Int} {v0_3 : Int} {v0_4 : Int} {v0_5 : ByteArray} {h : AH} {r : Value × AH} (hx :
((some (h ++ [some ⟨[(.int .i64 v0_0), (.int .i64 v0_1), (.int .i64 v0_2), (.int .i64 v0_3), (.int .i64 v0_4), (.string v0_5)], 82⟩])).bind fun h1 =>
((cell h1 (List.length h) 0).bind (getI .i64)).bind fun n2 =>
(run (Et base) 160 [(.int .i64 n2)] h1).bind fun r3 =>
((some r3.1).bind getStr).bind fun s4 =>
(some (r3.2 ++ [some ⟨[(.string ⟨#[]⟩)], 9⟩])).bind fun h5 =>
(wr base h5 (List.length r3.2) 0 [(.string s4)]).bind fun h6 =>
((cell h6 (List.length r3.2) 0).bind getStr).bind fun s7 =>
(if (!(s7.toList == (⟨#[]⟩ : ByteArray).toList)) = true then
((run (Et base) 161 [(.int .u8 (65 : Int)), (.pointer (some ⟨(List.length r3.2), 0, none⟩))] h6).bind fun r9 =>
((some r9.1).bind getB).bind fun b10 =>
some ((.bool b10), r9.2)).bind fun r8 =>
((some r8.1).bind getB).bind fun b11 =>
(if b11 = true then
((run (Et base) 161 [(.int .u8 (66 : Int)), (.pointer (some ⟨(List.length r3.2), 0, none⟩))] r8.2).bind fun r13 =>
((some r13.1).bind getB).bind fun b14 =>
some ((.bool b14), r13.2)).bind fun r12 =>
((some r12.1).bind getB).bind fun b15 =>
(if b15 = true then
((run (Et base) 161 [(.int .u8 (67 : Int)), (.pointer (some ⟨(List.length r3.2), 0, none⟩))] r12.2).bind fun r17 =>
((some r17.1).bind getB).bind fun b18 =>
some ((.bool b18), r17.2)).bind fun r16 =>
((some r16.1).bind getB).bind fun b19 =>
(if b19 = true then
((run (Et base) 161 [(.int .u8 (78 : Int)), (.pointer (some ⟨(List.length r3.2), 0, none⟩))] r16.2).bind fun r21 =>
((some r21.1).bind getB).bind fun b22 =>
some ((.bool b22), r21.2)).bind fun r20 =>
((some r20.1).bind getB).bind fun b23 =>
(if b23 = true then
((run (Et base) 161 [(.int .u8 (83 : Int)), (.pointer (some ⟨(List.length r3.2), 0, none⟩))] r20.2).bind fun r25 =>
((some r25.1).bind getB).bind fun b26 =>
some ((.bool b26), r25.2)).bind fun r24 =>
((some r24.1).bind getB).bind fun b27 =>
(if b27 = true then
some ((.bool true), r24.2)
else
((cell r24.2 (List.length h) 5).bind getStr).bind fun s28 =>
some ((.bool (s28.toList == (⟨#[]⟩ : ByteArray).toList)), r24.2))
else
((cell r20.2 (List.length h) 4).bind (getI .i64)).bind fun n29 =>
(if (n29 == (0 : Int)) = true then
((run (Et base) 161 [(.int .u8 (83 : Int)), (.pointer (some ⟨(List.length r3.2), 0, none⟩))] r20.2).bind fun r31 =>
((some r31.1).bind getB).bind fun b32 =>
some ((.bool b32), r31.2)).bind fun r30 =>
((some r30.1).bind getB).bind fun b33 =>
(if b33 = true then
some ((.bool true), r30.2)
else
((cell r30.2 (List.length h) 5).bind getStr).bind fun s34 =>
some ((.bool (s34.toList == (⟨#[]⟩ : ByteArray).toList)), r30.2))
else
some ((.bool false), r20.2)))
else
((cell r16.2 (List.length h) 3).bind (getI .i64)).bind fun n35 =>
(if (n35 == (0 : Int)) = true then
((run (Et base) 161 [(.int .u8 (78 : Int)), (.pointer (some ⟨(List.length r3.2), 0, none⟩))] r16.2).bind fun r37 =>
((some r37.1).bind getB).bind fun b38 =>
some ((.bool b38), r37.2)).bind fun r36 =>
((some r36.1).bind getB).bind fun b39 =>
(if b39 = true then
((run (Et base) 161 [(.int .u8 (83 : Int)), (.pointer (some ⟨(List.length r3.2), 0, none⟩))] r36.2).bind fun r41 =>
((some r41.1).bind getB).bind fun b42 =>
some ((.bool b42), r41.2)).bind fun r40 =>
((some r40.1).bind getB).bind fun b43 =>
(if b43 = true then
some ((.bool true), r40.2)
else
((cell r40.2 (List.length h) 5).bind getStr).bind fun s44 =>
some ((.bool (s44.toList == (⟨#[]⟩ : ByteArray).toList)), r40.2))
else
((cell r36.2 (List.length h) 4).bind (getI .i64)).bind fun n45 =>
(if (n45 == (0 : Int)) = true then
((run (Et base) 161 [(.int .u8 (83 : Int)), (.pointer (some ⟨(List.length r3.2), 0, none⟩))] r36.2).bind fun r47 =>
((some r47.1).bind getB).bind fun b48 =>
some ((.bool b48), r47.2)).bind fun r46 =>
((some r46.1).bind getB).bind fun b49 =>
(if b49 = true then
some ((.bool true), r46.2)
else
((cell r46.2 (List.length h) 5).bind getStr).bind fun s50 =>
some ((.bool (s50.toList == (⟨#[]⟩ : ByteArray).toList)), r46.2))
else
some ((.bool false), r36.2)))
else
some ((.bool false), r16.2)))
else
((cell r12.2 (List.length h) 2).bind (getI .i64)).bind fun n51 =>
(if (n51 == (0 : Int)) = true then
((run (Et base) 161 [(.int .u8 (67 : Int)), (.pointer (some ⟨(List.length r3.2), 0, none⟩))] r12.2).bind fun r53 =>
((some r53.1).bind getB).bind fun b54 =>
some ((.bool b54), r53.2)).bind fun r52 =>
((some r52.1).bind getB).bind fun b55 =>
(if b55 = true then
((run (Et base) 161 [(.int .u8 (78 : Int)), (.pointer (some ⟨(List.length r3.2), 0, none⟩))] r52.2).bind fun r57 =>
((some r57.1).bind getB).bind fun b58 =>
some ((.bool b58), r57.2)).bind fun r56 =>
((some r56.1).bind getB).bind fun b59 =>
(if b59 = true then
((run (Et base) 161 [(.int .u8 (83 : Int)), (.pointer (some ⟨(List.length r3.2), 0, none⟩))] r56.2).bind fun r61 =>
((some r61.1).bind getB).bind fun b62 =>
some ((.bool b62), r61.2)).bind fun r60 =>
((some r60.1).bind getB).bind fun b63 =>
(if b63 = true then
some ((.bool true), r60.2)
else
((cell r60.2 (List.length h) 5).bind getStr).bind fun s64 =>
some ((.bool (s64.toList == (⟨#[]⟩ : ByteArray).toList)), r60.2))
else
((cell r56.2 (List.length h) 4).bind (getI .i64)).bind fun n65 =>
(if (n65 == (0 : Int)) = true then
((run (Et base) 161 [(.int .u8 (83 : Int)), (.pointer (some ⟨(List.length r3.2), 0, none⟩))] r56.2).bind fun r67 =>
((some r67.1).bind getB).bind fun b68 =>
some ((.bool b68), r67.2)).bind fun r66 =>
((some r66.1).bind getB).bind fun b69 =>
(if b69 = true then
some ((.bool true), r66.2)
else
((cell r66.2 (List.length h) 5).bind getStr).bind fun s70 =>
some ((.bool (s70.toList == (⟨#[]⟩ : ByteArray).toList)), r66.2))
else
some ((.bool false), r56.2)))
else
((cell r52.2 (List.length h) 3).bind (getI .i64)).bind fun n71 =>
(if (n71 == (0 : Int)) = true then
((run (Et base) 161 [(.int .u8 (78 : Int)), (.pointer (some ⟨(List.length r3.2), 0, none⟩))] r52.2).bind fun r73 =>
((some r73.1).bind getB).bind fun b74 =>
some ((.bool b74), r73.2)).bind fun r72 =>
((some r72.1).bind getB).bind fun b75 =>
(if b75 = true then
((run (Et base) 161 [(.int .u8 (83 : Int)), (.pointer (some ⟨(List.length r3.2), 0, none⟩))] r72.2).bind fun r77 =>
((some r77.1).bind getB).bind fun b78 =>
some ((.bool b78), r77.2)).bind fun r76 =>
((some r76.1).bind getB).bind fun b79 =>
(if b79 = true then
some ((.bool true), r76.2)
else
((cell r76.2 (List.length h) 5).bind getStr).bind fun s80 =>
some ((.bool (s80.toList == (⟨#[]⟩ : ByteArray).toList)), r76.2))
else
((cell r72.2 (List.length h) 4).bind (getI .i64)).bind fun n81 =>
(if (n81 == (0 : Int)) = true then
((run (Et base) 161 [(.int .u8 (83 : Int)), (.pointer (some ⟨(List.length r3.2), 0, none⟩))] r72.2).bind fun r83 =>
((some r83.1).bind getB).bind fun b84 =>
some ((.bool b84), r83.2)).bind fun r82 =>
((some r82.1).bind getB).bind fun b85 =>
(if b85 = true then
some ((.bool true), r82.2)
else
((cell r82.2 (List.length h) 5).bind getStr).bind fun s86 =>
some ((.bool (s86.toList == (⟨#[]⟩ : ByteArray).toList)), r82.2))
else
some ((.bool false), r72.2)))
else
some ((.bool false), r52.2)))
else
some ((.bool false), r12.2)))
else
((cell r8.2 (List.length h) 1).bind (getI .i64)).bind fun n87 =>
(if (n87 == (0 : Int)) = true then
((run (Et base) 161 [(.int .u8 (66 : Int)), (.pointer (some ⟨(List.length r3.2), 0, none⟩))] r8.2).bind fun r89 =>
((some r89.1).bind getB).bind fun b90 =>
some ((.bool b90), r89.2)).bind fun r88 =>
((some r88.1).bind getB).bind fun b91 =>
(if b91 = true then
((run (Et base) 161 [(.int .u8 (67 : Int)), (.pointer (some ⟨(List.length r3.2), 0, none⟩))] r88.2).bind fun r93 =>
((some r93.1).bind getB).bind fun b94 =>
some ((.bool b94), r93.2)).bind fun r92 =>
((some r92.1).bind getB).bind fun b95 =>
(if b95 = true then
((run (Et base) 161 [(.int .u8 (78 : Int)), (.pointer (some ⟨(List.length r3.2), 0, none⟩))] r92.2).bind fun r97 =>
((some r97.1).bind getB).bind fun b98 =>
some ((.bool b98), r97.2)).bind fun r96 =>
((some r96.1).bind getB).bind fun b99 =>
(if b99 = true then
((run (Et base) 161 [(.int .u8 (83 : Int)), (.pointer (some ⟨(List.length r3.2), 0, none⟩))] r96.2).bind fun r101 =>
((some r101.1).bind getB).bind fun b102 =>
some ((.bool b102), r101.2)).bind fun r100 =>
((some r100.1).bind getB).bind fun b103 =>
(if b103 = true then
some ((.bool true), r100.2)
else
((cell r100.2 (List.length h) 5).bind getStr).bind fun s104 =>
some ((.bool (s104.toList == (⟨#[]⟩ : ByteArray).toList)), r100.2))
else
((cell r96.2 (List.length h) 4).bind (getI .i64)).bind fun n105 =>
(if (n105 == (0 : Int)) = true then
((run (Et base) 161 [(.int .u8 (83 : Int)), (.pointer (some ⟨(List.length r3.2), 0, none⟩))] r96.2).bind fun r107 =>
((some r107.1).bind getB).bind fun b108 =>
some ((.bool b108), r107.2)).bind fun r106 =>
((some r106.1).bind getB).bind fun b109 =>
(if b109 = true then
some ((.bool true), r106.2)
else
((cell r106.2 (List.length h) 5).bind getStr).bind fun s110 =>
some ((.bool (s110.toList == (⟨#[]⟩ : ByteArray).toList)), r106.2))
else
some ((.bool false), r96.2)))
else
((cell r92.2 (List.length h) 3).bind (getI .i64)).bind fun n111 =>
(if (n111 == (0 : Int)) = true then
((run (Et base) 161 [(.int .u8 (78 : Int)), (.pointer (some ⟨(List.length r3.2), 0, none⟩))] r92.2).bind fun r113 =>
((some r113.1).bind getB).bind fun b114 =>
some ((.bool b114), r113.2)).bind fun r112 =>
((some r112.1).bind getB).bind fun b115 =>
(if b115 = true then
((run (Et base) 161 [(.int .u8 (83 : Int)), (.pointer (some ⟨(List.length r3.2), 0, none⟩))] r112.2).bind fun r117 =>
((some r117.1).bind getB).bind fun b118 =>
some ((.bool b118), r117.2)).bind fun r116 =>
((some r116.1).bind getB).bind fun b119 =>
(if b119 = true then
some ((.bool true), r116.2)
else
((cell r116.2 (List.length h) 5).bind getStr).bind fun s120 =>
some ((.bool (s120.toList == (⟨#[]⟩ : ByteArray).toList)), r116.2))
else
((cell r112.2 (List.length h) 4).bind (getI .i64)).bind fun n121 =>
(if (n121 == (0 : Int)) = true then
((run (Et base) 161 [(.int .u8 (83 : Int)), (.pointer (some ⟨(List.length r3.2), 0, none⟩))] r112.2).bind fun r123 =>
((some r123.1).bind getB).bind fun b124 =>
some ((.bool b124), r123.2)).bind fun r122 =>
((some r122.1).bind getB).bind fun b125 =>
(if b125 = true then
some ((.bool true), r122.2)
else
((cell r122.2 (List.length h) 5).bind getStr).bind fun s126 =>
some ((.bool (s126.toList == (⟨#[]⟩ : ByteArray).toList)), r122.2))
else
some ((.bool false), r112.2)))
else
some ((.bool false), r92.2)))
else
((cell r88.2 (List.length h) 2).bind (getI .i64)).bind fun n127 =>
(if (n127 == (0 : Int)) = true then
((run (Et base) 161 [(.int .u8 (67 : Int)), (.pointer (some ⟨(List.length r3.2), 0, none⟩))] r88.2).bind fun r129 =>
((some r129.1).bind getB).bind fun b130 =>
some ((.bool b130), r129.2)).bind fun r128 =>
((some r128.1).bind getB).bind fun b131 =>
(if b131 = true then
((run (Et base) 161 [(.int .u8 (78 : Int)), (.pointer (some ⟨(List.length r3.2), 0, none⟩))] r128.2).bind fun r133 =>
((some r133.1).bind getB).bind fun b134 =>
some ((.bool b134), r133.2)).bind fun r132 =>
((some r132.1).bind getB).bind fun b135 =>
(if b135 = true then
((run (Et base) 161 [(.int .u8 (83 : Int)), (.pointer (some ⟨(List.length r3.2), 0, none⟩))] r132.2).bind fun r137 =>
((some r137.1).bind getB).bind fun b138 =>
some ((.bool b138), r137.2)).bind fun r136 =>
((some r136.1).bind getB).bind fun b139 =>
(if b139 = true then
some ((.bool true), r136.2)
else
((cell r136.2 (List.length h) 5).bind getStr).bind fun s140 =>
some ((.bool (s140.toList == (⟨#[]⟩ : ByteArray).toList)), r136.2))
else
((cell r132.2 (List.length h) 4).bind (getI .i64)).bind fun n141 =>
(if (n141 == (0 : Int)) = true then
((run (Et base) 161 [(.int .u8 (83 : Int)), (.pointer (some ⟨(List.length r3.2), 0, none⟩))] r132.2).bind fun r143 =>
((some r143.1).bind getB).bind fun b144 =>
some ((.bool b144), r143.2)).bind fun r142 =>
((some r142.1).bind getB).bind fun b145 =>
(if b145 = true then
some ((.bool true), r142.2)
else
((cell r142.2 (List.length h) 5).bind getStr).bind fun s146 =>
some ((.bool (s146.toList == (⟨#[]⟩ : ByteArray).toList)), r142.2))
else
some ((.bool false), r132.2)))
else
((cell r128.2 (List.length h) 3).bind (getI .i64)).bind fun n147 =>
(if (n147 == (0 : Int)) = true then
((run (Et base) 161 [(.int .u8 (78 : Int)), (.pointer (some ⟨(List.length r3.2), 0, none⟩))] r128.2).bind fun r149 =>
((some r149.1).bind getB).bind fun b150 =>
some ((.bool b150), r149.2)).bind fun r148 =>
((some r148.1).bind getB).bind fun b151 =>
(if b151 = true then
((run (Et base) 161 [(.int .u8 (83 : Int)), (.pointer (some ⟨(List.length r3.2), 0, none⟩))] r148.2).bind fun r153 =>
((some r153.1).bind getB).bind fun b154 =>
some ((.bool b154), r153.2)).bind fun r152 =>
((some r152.1).bind getB).bind fun b155 =>
(if b155 = true then
some ((.bool true), r152.2)
else
((cell r152.2 (List.length h) 5).bind getStr).bind fun s156 =>
some ((.bool (s156.toList == (⟨#[]⟩ : ByteArray).toList)), r152.2))
else
((cell r148.2 (List.length h) 4).bind (getI .i64)).bind fun n157 =>
(if (n157 == (0 : Int)) = true then
((run (Et base) 161 [(.int .u8 (83 : Int)), (.pointer (some ⟨(List.length r3.2), 0, none⟩))] r148.2).bind fun r159 =>
((some r159.1).bind getB).bind fun b160 =>
some ((.bool b160), r159.2)).bind fun r158 =>
((some r158.1).bind getB).bind fun b161 =>
(if b161 = true then
some ((.bool true), r158.2)
else
((cell r158.2 (List.length h) 5).bind getStr).bind fun s162 =>
some ((.bool (s162.toList == (⟨#[]⟩ : ByteArray).toList)), r158.2))
else
some ((.bool false), r148.2)))
else
some ((.bool false), r128.2)))
else
some ((.bool false), r88.2)))
else
some ((.bool false), r8.2)))
else
some ((.bool false), h6))) = some r) : run (Et base) 146 [(.agg #[(.int .i64 v0_0), (.int .i64 v0_1), (.int .i64 v0_2), (.int .i64 v0_3), (.int .i64 v0_4), (.string v0_5)])] h = some r := run_i Try.func146 (by kernel_rfl) ((f146_eq base v0_0 v0_1 v0_2 v0_3 v0_4 v0_5 h).trans hx)
/-! impl.isReg (gates 0) -/
theorem f147_eq (base : Nat) (v0 : Int) (h : AH) : exFun (Et base) (run (Et base)) loopL a147 Try.f147 [(.int .i64 v0)] h =
((run (Et base) 66 [(.int .i64 v0), (.int .i64 (0 : Int)), (.int .i64 (7 : Int))] h).bind fun r1 =>
((some r1.1).bind getB).bind fun b2 =>
some ((.bool b2), r1.2) : Option (Value × AH)) := by kernel_rfl
theorem r147 {base : Nat} {v0 : Int} {h : AH} {r : Value × AH} (hx :
((run (Et base) 66 [(.int .i64 v0), (.int .i64 (0 : Int)), (.int .i64 (7 : Int))] h).bind fun r1 =>
((some r1.1).bind getB).bind fun b2 =>
some ((.bool b2), r1.2)) = some r) : run (Et base) 147 [(.int .i64 v0)] h = some r := run_i Try.func147 (by kernel_rfl) ((f147_eq base v0 h).trans hx)
/-! impl.AtomOk (gates 0) -/
noncomputable def B148_0 (base : Nat) : Body := fun l h => lay s148_0 l fun s => exCode (Et base) (run (Et base)) loopL a148_0 (subC [1, 0, 1, 0, 0] (bodyC Try.f148)) s h (keepK s148_0 e148_0)
theorem B148_0_eq (base : Nat) (v0 : ByteArray) (v3 : Int) (h : AH) : B148_0 base [some (.string v0), some (.int .i64 v3)] h =
((if (decide (v3 < (v0.size : Int))) = true then
((if 0 ≤ v3 ∧ v3 < (v0.size : Int) then
(run (Et base) 163 [(.int .u8 ((v0.data.toList.getD (Int.toNat v3) 0).toNat : Int))] h).bind fun r2 =>
((some r2.1).bind getB).bind fun b3 =>
(if (!b3) = true then
(if (v3 == (0 : Int)) = true then
some (.inl ([some (.string v0), some (.int .i64 v3), some (.bool true)], r2.2))
else
(if 0 ≤ v3 ∧ v3 < (v0.size : Int) then
(run (Et base) 164 [(.int .u8 ((v0.data.toList.getD (Int.toNat v3) 0).toNat : Int))] r2.2).bind fun r4 =>
((some r4.1).bind getB).bind fun b5 =>
some (.inl ([some (.string v0), some (.int .i64 v3), some (.bool (!b5))], r4.2))
else none))
else
some (.inl ([some (.string v0), some (.int .i64 v3), some (.bool false)], r2.2)))
else none)).bind fun j1 => joinK j1 fun j1 =>
((sget j1.1 0).bind getStr).bind fun s6 =>
((sget (j1.1.tail) 0).bind (getI .i64)).bind fun n7 =>
((sget (j1.1.tail.tail) 0).bind getB).bind fun b8 =>
(if b8 = true then
some (1, [some (.bool false)], j1.2)
else
some (0, [some (.string s6), some (.int .i64 (IntKind.wrap .i64 (n7 + (1 : Int))))], j1.2))
else
some (2, [some (.string v0)], h)) : Option (Nat × Slots × AH)) := by kernel_rfl
theorem f148_eq (base : Nat) (v0 : ByteArray) (h : AH) : exFun (Et base) (run (Et base)) loopL a148 Try.f148 [(.string v0)] h =
((loopL (B148_0 base) [some (.string v0), some (.int .i64 (0 : Int))] h).bind fun q1 =>
(if q1.1 = 1 then
((sget q1.2.1 0).bind getB).bind fun b2 =>
some ((.bool b2), q1.2.2)
else
(if q1.1 = 2 then
((sget q1.2.1 0).bind getStr).bind fun s3 =>
(run (Et base) 66 [(.int .i64 (s3.size : Int)), (.int .i64 (1 : Int)), (.int .i64 (12 : Int))] q1.2.2).bind fun r4 =>
((some r4.1).bind getB).bind fun b5 =>
some ((.bool b5), r4.2)
else
none)) : Option (Value × AH)) := by kernel_rfl
theorem r148 {base : Nat} {v0 : ByteArray} {h : AH} {r : Value × AH} (hx :
((loopL (B148_0 base) [some (.string v0), some (.int .i64 (0 : Int))] h).bind fun q1 =>
(if q1.1 = 1 then
((sget q1.2.1 0).bind getB).bind fun b2 =>
some ((.bool b2), q1.2.2)
else
(if q1.1 = 2 then
((sget q1.2.1 0).bind getStr).bind fun s3 =>
(run (Et base) 66 [(.int .i64 (s3.size : Int)), (.int .i64 (1 : Int)), (.int .i64 (12 : Int))] q1.2.2).bind fun r4 =>
((some r4.1).bind getB).bind fun b5 =>
some ((.bool b5), r4.2)
else
none))) = some r) : run (Et base) 148 [(.string v0)] h = some r := run_i Try.func148 (by kernel_rfl) ((f148_eq base v0 h).trans hx)
end Go.Proofs.Ytolcnednfbbnnaa.Am
