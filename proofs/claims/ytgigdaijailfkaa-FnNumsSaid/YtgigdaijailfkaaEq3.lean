/- What each of these functions comes to on the abstract machine, one equation a function and one a loop.
Conditions: none. -/
import Derived.Test.YtgigdaijailfkaaTb
set_option linter.unusedVariables false
namespace Go.Proofs.Ytgigdaijailfkaa.Am
open Go Go.RowKit
/-! spec.l1Copy (gates 0) -/
noncomputable def B94_0 (base : Nat) : Body := fun l h => lay s94_0 l fun s => exCode (Et base) (run (Et base)) loopL a94_0 (subC [1, 1, 1, 0, 1, 0, 0] (bodyC Try.f94)) s h (keepK s94_0 e94_0)
theorem B94_0_eq (base : Nat) (v1 : Addr) (v2 : Addr) (v3 : Addr) (v4 : Int) (h : AH) : B94_0 base [some (.pointer (some v1)), some (.pointer (some v2)), some (.pointer (some v3)), some (.int .i64 v4)] h =
(((cell h v1.block (v1.off + 3)).bind getS).bind fun l1 =>
(if (decide (v4 < ((l1.2 : Nat) : Int))) = true then
((cell h v3.block (v3.off + 3)).bind getS).bind fun l2 =>
((cell h v1.block (v1.off + 3)).bind getS).bind fun l3 =>
(if 0 ≤ v4 ∧ v4 < ((l3.2 : Nat) : Int) then
((l3.1 : Option Addr)).bind fun a4 =>
((cell h a4.block (a4.off + Int.toNat v4 * 4)).bind (getI .i64)).bind fun n5 =>
((cell h a4.block ((a4.off + Int.toNat v4 * 4) + 1)).bind (getI .i64)).bind fun n6 =>
((cell h a4.block (((a4.off + Int.toNat v4 * 4) + 1) + 1)).bind getStr).bind fun s7 =>
((cell h a4.block ((((a4.off + Int.toNat v4 * 4) + 1) + 1) + 1)).bind getS).bind fun l8 =>
(run (Et base) 94 [(.agg #[(.int .i64 n5), (.int .i64 n6), (.string s7), (.slice l8.1 l8.2 l8.2)])] h).bind fun r9 =>
((some r9.1).bind (getAgg 4)).bind fun l10 =>
((l10[0]?).bind (getI .i64)).bind fun n11 =>
((l10[1]?).bind (getI .i64)).bind fun n12 =>
((l10[2]?).bind getStr).bind fun s13 =>
((l10[3]?).bind getS).bind fun l14 =>
(gate (sameA h r9.2 (some ⟨v3.block, (v3.off + 3), none⟩) 1)
((gate (neA (some ⟨v3.block, (v3.off + 3), none⟩) (List.length r9.2))
((some (r9.2 ++ [some ⟨[(.int .i64 n11), (.int .i64 n12), (.string s13), (.slice l14.1 l14.2 l14.2)], 48⟩])).bind fun h15 =>
(app base h15 48 4 56 l2.1 l2.2 (rawAt h15 (some ⟨(List.length r9.2), 0, none⟩) (1 * 4)) 1).bind fun p16 =>
((some p16.1).bind getS).bind fun l17 =>
(wr base p16.2 v3.block (v3.off + 3) [(.slice l17.1 l17.2 l17.2)]).bind fun h18 =>
some (0, [some (.pointer (some v1)), some (.pointer (some v2)), some (.pointer (some v3)), some (.int .i64 (IntKind.wrap .i64 (v4 + (1 : Int))))], h18)))))
else none)
else
some (2, [some (.pointer (some v2)), some (.pointer (some v3))], h)) : Option (Nat × Slots × AH)) := by kernel_rfl
theorem f94_eq (base : Nat) (v0_0 : Int) (v0_1 : Int) (v0_2 : ByteArray) (v0_3 : Option Addr) (v0_3n : Nat) (h : AH) : exFun (Et base) (run (Et base)) loopL a94 Try.f94 [(.agg #[(.int .i64 v0_0), (.int .i64 v0_1), (.string v0_2), (.slice v0_3 v0_3n v0_3n)])] h =
((some (h ++ [some ⟨[(.int .i64 v0_0), (.int .i64 v0_1), (.string v0_2), (.slice v0_3 v0_3n v0_3n)], 48⟩])).bind fun h1 =>
(some (h1 ++ [some ⟨[(.int .i64 0), (.int .i64 0), (.string ⟨#[]⟩), (.slice none 0 0)], 48⟩])).bind fun h2 =>
((cell h2 (List.length h) 0).bind (getI .i64)).bind fun n3 =>
((cell h2 (List.length h) 1).bind (getI .i64)).bind fun n4 =>
((cell h2 (List.length h) 2).bind getStr).bind fun s5 =>
((cell h2 (List.length h) 3).bind getS).bind fun l6 =>
(some (h2 ++ [some ⟨[(.int .i64 0), (.int .i64 0), (.string ⟨#[]⟩), (.slice none 0 0)], 48⟩])).bind fun h7 =>
(wr base h7 (List.length h2) 0 [(.int .i64 n3), (.int .i64 n4), (.string s5), (.slice l6.1 l6.2 l6.2)]).bind fun h8 =>
(some (h8 ++ [some ⟨[], 48⟩])).bind fun h9 =>
(wr base h9 (List.length h2) 3 [(.slice (some ⟨(List.length h8), 0, none⟩) 0 0)]).bind fun h10 =>
(loopL (B94_0 base) [some (.pointer (some ⟨(List.length h), 0, none⟩)), some (.pointer (some ⟨(List.length h1), 0, none⟩)), some (.pointer (some ⟨(List.length h2), 0, none⟩)), some (.int .i64 (0 : Int))] h10).bind fun q11 =>
(if q11.1 = 2 then
((sget q11.2.1 0).bind getA).bind fun d12 =>
((sget (q11.2.1.tail) 0).bind getA).bind fun d13 =>
((cell q11.2.2 d13.block d13.off).bind (getI .i64)).bind fun n14 =>
((cell q11.2.2 d13.block (d13.off + 1)).bind (getI .i64)).bind fun n15 =>
((cell q11.2.2 d13.block ((d13.off + 1) + 1)).bind getStr).bind fun s16 =>
((cell q11.2.2 d13.block (((d13.off + 1) + 1) + 1)).bind getS).bind fun l17 =>
(wr base q11.2.2 d12.block d12.off [(.int .i64 n14), (.int .i64 n15), (.string s16), (.slice l17.1 l17.2 l17.2)]).bind fun h18 =>
((cell h18 d12.block d12.off).bind (getI .i64)).bind fun n19 =>
((cell h18 d12.block (d12.off + 1)).bind (getI .i64)).bind fun n20 =>
((cell h18 d12.block ((d12.off + 1) + 1)).bind getStr).bind fun s21 =>
((cell h18 d12.block (((d12.off + 1) + 1) + 1)).bind getS).bind fun l22 =>
some ((.agg #[(.int .i64 n19), (.int .i64 n20), (.string s21), (.slice l22.1 l22.2 l22.2)]), h18)
else
none) : Option (Value × AH)) := by kernel_rfl
theorem r94 {base : Nat} {v0_0 : Int} {v0_1 : Int} {v0_2 : ByteArray} {v0_3 : Option Addr} {v0_3n : Nat} {h : AH} {r : Value × AH} (hx :
((some (h ++ [some ⟨[(.int .i64 v0_0), (.int .i64 v0_1), (.string v0_2), (.slice v0_3 v0_3n v0_3n)], 48⟩])).bind fun h1 =>
(some (h1 ++ [some ⟨[(.int .i64 0), (.int .i64 0), (.string ⟨#[]⟩), (.slice none 0 0)], 48⟩])).bind fun h2 =>
((cell h2 (List.length h) 0).bind (getI .i64)).bind fun n3 =>
((cell h2 (List.length h) 1).bind (getI .i64)).bind fun n4 =>
((cell h2 (List.length h) 2).bind getStr).bind fun s5 =>
((cell h2 (List.length h) 3).bind getS).bind fun l6 =>
(some (h2 ++ [some ⟨[(.int .i64 0), (.int .i64 0), (.string ⟨#[]⟩), (.slice none 0 0)], 48⟩])).bind fun h7 =>
(wr base h7 (List.length h2) 0 [(.int .i64 n3), (.int .i64 n4), (.string s5), (.slice l6.1 l6.2 l6.2)]).bind fun h8 =>
(some (h8 ++ [some ⟨[], 48⟩])).bind fun h9 =>
(wr base h9 (List.length h2) 3 [(.slice (some ⟨(List.length h8), 0, none⟩) 0 0)]).bind fun h10 =>
(loopL (B94_0 base) [some (.pointer (some ⟨(List.length h), 0, none⟩)), some (.pointer (some ⟨(List.length h1), 0, none⟩)), some (.pointer (some ⟨(List.length h2), 0, none⟩)), some (.int .i64 (0 : Int))] h10).bind fun q11 =>
(if q11.1 = 2 then
((sget q11.2.1 0).bind getA).bind fun d12 =>
((sget (q11.2.1.tail) 0).bind getA).bind fun d13 =>
((cell q11.2.2 d13.block d13.off).bind (getI .i64)).bind fun n14 =>
((cell q11.2.2 d13.block (d13.off + 1)).bind (getI .i64)).bind fun n15 =>
((cell q11.2.2 d13.block ((d13.off + 1) + 1)).bind getStr).bind fun s16 =>
((cell q11.2.2 d13.block (((d13.off + 1) + 1) + 1)).bind getS).bind fun l17 =>
(wr base q11.2.2 d12.block d12.off [(.int .i64 n14), (.int .i64 n15), (.string s16), (.slice l17.1 l17.2 l17.2)]).bind fun h18 =>
((cell h18 d12.block d12.off).bind (getI .i64)).bind fun n19 =>
((cell h18 d12.block (d12.off + 1)).bind (getI .i64)).bind fun n20 =>
((cell h18 d12.block ((d12.off + 1) + 1)).bind getStr).bind fun s21 =>
((cell h18 d12.block (((d12.off + 1) + 1) + 1)).bind getS).bind fun l22 =>
some ((.agg #[(.int .i64 n19), (.int .i64 n20), (.string s21), (.slice l22.1 l22.2 l22.2)]), h18)
else
none)) = some r) : run (Et base) 94 [(.agg #[(.int .i64 v0_0), (.int .i64 v0_1), (.string v0_2), (.slice v0_3 v0_3n v0_3n)])] h = some r := run_i Try.func94 (by kernel_rfl) ((f94_eq base v0_0 v0_1 v0_2 v0_3 v0_3n h).trans hx)
/-! laws.big (gates 0) -/
theorem f32_eq (base : Nat) (v0 : Option Addr) (v0n : Nat) (h : AH) : exFun (Et base) (run (Et base)) loopL a32 Try.f32 [(.slice v0 v0n v0n)] h =
(some ((.bool (decide (((v0n : Nat) : Int) > (1048576 : Int)))), h) : Option (Value × AH)) := by kernel_rfl
theorem r32 {base : Nat} {v0 : Option Addr} {v0n : Nat} {h : AH} {r : Value × AH} (hx :
(some ((.bool (decide (((v0n : Nat) : Int) > (1048576 : Int)))), h)) = some r) : run (Et base) 32 [(.slice v0 v0n v0n)] h = some r := run_i Try.func32 (by kernel_rfl) ((f32_eq base v0 v0n h).trans hx)
/-! spec.DrawNoRooms (gates 0) -/
noncomputable def B33_0 (base : Nat) : Body := fun l h => lay s33_0 l fun s => exCode (Et base) (run (Et base)) loopL a33_0 (subC [1, 1, 1, 0, 1, 0, 0] (bodyC Try.f33)) s h (keepK s33_0 e33_0)
theorem B33_0_eq (base : Nat) (v3 : Option Addr) (v4 : Option Addr) (v4n : Nat) (v5 : Int) (h : AH) : B33_0 base [some (.pointer v3), some (.slice v4 v4n v4n), some (.int .i64 v5)] h =
((if (decide (v5 > (0 : Int))) = true then
(run (Et base) 68 [(.pointer v3), (.int .i64 (1 : Int))] h).bind fun r1 =>
((some r1.1).bind (getAgg 4)).bind fun l2 =>
((l2[0]?).bind (getI .i64)).bind fun n3 =>
((l2[1]?).bind (getI .i64)).bind fun n4 =>
((l2[2]?).bind getStr).bind fun s5 =>
((l2[3]?).bind getS).bind fun l6 =>
(some (r1.2 ++ [some ⟨[(.int .i64 0), (.int .i64 0), (.string ⟨#[]⟩), (.slice none 0 0)], 48⟩])).bind fun h7 =>
(wr base h7 (List.length r1.2) 0 [(.int .i64 n3), (.int .i64 n4), (.string s5), (.slice l6.1 l6.2 l6.2)]).bind fun h8 =>
((run (Et base) 69 [(.pointer v3), (.int .i64 (2 : Int))] h8).bind fun r10 =>
((some r10.1).bind getB).bind fun b11 =>
(if b11 = true then
(run (Et base) 70 [(.string (⟨#[110, 111, 114, 111, 111, 109]⟩ : ByteArray))] r10.2).bind fun r12 =>
((some r12.1).bind (getAgg 4)).bind fun l13 =>
((l13[0]?).bind (getI .i64)).bind fun n14 =>
((l13[1]?).bind (getI .i64)).bind fun n15 =>
((l13[2]?).bind getStr).bind fun s16 =>
((l13[3]?).bind getS).bind fun l17 =>
(wr base r12.2 (List.length r1.2) 0 [(.int .i64 n14), (.int .i64 n15), (.string s16), (.slice l17.1 l17.2 l17.2)]).bind fun h18 =>
some (.inl ([some (.pointer v3), some (.slice v4 v4n v4n), some (.int .i64 v5), some (.pointer (some ⟨(List.length r1.2), 0, none⟩))], h18))
else
some (.inl ([some (.pointer v3), some (.slice v4 v4n v4n), some (.int .i64 v5), some (.pointer (some ⟨(List.length r1.2), 0, none⟩))], r10.2)))).bind fun j9 => joinK j9 fun j9 =>
((sget j9.1 0).bind getP).bind fun p19 =>
((sget (j9.1.tail) 0).bind getS).bind fun l20 =>
((sget (j9.1.tail.tail) 0).bind (getI .i64)).bind fun n21 =>
((sget (j9.1.tail.tail.tail) 0).bind getA).bind fun d22 =>
(run (Et base) 67 [(.pointer p19), (.int .i64 (3 : Int))] j9.2).bind fun r23 =>
((some r23.1).bind (getI .i64)).bind fun n24 =>
(gate (sameA j9.2 r23.2 (some d22) 4)
(((cell r23.2 d22.block d22.off).bind (getI .i64)).bind fun n25 =>
((cell r23.2 d22.block (d22.off + 1)).bind (getI .i64)).bind fun n26 =>
((cell r23.2 d22.block ((d22.off + 1) + 1)).bind getStr).bind fun s27 =>
((cell r23.2 d22.block (((d22.off + 1) + 1) + 1)).bind getS).bind fun l28 =>
(some (r23.2 ++ [some ⟨[(.int .i64 (IntKind.wrap .i64 ((1 : Int) + n24))), (.int .i64 (1 : Int)), (.int .i64 n25), (.int .i64 n26), (.string s27), (.slice l28.1 l28.2 l28.2)], 50⟩])).bind fun h29 =>
(app base h29 50 6 72 l20.1 l20.2 (rawAt h29 (some ⟨(List.length r23.2), 0, none⟩) (1 * 6)) 1).bind fun p30 =>
((some p30.1).bind getS).bind fun l31 =>
some (0, [some (.pointer p19), some (.slice l31.1 l31.2 l31.2), some (.int .i64 (IntKind.wrap .i64 (n21 - (1 : Int))))], p30.2)))
else
some (2, [some (.slice v4 v4n v4n)], h)) : Option (Nat × Slots × AH)) := by kernel_rfl
theorem f33_eq (base : Nat) (v0 : Option Addr) (v0n : Nat) (h : AH) : exFun (Et base) (run (Et base)) loopL a33 Try.f33 [(.slice v0 v0n v0n)] h =
((run (Et base) 66 [(.slice v0 v0n v0n)] h).bind fun r1 =>
((some r1.1).bind getP).bind fun p2 =>
(some (r1.2 ++ [some ⟨[], 50⟩])).bind fun h3 =>
(run (Et base) 67 [(.pointer p2), (.int .i64 (5 : Int))] h3).bind fun r4 =>
((some r4.1).bind (getI .i64)).bind fun n5 =>
(loopL (B33_0 base) [some (.pointer p2), some (.slice (some ⟨(List.length r1.2), 0, none⟩) 0 0), some (.int .i64 n5)] r4.2).bind fun q6 =>
(if q6.1 = 2 then
((sget q6.2.1 0).bind getS).bind fun l7 =>
some ((.slice l7.1 l7.2 l7.2), q6.2.2)
else
none) : Option (Value × AH)) := by kernel_rfl
theorem r33 {base : Nat} {v0 : Option Addr} {v0n : Nat} {h : AH} {r : Value × AH} (hx :
((run (Et base) 66 [(.slice v0 v0n v0n)] h).bind fun r1 =>
((some r1.1).bind getP).bind fun p2 =>
(some (r1.2 ++ [some ⟨[], 50⟩])).bind fun h3 =>
(run (Et base) 67 [(.pointer p2), (.int .i64 (5 : Int))] h3).bind fun r4 =>
((some r4.1).bind (getI .i64)).bind fun n5 =>
(loopL (B33_0 base) [some (.pointer p2), some (.slice (some ⟨(List.length r1.2), 0, none⟩) 0 0), some (.int .i64 n5)] r4.2).bind fun q6 =>
(if q6.1 = 2 then
((sget q6.2.1 0).bind getS).bind fun l7 =>
some ((.slice l7.1 l7.2 l7.2), q6.2.2)
else
none)) = some r) : run (Et base) 33 [(.slice v0 v0n v0n)] h = some r := run_i Try.func33 (by kernel_rfl) ((f33_eq base v0 v0n h).trans hx)
/-! spec.DrawPutNum (gates 0) -/
theorem f36_eq (base : Nat) (v0 : Option Addr) (v0n : Nat) (h : AH) : exFun (Et base) (run (Et base)) loopL a36 Try.f36 [(.slice v0 v0n v0n)] h =
((run (Et base) 66 [(.slice v0 v0n v0n)] h).bind fun r1 =>
((some r1.1).bind getP).bind fun p2 =>
(run (Et base) 67 [(.pointer p2), (.int .i64 (3 : Int))] r1.2).bind fun r3 =>
((some r3.1).bind (getI .i64)).bind fun n4 =>
(run (Et base) 73 [(.pointer p2), (.int .i64 n4)] r3.2).bind fun r5 =>
((some r5.1).bind getS).bind fun l6 =>
(run (Et base) 67 [(.pointer p2), (.int .i64 (10000 : Int))] r5.2).bind fun r7 =>
((some r7.1).bind (getI .i64)).bind fun n8 =>
(some (r7.2 ++ [some ⟨[(.int .i64 (0 : Int)), (.int .i64 (1 : Int)), (.int .i64 (-1 : Int)), (.int .i64 (63 : Int)), (.int .i64 (64 : Int)), (.int .i64 (-65 : Int)), (.int .i64 (1000000 : Int)), (.int .i64 (-1000000 : Int)), (.int .i64 (1000001 : Int)), (.int .i64 (-9223372036854775808 : Int)), (.int .i64 (9223372036854775807 : Int)), (.int .i64 n8)], 3⟩])).bind fun h9 =>
(run (Et base) 74 [(.pointer p2), (.slice (some ⟨(List.length r7.2), 0, none⟩) 12 12)] h9).bind fun r10 =>
((some r10.1).bind (getI .i64)).bind fun n11 =>
some ((.tuple #[(.slice l6.1 l6.2 l6.2), (.int .i64 n11)]), r10.2) : Option (Value × AH)) := by kernel_rfl
theorem r36 {base : Nat} {v0 : Option Addr} {v0n : Nat} {h : AH} {r : Value × AH} (hx :
((run (Et base) 66 [(.slice v0 v0n v0n)] h).bind fun r1 =>
((some r1.1).bind getP).bind fun p2 =>
(run (Et base) 67 [(.pointer p2), (.int .i64 (3 : Int))] r1.2).bind fun r3 =>
((some r3.1).bind (getI .i64)).bind fun n4 =>
(run (Et base) 73 [(.pointer p2), (.int .i64 n4)] r3.2).bind fun r5 =>
((some r5.1).bind getS).bind fun l6 =>
(run (Et base) 67 [(.pointer p2), (.int .i64 (10000 : Int))] r5.2).bind fun r7 =>
((some r7.1).bind (getI .i64)).bind fun n8 =>
(some (r7.2 ++ [some ⟨[(.int .i64 (0 : Int)), (.int .i64 (1 : Int)), (.int .i64 (-1 : Int)), (.int .i64 (63 : Int)), (.int .i64 (64 : Int)), (.int .i64 (-65 : Int)), (.int .i64 (1000000 : Int)), (.int .i64 (-1000000 : Int)), (.int .i64 (1000001 : Int)), (.int .i64 (-9223372036854775808 : Int)), (.int .i64 (9223372036854775807 : Int)), (.int .i64 n8)], 3⟩])).bind fun h9 =>
(run (Et base) 74 [(.pointer p2), (.slice (some ⟨(List.length r7.2), 0, none⟩) 12 12)] h9).bind fun r10 =>
((some r10.1).bind (getI .i64)).bind fun n11 =>
some ((.tuple #[(.slice l6.1 l6.2 l6.2), (.int .i64 n11)]), r10.2)) = some r) : run (Et base) 36 [(.slice v0 v0n v0n)] h = some r := run_i Try.func36 (by kernel_rfl) ((f36_eq base v0 v0n h).trans hx)
/-! spec.DrawGetNum (gates 0) -/
theorem f37_eq (base : Nat) (v0 : Option Addr) (v0n : Nat) (h : AH) : exFun (Et base) (run (Et base)) loopL a37 Try.f37 [(.slice v0 v0n v0n)] h =
((run (Et base) 36 [(.slice v0 v0n v0n)] h).bind fun r1 =>
(getTup 2 r1.1).bind fun l2 =>
((l2[0]?).bind getS).bind fun l3 =>
((l2[1]?).bind (getI .i64)).bind fun n4 =>
(run (Et base) 66 [(.slice v0 v0n v0n)] r1.2).bind fun r5 =>
((some r5.1).bind getP).bind fun p6 =>
(some (r5.2 ++ [some ⟨[], 5⟩])).bind fun h7 =>
(run (Et base) 19 [(.slice (some ⟨(List.length r5.2), 0, none⟩) 0 0), (.int .i64 n4)] h7).bind fun r8 =>
((some r8.1).bind getS).bind fun l9 =>
((run (Et base) 67 [(.pointer p6), (.int .i64 (4 : Int))] r8.2).bind fun r11 =>
((some r11.1).bind (getI .i64)).bind fun n12 =>
(if (n12 == (0 : Int)) = true then
(run (Et base) 67 [(.pointer p6), (.int .i64 ((l9.2 : Nat) : Int))] r11.2).bind fun r13 =>
((some r13.1).bind (getI .i64)).bind fun n14 =>
(some (r13.2 ++ [some ⟨[(.int .i64 (0 : Int)), (.int .i64 (127 : Int)), (.int .i64 (128 : Int)), (.int .i64 (255 : Int))], 3⟩])).bind fun h15 =>
(run (Et base) 74 [(.pointer p6), (.slice (some ⟨(List.length r13.2), 0, none⟩) 4 4)] h15).bind fun r16 =>
((some r16.1).bind (getI .i64)).bind fun n17 =>
(if 0 ≤ n14 ∧ n14 < ((l9.2 : Nat) : Int) then
((l9.1 : Option Addr)).bind fun a18 =>
(wr base r16.2 a18.block (a18.off + Int.toNat n14 * 1) [(.int .u8 (IntKind.wrap .u8 n17))]).bind fun h19 =>
some (.inl ([some (.pointer p6), some (.slice l9.1 l9.2 l9.2)], h19))
else none)
else
(if (n12 == (1 : Int)) = true then
(some (r11.2 ++ [some ⟨[(.int .u8 (3 : Int))], 5⟩])).bind fun h20 =>
(app base h20 5 1 1 l9.1 l9.2 (rawAt h20 (some ⟨(List.length r11.2), 0, none⟩) (1 * 1)) 1).bind fun p21 =>
((some p21.1).bind getS).bind fun l22 =>
some (.inl ([some (.pointer p6), some (.slice l22.1 l22.2 l22.2)], p21.2))
else
some (.inl ([some (.pointer p6), some (.slice l9.1 l9.2 l9.2)], r11.2))))).bind fun j10 => joinK j10 fun j10 =>
((sget j10.1 0).bind getP).bind fun p23 =>
((sget (j10.1.tail) 0).bind getS).bind fun l24 =>
(some (j10.2 ++ [some ⟨[(.int .i64 (0 : Int)), (.int .i64 (0 : Int)), (.int .i64 (0 : Int)), (.int .i64 ((l24.2 : Nat) : Int)), (.int .i64 (-1 : Int)), (.int .i64 (9223372036854775807 : Int))], 3⟩])).bind fun h25 =>
(run (Et base) 74 [(.pointer p23), (.slice (some ⟨(List.length j10.2), 0, none⟩) 6 6)] h25).bind fun r26 =>
((some r26.1).bind (getI .i64)).bind fun n27 =>
some ((.tuple #[(.slice l24.1 l24.2 l24.2), (.int .i64 n27)]), r26.2) : Option (Value × AH)) := by kernel_rfl
theorem r37 {base : Nat} {v0 : Option Addr} {v0n : Nat} {h : AH} {r : Value × AH} (hx :
((run (Et base) 36 [(.slice v0 v0n v0n)] h).bind fun r1 =>
(getTup 2 r1.1).bind fun l2 =>
((l2[0]?).bind getS).bind fun l3 =>
((l2[1]?).bind (getI .i64)).bind fun n4 =>
(run (Et base) 66 [(.slice v0 v0n v0n)] r1.2).bind fun r5 =>
((some r5.1).bind getP).bind fun p6 =>
(some (r5.2 ++ [some ⟨[], 5⟩])).bind fun h7 =>
(run (Et base) 19 [(.slice (some ⟨(List.length r5.2), 0, none⟩) 0 0), (.int .i64 n4)] h7).bind fun r8 =>
((some r8.1).bind getS).bind fun l9 =>
((run (Et base) 67 [(.pointer p6), (.int .i64 (4 : Int))] r8.2).bind fun r11 =>
((some r11.1).bind (getI .i64)).bind fun n12 =>
(if (n12 == (0 : Int)) = true then
(run (Et base) 67 [(.pointer p6), (.int .i64 ((l9.2 : Nat) : Int))] r11.2).bind fun r13 =>
((some r13.1).bind (getI .i64)).bind fun n14 =>
(some (r13.2 ++ [some ⟨[(.int .i64 (0 : Int)), (.int .i64 (127 : Int)), (.int .i64 (128 : Int)), (.int .i64 (255 : Int))], 3⟩])).bind fun h15 =>
(run (Et base) 74 [(.pointer p6), (.slice (some ⟨(List.length r13.2), 0, none⟩) 4 4)] h15).bind fun r16 =>
((some r16.1).bind (getI .i64)).bind fun n17 =>
(if 0 ≤ n14 ∧ n14 < ((l9.2 : Nat) : Int) then
((l9.1 : Option Addr)).bind fun a18 =>
(wr base r16.2 a18.block (a18.off + Int.toNat n14 * 1) [(.int .u8 (IntKind.wrap .u8 n17))]).bind fun h19 =>
some (.inl ([some (.pointer p6), some (.slice l9.1 l9.2 l9.2)], h19))
else none)
else
(if (n12 == (1 : Int)) = true then
(some (r11.2 ++ [some ⟨[(.int .u8 (3 : Int))], 5⟩])).bind fun h20 =>
(app base h20 5 1 1 l9.1 l9.2 (rawAt h20 (some ⟨(List.length r11.2), 0, none⟩) (1 * 1)) 1).bind fun p21 =>
((some p21.1).bind getS).bind fun l22 =>
some (.inl ([some (.pointer p6), some (.slice l22.1 l22.2 l22.2)], p21.2))
else
some (.inl ([some (.pointer p6), some (.slice l9.1 l9.2 l9.2)], r11.2))))).bind fun j10 => joinK j10 fun j10 =>
((sget j10.1 0).bind getP).bind fun p23 =>
((sget (j10.1.tail) 0).bind getS).bind fun l24 =>
(some (j10.2 ++ [some ⟨[(.int .i64 (0 : Int)), (.int .i64 (0 : Int)), (.int .i64 (0 : Int)), (.int .i64 ((l24.2 : Nat) : Int)), (.int .i64 (-1 : Int)), (.int .i64 (9223372036854775807 : Int))], 3⟩])).bind fun h25 =>
(run (Et base) 74 [(.pointer p23), (.slice (some ⟨(List.length j10.2), 0, none⟩) 6 6)] h25).bind fun r26 =>
((some r26.1).bind (getI .i64)).bind fun n27 =>
some ((.tuple #[(.slice l24.1 l24.2 l24.2), (.int .i64 n27)]), r26.2)) = some r) : run (Et base) 37 [(.slice v0 v0n v0n)] h = some r := run_i Try.func37 (by kernel_rfl) ((f37_eq base v0 v0n h).trans hx)
/-! laws.sameBytes (gates 0) -/
noncomputable def B38_0 (base : Nat) : Body := fun l h => lay s38_0 l fun s => exCode (Et base) (run (Et base)) loopL a38_0 (subC [1, 1, 0, 1, 0, 0] (bodyC Try.f38)) s h (keepK s38_0 e38_0)
theorem B38_0_eq (base : Nat) (v0 : Option Addr) (v0n : Nat) (v1 : Option Addr) (v1n : Nat) (v5 : Int) (h : AH) : B38_0 base [some (.slice v0 v0n v0n), some (.slice v1 v1n v1n), some (.int .i64 v5)] h =
((if (decide (v5 < ((v0n : Nat) : Int))) = true then
(if 0 ≤ v5 ∧ v5 < ((v0n : Nat) : Int) then
((v0 : Option Addr)).bind fun a1 =>
((cell h a1.block (a1.off + Int.toNat v5 * 1)).bind (getI .u8)).bind fun n2 =>
(if 0 ≤ v5 ∧ v5 < ((v1n : Nat) : Int) then
((v1 : Option Addr)).bind fun a3 =>
((cell h a3.block (a3.off + Int.toNat v5 * 1)).bind (getI .u8)).bind fun n4 =>
(if (n2 != n4) = true then
some (1, [some (.bool false)], h)
else
some (0, [some (.slice v0 v0n v0n), some (.slice v1 v1n v1n), some (.int .i64 (IntKind.wrap .i64 (v5 + (1 : Int))))], h))
else none)
else none)
else
some (2, [], h)) : Option (Nat × Slots × AH)) := by kernel_rfl
theorem f38_eq (base : Nat) (v0 : Option Addr) (v0n : Nat) (v1 : Option Addr) (v1n : Nat) (h : AH) : exFun (Et base) (run (Et base)) loopL a38 Try.f38 [(.slice v0 v0n v0n), (.slice v1 v1n v1n)] h =
((if (((v0n : Nat) : Int) != ((v1n : Nat) : Int)) = true then
some ((.bool false), h)
else
(loopL (B38_0 base) [some (.slice v0 v0n v0n), some (.slice v1 v1n v1n), some (.int .i64 (0 : Int))] h).bind fun q1 =>
(if q1.1 = 1 then
((sget q1.2.1 0).bind getB).bind fun b2 =>
some ((.bool b2), q1.2.2)
else
(if q1.1 = 2 then
some ((.bool true), q1.2.2)
else
none))) : Option (Value × AH)) := by kernel_rfl
theorem r38 {base : Nat} {v0 : Option Addr} {v0n : Nat} {v1 : Option Addr} {v1n : Nat} {h : AH} {r : Value × AH} (hx :
((if (((v0n : Nat) : Int) != ((v1n : Nat) : Int)) = true then
some ((.bool false), h)
else
(loopL (B38_0 base) [some (.slice v0 v0n v0n), some (.slice v1 v1n v1n), some (.int .i64 (0 : Int))] h).bind fun q1 =>
(if q1.1 = 1 then
((sget q1.2.1 0).bind getB).bind fun b2 =>
some ((.bool b2), q1.2.2)
else
(if q1.1 = 2 then
some ((.bool true), q1.2.2)
else
none)))) = some r) : run (Et base) 38 [(.slice v0 v0n v0n), (.slice v1 v1n v1n)] h = some r := run_i Try.func38 (by kernel_rfl) ((f38_eq base v0 v0n v1 v1n h).trans hx)
/-! spec.l1New (gates 0) -/
noncomputable def B66_0 (base : Nat) : Body := fun l h => lay s66_0 l fun s => exCode (Et base) (run (Et base)) loopL a66_0 (subC [1, 1, 0, 1, 0, 0] (bodyC Try.f66)) s h (keepK s66_0 e66_0)
theorem B66_0_eq (base : Nat) (v0 : Option Addr) (v0n : Nat) (v3 : Int) (v4 : Int) (h : AH) : B66_0 base [some (.slice v0 v0n v0n), some (.int .i64 v3), some (.int .i64 v4)] h =
(((if (decide (v4 < ((v0n : Nat) : Int))) = true then
some (.inl ([some (.slice v0 v0n v0n), some (.int .i64 v3), some (.int .i64 v4), some (.bool (decide (v4 < (4000 : Int))))], h))
else
some (.inl ([some (.slice v0 v0n v0n), some (.int .i64 v3), some (.int .i64 v4), some (.bool false)], h)))).bind fun j1 => joinK j1 fun j1 =>
((sget j1.1 0).bind getS).bind fun l2 =>
((sget (j1.1.tail) 0).bind (getI .i64)).bind fun n3 =>
((sget (j1.1.tail.tail) 0).bind (getI .i64)).bind fun n4 =>
((sget (j1.1.tail.tail.tail) 0).bind getB).bind fun b5 =>
(if b5 = true then
(if 0 ≤ n4 ∧ n4 < ((l2.2 : Nat) : Int) then
((l2.1 : Option Addr)).bind fun a6 =>
((cell j1.2 a6.block (a6.off + Int.toNat n4 * 1)).bind (getI .u8)).bind fun n7 =>
some (0, [some (.slice l2.1 l2.2 l2.2), some (.int .i64 (Go.bits .and .i64 (IntKind.wrap .i64 ((IntKind.wrap .i64 ((IntKind.wrap .i64 (n3 * (137 : Int))) + (IntKind.wrap .i64 n7))) + (11 : Int))) (1073741823 : Int))), some (.int .i64 (IntKind.wrap .i64 (n4 + (1 : Int))))], j1.2)
else none)
else
some (2, [some (.slice l2.1 l2.2 l2.2), some (.int .i64 n3)], j1.2)) : Option (Nat × Slots × AH)) := by kernel_rfl
theorem f66_eq (base : Nat) (v0 : Option Addr) (v0n : Nat) (h : AH) : exFun (Et base) (run (Et base)) loopL a66 Try.f66 [(.slice v0 v0n v0n)] h =
((loopL (B66_0 base) [some (.slice v0 v0n v0n), some (.int .i64 (IntKind.wrap .i64 ((384384 : Int) + ((v0n : Nat) : Int)))), some (.int .i64 (0 : Int))] h).bind fun q1 =>
(if q1.1 = 2 then
((sget q1.2.1 0).bind getS).bind fun l2 =>
((sget (q1.2.1.tail) 0).bind (getI .i64)).bind fun n3 =>
(some (q1.2.2 ++ [some ⟨[(.slice l2.1 l2.2 l2.2), (.int .i64 (0 : Int)), (.int .i64 n3)], 114⟩])).bind fun h4 =>
some ((.pointer (some ⟨(List.length q1.2.2), 0, none⟩)), h4)
else
none) : Option (Value × AH)) := by kernel_rfl
theorem r66 {base : Nat} {v0 : Option Addr} {v0n : Nat} {h : AH} {r : Value × AH} (hx :
((loopL (B66_0 base) [some (.slice v0 v0n v0n), some (.int .i64 (IntKind.wrap .i64 ((384384 : Int) + ((v0n : Nat) : Int)))), some (.int .i64 (0 : Int))] h).bind fun q1 =>
(if q1.1 = 2 then
((sget q1.2.1 0).bind getS).bind fun l2 =>
((sget (q1.2.1.tail) 0).bind (getI .i64)).bind fun n3 =>
(some (q1.2.2 ++ [some ⟨[(.slice l2.1 l2.2 l2.2), (.int .i64 (0 : Int)), (.int .i64 n3)], 114⟩])).bind fun h4 =>
some ((.pointer (some ⟨(List.length q1.2.2), 0, none⟩)), h4)
else
none)) = some r) : run (Et base) 66 [(.slice v0 v0n v0n)] h = some r := run_i Try.func66 (by kernel_rfl) ((f66_eq base v0 v0n h).trans hx)
/-! spec.l1Below (gates 0) -/
theorem f67_eq (base : Nat) (v0 : Option Addr) (v1 : Int) (h : AH) : exFun (Et base) (run (Et base)) loopL a67 Try.f67 [(.pointer v0), (.int .i64 v1)] h =
((if (decide (v1 ≤ (0 : Int))) = true then
some ((.int .i64 (0 : Int)), h)
else
(if (decide (v1 ≤ (256 : Int))) = true then
(run (Et base) 95 [(.pointer v0)] h).bind fun r1 =>
((some r1.1).bind (getI .i64)).bind fun n2 =>
(if v1 = 0 then none else
some ((.int .i64 (Int.tmod n2 v1)), r1.2))
else
(run (Et base) 95 [(.pointer v0)] h).bind fun r3 =>
((some r3.1).bind (getI .i64)).bind fun n4 =>
(run (Et base) 95 [(.pointer v0)] r3.2).bind fun r5 =>
((some r5.1).bind (getI .i64)).bind fun n6 =>
(run (Et base) 95 [(.pointer v0)] r5.2).bind fun r7 =>
((some r7.1).bind (getI .i64)).bind fun n8 =>
(if v1 = 0 then none else
some ((.int .i64 (Int.tmod (IntKind.wrap .i64 ((IntKind.wrap .i64 ((IntKind.wrap .i64 (n4 * (65536 : Int))) + (IntKind.wrap .i64 (n6 * (256 : Int))))) + n8)) v1)), r7.2)))) : Option (Value × AH)) := by kernel_rfl
theorem r67 {base : Nat} {v0 : Option Addr} {v1 : Int} {h : AH} {r : Value × AH} (hx :
((if (decide (v1 ≤ (0 : Int))) = true then
some ((.int .i64 (0 : Int)), h)
else
(if (decide (v1 ≤ (256 : Int))) = true then
(run (Et base) 95 [(.pointer v0)] h).bind fun r1 =>
((some r1.1).bind (getI .i64)).bind fun n2 =>
(if v1 = 0 then none else
some ((.int .i64 (Int.tmod n2 v1)), r1.2))
else
(run (Et base) 95 [(.pointer v0)] h).bind fun r3 =>
((some r3.1).bind (getI .i64)).bind fun n4 =>
(run (Et base) 95 [(.pointer v0)] r3.2).bind fun r5 =>
((some r5.1).bind (getI .i64)).bind fun n6 =>
(run (Et base) 95 [(.pointer v0)] r5.2).bind fun r7 =>
((some r7.1).bind (getI .i64)).bind fun n8 =>
(if v1 = 0 then none else
some ((.int .i64 (Int.tmod (IntKind.wrap .i64 ((IntKind.wrap .i64 ((IntKind.wrap .i64 (n4 * (65536 : Int))) + (IntKind.wrap .i64 (n6 * (256 : Int))))) + n8)) v1)), r7.2))))) = some r) : run (Et base) 67 [(.pointer v0), (.int .i64 v1)] h = some r := run_i Try.func67 (by kernel_rfl) ((f67_eq base v0 v1 h).trans hx)
/-! spec.l1Draw (gates 0) -/
noncomputable def B68_0 (base : Nat) : Body := fun l h => lay s68_0 l fun s => exCode (Et base) (run (Et base)) loopL a68_0 (subC [1, 1, 1, 0, 1, 0, 0] (bodyC Try.f68)) s h (keepK s68_0 e68_0)
theorem B68_0_eq (base : Nat) (v0 : Option Addr) (v1 : Int) (v4 : Addr) (v5 : Addr) (v6 : Int) (h : AH) : B68_0 base [some (.pointer v0), some (.int .i64 v1), some (.pointer (some v4)), some (.pointer (some v5)), some (.int .i64 v6)] h =
(((if (decide (v6 > (0 : Int))) = true then
some (.inl ([some (.pointer v0), some (.int .i64 v1), some (.pointer (some v4)), some (.pointer (some v5)), some (.int .i64 v6), some (.bool (decide (v1 > (0 : Int))))], h))
else
some (.inl ([some (.pointer v0), some (.int .i64 v1), some (.pointer (some v4)), some (.pointer (some v5)), some (.int .i64 v6), some (.bool false)], h)))).bind fun j1 => joinK j1 fun j1 =>
((sget j1.1 0).bind getP).bind fun p2 =>
((sget (j1.1.tail) 0).bind (getI .i64)).bind fun n3 =>
((sget (j1.1.tail.tail) 0).bind getA).bind fun d4 =>
((sget (j1.1.tail.tail.tail) 0).bind getA).bind fun d5 =>
((sget (j1.1.tail.tail.tail.tail) 0).bind (getI .i64)).bind fun n6 =>
((sget (j1.1.tail.tail.tail.tail.tail) 0).bind getB).bind fun b7 =>
(if b7 = true then
((cell j1.2 d5.block (d5.off + 3)).bind getS).bind fun l8 =>
(run (Et base) 68 [(.pointer p2), (.int .i64 (IntKind.wrap .i64 (n3 - (1 : Int))))] j1.2).bind fun r9 =>
((some r9.1).bind (getAgg 4)).bind fun l10 =>
((l10[0]?).bind (getI .i64)).bind fun n11 =>
((l10[1]?).bind (getI .i64)).bind fun n12 =>
((l10[2]?).bind getStr).bind fun s13 =>
((l10[3]?).bind getS).bind fun l14 =>
(gate (sameA j1.2 r9.2 (some ⟨d5.block, (d5.off + 3), none⟩) 1)
((gate (neA (some ⟨d5.block, (d5.off + 3), none⟩) (List.length r9.2))
((some (r9.2 ++ [some ⟨[(.int .i64 n11), (.int .i64 n12), (.string s13), (.slice l14.1 l14.2 l14.2)], 48⟩])).bind fun h15 =>
(app base h15 48 4 56 l8.1 l8.2 (rawAt h15 (some ⟨(List.length r9.2), 0, none⟩) (1 * 4)) 1).bind fun p16 =>
((some p16.1).bind getS).bind fun l17 =>
(wr base p16.2 d5.block (d5.off + 3) [(.slice l17.1 l17.2 l17.2)]).bind fun h18 =>
some (0, [some (.pointer p2), some (.int .i64 n3), some (.pointer (some d4)), some (.pointer (some d5)), some (.int .i64 (IntKind.wrap .i64 (n6 - (1 : Int))))], h18)))))
else
some (3, [some (.pointer (some d4)), some (.pointer (some d5))], j1.2)) : Option (Nat × Slots × AH)) := by kernel_rfl
theorem f68_eq (base : Nat) (v0 : Option Addr) (v1 : Int) (h : AH) : exFun (Et base) (run (Et base)) loopL a68 Try.f68 [(.pointer v0), (.int .i64 v1)] h =
((some (h ++ [some ⟨[(.int .i64 0), (.int .i64 0), (.string ⟨#[]⟩), (.slice none 0 0)], 48⟩])).bind fun h1 =>
(run (Et base) 67 [(.pointer v0), (.int .i64 (9 : Int))] h1).bind fun r2 =>
((some r2.1).bind (getI .i64)).bind fun n3 =>
((if (n3 == (0 : Int)) = true then
some (.inl ([some (.pointer v0), some (.int .i64 v1), some (.pointer (some ⟨(List.length h), 0, none⟩)), some (.int .i64 n3), some (.bool (n3 == (0 : Int)))], r2.2))
else
(if (n3 == (1 : Int)) = true then
some (.inl ([some (.pointer v0), some (.int .i64 v1), some (.pointer (some ⟨(List.length h), 0, none⟩)), some (.int .i64 n3), some (.bool (n3 == (1 : Int)))], r2.2))
else
some (.inl ([some (.pointer v0), some (.int .i64 v1), some (.pointer (some ⟨(List.length h), 0, none⟩)), some (.int .i64 n3), some (.bool (n3 == (2 : Int)))], r2.2))))).bind fun j4 => joinK j4 fun j4 =>
((sget j4.1 0).bind getP).bind fun p5 =>
((sget (j4.1.tail) 0).bind (getI .i64)).bind fun n6 =>
((sget (j4.1.tail.tail) 0).bind getA).bind fun d7 =>
((sget (j4.1.tail.tail.tail) 0).bind (getI .i64)).bind fun n8 =>
((sget (j4.1.tail.tail.tail.tail) 0).bind getB).bind fun b9 =>
(if b9 = true then
(run (Et base) 67 [(.pointer p5), (.int .i64 (100 : Int))] j4.2).bind fun r10 =>
((some r10.1).bind (getI .i64)).bind fun n11 =>
(some (r10.2 ++ [some ⟨[(.int .i64 (0 : Int)), (.int .i64 (1 : Int)), (.int .i64 (-1 : Int)), (.int .i64 (7 : Int)), (.int .i64 (1000000 : Int)), (.int .i64 (-1000000 : Int)), (.int .i64 n11)], 3⟩])).bind fun h12 =>
(run (Et base) 74 [(.pointer p5), (.slice (some ⟨(List.length r10.2), 0, none⟩) 7 7)] h12).bind fun r13 =>
((some r13.1).bind (getI .i64)).bind fun n14 =>
(wr base r13.2 d7.block d7.off [(.int .i64 (1 : Int)), (.int .i64 n14), (.string (⟨#[]⟩ : ByteArray)), (.slice none 0 0)]).bind fun h15 =>
((cell h15 d7.block d7.off).bind (getI .i64)).bind fun n16 =>
((cell h15 d7.block (d7.off + 1)).bind (getI .i64)).bind fun n17 =>
((cell h15 d7.block ((d7.off + 1) + 1)).bind getStr).bind fun s18 =>
((cell h15 d7.block (((d7.off + 1) + 1) + 1)).bind getS).bind fun l19 =>
some ((.agg #[(.int .i64 n16), (.int .i64 n17), (.string s18), (.slice l19.1 l19.2 l19.2)]), h15)
else
((if (n8 == (3 : Int)) = true then
some (.inl ([some (.pointer p5), some (.int .i64 n6), some (.pointer (some d7)), some (.int .i64 n8), some (.bool (n8 == (3 : Int)))], j4.2))
else
some (.inl ([some (.pointer p5), some (.int .i64 n6), some (.pointer (some d7)), some (.int .i64 n8), some (.bool (n8 == (4 : Int)))], j4.2)))).bind fun j20 => joinK j20 fun j20 =>
((sget j20.1 0).bind getP).bind fun p21 =>
((sget (j20.1.tail) 0).bind (getI .i64)).bind fun n22 =>
((sget (j20.1.tail.tail) 0).bind getA).bind fun d23 =>
((sget (j20.1.tail.tail.tail) 0).bind (getI .i64)).bind fun n24 =>
((sget (j20.1.tail.tail.tail.tail) 0).bind getB).bind fun b25 =>
(if b25 = true then
(some (j20.2 ++ [some ⟨[(.string (⟨#[111, 107]⟩ : ByteArray)), (.string (⟨#[97]⟩ : ByteArray)), (.string (⟨#[115, 116, 111, 112]⟩ : ByteArray)), (.string (⟨#[104, 105, 50]⟩ : ByteArray))], 9⟩])).bind fun h26 =>
(run (Et base) 96 [(.pointer p21), (.slice (some ⟨(List.length j20.2), 0, none⟩) 4 4)] h26).bind fun r27 =>
((some r27.1).bind getStr).bind fun s28 =>
(wr base r27.2 d23.block d23.off [(.int .i64 (2 : Int)), (.int .i64 (0 : Int)), (.string s28), (.slice none 0 0)]).bind fun h29 =>
((cell h29 d23.block d23.off).bind (getI .i64)).bind fun n30 =>
((cell h29 d23.block (d23.off + 1)).bind (getI .i64)).bind fun n31 =>
((cell h29 d23.block ((d23.off + 1) + 1)).bind getStr).bind fun s32 =>
((cell h29 d23.block (((d23.off + 1) + 1) + 1)).bind getS).bind fun l33 =>
some ((.agg #[(.int .i64 n30), (.int .i64 n31), (.string s32), (.slice l33.1 l33.2 l33.2)]), h29)
else
(if (n24 == (5 : Int)) = true then
(run (Et base) 67 [(.pointer p21), (.int .i64 (4 : Int))] j20.2).bind fun r34 =>
((some r34.1).bind (getI .i64)).bind fun n35 =>
(wr base r34.2 d23.block d23.off [(.int .i64 (3 : Int)), (.int .i64 n35), (.string (⟨#[]⟩ : ByteArray)), (.slice none 0 0)]).bind fun h36 =>
((cell h36 d23.block d23.off).bind (getI .i64)).bind fun n37 =>
((cell h36 d23.block (d23.off + 1)).bind (getI .i64)).bind fun n38 =>
((cell h36 d23.block ((d23.off + 1) + 1)).bind getStr).bind fun s39 =>
((cell h36 d23.block (((d23.off + 1) + 1) + 1)).bind getS).bind fun l40 =>
some ((.agg #[(.int .i64 n37), (.int .i64 n38), (.string s39), (.slice l40.1 l40.2 l40.2)]), h36)
else
(if (n24 == (6 : Int)) = true then
(some (j20.2 ++ [some ⟨[(.string (⟨#[]⟩ : ByteArray)), (.string (⟨#[120]⟩ : ByteArray)), (.string (⟨#[0, 255]⟩ : ByteArray)), (.string (⟨#[104, 101, 108, 108, 111]⟩ : ByteArray))], 9⟩])).bind fun h41 =>
(run (Et base) 96 [(.pointer p21), (.slice (some ⟨(List.length j20.2), 0, none⟩) 4 4)] h41).bind fun r42 =>
((some r42.1).bind getStr).bind fun s43 =>
(wr base r42.2 d23.block d23.off [(.int .i64 (6 : Int)), (.int .i64 (0 : Int)), (.string s43), (.slice none 0 0)]).bind fun h44 =>
((cell h44 d23.block d23.off).bind (getI .i64)).bind fun n45 =>
((cell h44 d23.block (d23.off + 1)).bind (getI .i64)).bind fun n46 =>
((cell h44 d23.block ((d23.off + 1) + 1)).bind getStr).bind fun s47 =>
((cell h44 d23.block (((d23.off + 1) + 1) + 1)).bind getS).bind fun l48 =>
some ((.agg #[(.int .i64 n45), (.int .i64 n46), (.string s47), (.slice l48.1 l48.2 l48.2)]), h44)
else
(some (j20.2 ++ [some ⟨[(.int .i64 (4 : Int)), (.int .i64 (5 : Int))], 3⟩])).bind fun h49 =>
(run (Et base) 74 [(.pointer p21), (.slice (some ⟨(List.length j20.2), 0, none⟩) 2 2)] h49).bind fun r50 =>
((some r50.1).bind (getI .i64)).bind fun n51 =>
(some (r50.2 ++ [some ⟨[(.int .i64 0), (.int .i64 0), (.string ⟨#[]⟩), (.slice none 0 0)], 48⟩])).bind fun h52 =>
(wr base h52 (List.length r50.2) 0 [(.int .i64 n51), (.int .i64 (0 : Int)), (.string (⟨#[]⟩ : ByteArray)), (.slice none 0 0)]).bind fun h53 =>
(run (Et base) 67 [(.pointer p21), (.int .i64 (4 : Int))] h53).bind fun r54 =>
((some r54.1).bind (getI .i64)).bind fun n55 =>
(loopL (B68_0 base) [some (.pointer p21), some (.int .i64 n22), some (.pointer (some d23)), some (.pointer (some ⟨(List.length r50.2), 0, none⟩)), some (.int .i64 n55)] r54.2).bind fun q56 =>
(if q56.1 = 3 then
((sget q56.2.1 0).bind getA).bind fun d57 =>
((sget (q56.2.1.tail) 0).bind getA).bind fun d58 =>
((cell q56.2.2 d58.block d58.off).bind (getI .i64)).bind fun n59 =>
((cell q56.2.2 d58.block (d58.off + 1)).bind (getI .i64)).bind fun n60 =>
((cell q56.2.2 d58.block ((d58.off + 1) + 1)).bind getStr).bind fun s61 =>
((cell q56.2.2 d58.block (((d58.off + 1) + 1) + 1)).bind getS).bind fun l62 =>
(wr base q56.2.2 d57.block d57.off [(.int .i64 n59), (.int .i64 n60), (.string s61), (.slice l62.1 l62.2 l62.2)]).bind fun h63 =>
((cell h63 d57.block d57.off).bind (getI .i64)).bind fun n64 =>
((cell h63 d57.block (d57.off + 1)).bind (getI .i64)).bind fun n65 =>
((cell h63 d57.block ((d57.off + 1) + 1)).bind getStr).bind fun s66 =>
((cell h63 d57.block (((d57.off + 1) + 1) + 1)).bind getS).bind fun l67 =>
some ((.agg #[(.int .i64 n64), (.int .i64 n65), (.string s66), (.slice l67.1 l67.2 l67.2)]), h63)
else
none))))) : Option (Value × AH)) := by kernel_rfl
theorem r68 {base : Nat} {v0 : Option Addr} {v1 : Int} {h : AH} {r : Value × AH} (hx :
((some (h ++ [some ⟨[(.int .i64 0), (.int .i64 0), (.string ⟨#[]⟩), (.slice none 0 0)], 48⟩])).bind fun h1 =>
(run (Et base) 67 [(.pointer v0), (.int .i64 (9 : Int))] h1).bind fun r2 =>
((some r2.1).bind (getI .i64)).bind fun n3 =>
((if (n3 == (0 : Int)) = true then
some (.inl ([some (.pointer v0), some (.int .i64 v1), some (.pointer (some ⟨(List.length h), 0, none⟩)), some (.int .i64 n3), some (.bool (n3 == (0 : Int)))], r2.2))
else
(if (n3 == (1 : Int)) = true then
some (.inl ([some (.pointer v0), some (.int .i64 v1), some (.pointer (some ⟨(List.length h), 0, none⟩)), some (.int .i64 n3), some (.bool (n3 == (1 : Int)))], r2.2))
else
some (.inl ([some (.pointer v0), some (.int .i64 v1), some (.pointer (some ⟨(List.length h), 0, none⟩)), some (.int .i64 n3), some (.bool (n3 == (2 : Int)))], r2.2))))).bind fun j4 => joinK j4 fun j4 =>
((sget j4.1 0).bind getP).bind fun p5 =>
((sget (j4.1.tail) 0).bind (getI .i64)).bind fun n6 =>
((sget (j4.1.tail.tail) 0).bind getA).bind fun d7 =>
((sget (j4.1.tail.tail.tail) 0).bind (getI .i64)).bind fun n8 =>
((sget (j4.1.tail.tail.tail.tail) 0).bind getB).bind fun b9 =>
(if b9 = true then
(run (Et base) 67 [(.pointer p5), (.int .i64 (100 : Int))] j4.2).bind fun r10 =>
((some r10.1).bind (getI .i64)).bind fun n11 =>
(some (r10.2 ++ [some ⟨[(.int .i64 (0 : Int)), (.int .i64 (1 : Int)), (.int .i64 (-1 : Int)), (.int .i64 (7 : Int)), (.int .i64 (1000000 : Int)), (.int .i64 (-1000000 : Int)), (.int .i64 n11)], 3⟩])).bind fun h12 =>
(run (Et base) 74 [(.pointer p5), (.slice (some ⟨(List.length r10.2), 0, none⟩) 7 7)] h12).bind fun r13 =>
((some r13.1).bind (getI .i64)).bind fun n14 =>
(wr base r13.2 d7.block d7.off [(.int .i64 (1 : Int)), (.int .i64 n14), (.string (⟨#[]⟩ : ByteArray)), (.slice none 0 0)]).bind fun h15 =>
((cell h15 d7.block d7.off).bind (getI .i64)).bind fun n16 =>
((cell h15 d7.block (d7.off + 1)).bind (getI .i64)).bind fun n17 =>
((cell h15 d7.block ((d7.off + 1) + 1)).bind getStr).bind fun s18 =>
((cell h15 d7.block (((d7.off + 1) + 1) + 1)).bind getS).bind fun l19 =>
some ((.agg #[(.int .i64 n16), (.int .i64 n17), (.string s18), (.slice l19.1 l19.2 l19.2)]), h15)
else
((if (n8 == (3 : Int)) = true then
some (.inl ([some (.pointer p5), some (.int .i64 n6), some (.pointer (some d7)), some (.int .i64 n8), some (.bool (n8 == (3 : Int)))], j4.2))
else
some (.inl ([some (.pointer p5), some (.int .i64 n6), some (.pointer (some d7)), some (.int .i64 n8), some (.bool (n8 == (4 : Int)))], j4.2)))).bind fun j20 => joinK j20 fun j20 =>
((sget j20.1 0).bind getP).bind fun p21 =>
((sget (j20.1.tail) 0).bind (getI .i64)).bind fun n22 =>
((sget (j20.1.tail.tail) 0).bind getA).bind fun d23 =>
((sget (j20.1.tail.tail.tail) 0).bind (getI .i64)).bind fun n24 =>
((sget (j20.1.tail.tail.tail.tail) 0).bind getB).bind fun b25 =>
(if b25 = true then
(some (j20.2 ++ [some ⟨[(.string (⟨#[111, 107]⟩ : ByteArray)), (.string (⟨#[97]⟩ : ByteArray)), (.string (⟨#[115, 116, 111, 112]⟩ : ByteArray)), (.string (⟨#[104, 105, 50]⟩ : ByteArray))], 9⟩])).bind fun h26 =>
(run (Et base) 96 [(.pointer p21), (.slice (some ⟨(List.length j20.2), 0, none⟩) 4 4)] h26).bind fun r27 =>
((some r27.1).bind getStr).bind fun s28 =>
(wr base r27.2 d23.block d23.off [(.int .i64 (2 : Int)), (.int .i64 (0 : Int)), (.string s28), (.slice none 0 0)]).bind fun h29 =>
((cell h29 d23.block d23.off).bind (getI .i64)).bind fun n30 =>
((cell h29 d23.block (d23.off + 1)).bind (getI .i64)).bind fun n31 =>
((cell h29 d23.block ((d23.off + 1) + 1)).bind getStr).bind fun s32 =>
((cell h29 d23.block (((d23.off + 1) + 1) + 1)).bind getS).bind fun l33 =>
some ((.agg #[(.int .i64 n30), (.int .i64 n31), (.string s32), (.slice l33.1 l33.2 l33.2)]), h29)
else
(if (n24 == (5 : Int)) = true then
(run (Et base) 67 [(.pointer p21), (.int .i64 (4 : Int))] j20.2).bind fun r34 =>
((some r34.1).bind (getI .i64)).bind fun n35 =>
(wr base r34.2 d23.block d23.off [(.int .i64 (3 : Int)), (.int .i64 n35), (.string (⟨#[]⟩ : ByteArray)), (.slice none 0 0)]).bind fun h36 =>
((cell h36 d23.block d23.off).bind (getI .i64)).bind fun n37 =>
((cell h36 d23.block (d23.off + 1)).bind (getI .i64)).bind fun n38 =>
((cell h36 d23.block ((d23.off + 1) + 1)).bind getStr).bind fun s39 =>
((cell h36 d23.block (((d23.off + 1) + 1) + 1)).bind getS).bind fun l40 =>
some ((.agg #[(.int .i64 n37), (.int .i64 n38), (.string s39), (.slice l40.1 l40.2 l40.2)]), h36)
else
(if (n24 == (6 : Int)) = true then
(some (j20.2 ++ [some ⟨[(.string (⟨#[]⟩ : ByteArray)), (.string (⟨#[120]⟩ : ByteArray)), (.string (⟨#[0, 255]⟩ : ByteArray)), (.string (⟨#[104, 101, 108, 108, 111]⟩ : ByteArray))], 9⟩])).bind fun h41 =>
(run (Et base) 96 [(.pointer p21), (.slice (some ⟨(List.length j20.2), 0, none⟩) 4 4)] h41).bind fun r42 =>
((some r42.1).bind getStr).bind fun s43 =>
(wr base r42.2 d23.block d23.off [(.int .i64 (6 : Int)), (.int .i64 (0 : Int)), (.string s43), (.slice none 0 0)]).bind fun h44 =>
((cell h44 d23.block d23.off).bind (getI .i64)).bind fun n45 =>
((cell h44 d23.block (d23.off + 1)).bind (getI .i64)).bind fun n46 =>
((cell h44 d23.block ((d23.off + 1) + 1)).bind getStr).bind fun s47 =>
((cell h44 d23.block (((d23.off + 1) + 1) + 1)).bind getS).bind fun l48 =>
some ((.agg #[(.int .i64 n45), (.int .i64 n46), (.string s47), (.slice l48.1 l48.2 l48.2)]), h44)
else
(some (j20.2 ++ [some ⟨[(.int .i64 (4 : Int)), (.int .i64 (5 : Int))], 3⟩])).bind fun h49 =>
(run (Et base) 74 [(.pointer p21), (.slice (some ⟨(List.length j20.2), 0, none⟩) 2 2)] h49).bind fun r50 =>
((some r50.1).bind (getI .i64)).bind fun n51 =>
(some (r50.2 ++ [some ⟨[(.int .i64 0), (.int .i64 0), (.string ⟨#[]⟩), (.slice none 0 0)], 48⟩])).bind fun h52 =>
(wr base h52 (List.length r50.2) 0 [(.int .i64 n51), (.int .i64 (0 : Int)), (.string (⟨#[]⟩ : ByteArray)), (.slice none 0 0)]).bind fun h53 =>
(run (Et base) 67 [(.pointer p21), (.int .i64 (4 : Int))] h53).bind fun r54 =>
((some r54.1).bind (getI .i64)).bind fun n55 =>
(loopL (B68_0 base) [some (.pointer p21), some (.int .i64 n22), some (.pointer (some d23)), some (.pointer (some ⟨(List.length r50.2), 0, none⟩)), some (.int .i64 n55)] r54.2).bind fun q56 =>
(if q56.1 = 3 then
((sget q56.2.1 0).bind getA).bind fun d57 =>
((sget (q56.2.1.tail) 0).bind getA).bind fun d58 =>
((cell q56.2.2 d58.block d58.off).bind (getI .i64)).bind fun n59 =>
((cell q56.2.2 d58.block (d58.off + 1)).bind (getI .i64)).bind fun n60 =>
((cell q56.2.2 d58.block ((d58.off + 1) + 1)).bind getStr).bind fun s61 =>
((cell q56.2.2 d58.block (((d58.off + 1) + 1) + 1)).bind getS).bind fun l62 =>
(wr base q56.2.2 d57.block d57.off [(.int .i64 n59), (.int .i64 n60), (.string s61), (.slice l62.1 l62.2 l62.2)]).bind fun h63 =>
((cell h63 d57.block d57.off).bind (getI .i64)).bind fun n64 =>
((cell h63 d57.block (d57.off + 1)).bind (getI .i64)).bind fun n65 =>
((cell h63 d57.block ((d57.off + 1) + 1)).bind getStr).bind fun s66 =>
((cell h63 d57.block (((d57.off + 1) + 1) + 1)).bind getS).bind fun l67 =>
some ((.agg #[(.int .i64 n64), (.int .i64 n65), (.string s66), (.slice l67.1 l67.2 l67.2)]), h63)
else
none)))))) = some r) : run (Et base) 68 [(.pointer v0), (.int .i64 v1)] h = some r := run_i Try.func68 (by kernel_rfl) ((f68_eq base v0 v1 h).trans hx)
/-! spec.l1Once (gates 0) -/
theorem f69_eq (base : Nat) (v0 : Option Addr) (v1 : Int) (h : AH) : exFun (Et base) (run (Et base)) loopL a69 Try.f69 [(.pointer v0), (.int .i64 v1)] h =
((run (Et base) 67 [(.pointer v0), (.int .i64 v1)] h).bind fun r1 =>
((some r1.1).bind (getI .i64)).bind fun n2 =>
some ((.bool (n2 == (0 : Int))), r1.2) : Option (Value × AH)) := by kernel_rfl
theorem r69 {base : Nat} {v0 : Option Addr} {v1 : Int} {h : AH} {r : Value × AH} (hx :
((run (Et base) 67 [(.pointer v0), (.int .i64 v1)] h).bind fun r1 =>
((some r1.1).bind (getI .i64)).bind fun n2 =>
some ((.bool (n2 == (0 : Int))), r1.2)) = some r) : run (Et base) 69 [(.pointer v0), (.int .i64 v1)] h = some r := run_i Try.func69 (by kernel_rfl) ((f69_eq base v0 v1 h).trans hx)
/-! spec.l1Bytes (gates 0) -/
noncomputable def B73_0 (base : Nat) : Body := fun l h => lay s73_0 l fun s => exCode (Et base) (run (Et base)) loopL a73_0 (subC [1, 1, 0, 1, 0, 0] (bodyC Try.f73)) s h (keepK s73_0 e73_0)
theorem B73_0_eq (base : Nat) (v0 : Option Addr) (v1 : Int) (v5 : Option Addr) (v5n : Nat) (v6 : Int) (h : AH) : B73_0 base [some (.pointer v0), some (.int .i64 v1), some (.slice v5 v5n v5n), some (.int .i64 v6)] h =
((if (decide (v6 < v1)) = true then
(run (Et base) 95 [(.pointer v0)] h).bind fun r1 =>
((some r1.1).bind (getI .i64)).bind fun n2 =>
(some (r1.2 ++ [some ⟨[(.int .u8 (IntKind.wrap .u8 n2))], 5⟩])).bind fun h3 =>
(app base h3 5 1 1 v5 v5n (rawAt h3 (some ⟨(List.length r1.2), 0, none⟩) (1 * 1)) 1).bind fun p4 =>
((some p4.1).bind getS).bind fun l5 =>
some (0, [some (.pointer v0), some (.int .i64 v1), some (.slice l5.1 l5.2 l5.2), some (.int .i64 (IntKind.wrap .i64 (v6 + (1 : Int))))], p4.2)
else
some (2, [some (.slice v5 v5n v5n)], h)) : Option (Nat × Slots × AH)) := by kernel_rfl
theorem f73_eq (base : Nat) (v0 : Option Addr) (v1 : Int) (h : AH) : exFun (Et base) (run (Et base)) loopL a73 Try.f73 [(.pointer v0), (.int .i64 v1)] h =
((some (h ++ [some ⟨[], 5⟩])).bind fun h1 =>
(loopL (B73_0 base) [some (.pointer v0), some (.int .i64 v1), some (.slice (some ⟨(List.length h), 0, none⟩) 0 0), some (.int .i64 (0 : Int))] h1).bind fun q2 =>
(if q2.1 = 2 then
((sget q2.2.1 0).bind getS).bind fun l3 =>
some ((.slice l3.1 l3.2 l3.2), q2.2.2)
else
none) : Option (Value × AH)) := by kernel_rfl
theorem r73 {base : Nat} {v0 : Option Addr} {v1 : Int} {h : AH} {r : Value × AH} (hx :
((some (h ++ [some ⟨[], 5⟩])).bind fun h1 =>
(loopL (B73_0 base) [some (.pointer v0), some (.int .i64 v1), some (.slice (some ⟨(List.length h), 0, none⟩) 0 0), some (.int .i64 (0 : Int))] h1).bind fun q2 =>
(if q2.1 = 2 then
((sget q2.2.1 0).bind getS).bind fun l3 =>
some ((.slice l3.1 l3.2 l3.2), q2.2.2)
else
none)) = some r) : run (Et base) 73 [(.pointer v0), (.int .i64 v1)] h = some r := run_i Try.func73 (by kernel_rfl) ((f73_eq base v0 v1 h).trans hx)
/-! spec.l1Int (gates 0) -/
theorem f74_eq (base : Nat) (v0 : Option Addr) (v1 : Option Addr) (v1n : Nat) (h : AH) : exFun (Et base) (run (Et base)) loopL a74 Try.f74 [(.pointer v0), (.slice v1 v1n v1n)] h =
((run (Et base) 67 [(.pointer v0), (.int .i64 ((v1n : Nat) : Int))] h).bind fun r1 =>
((some r1.1).bind (getI .i64)).bind fun n2 =>
(if 0 ≤ n2 ∧ n2 < ((v1n : Nat) : Int) then
((v1 : Option Addr)).bind fun a3 =>
((cell r1.2 a3.block (a3.off + Int.toNat n2 * 1)).bind (getI .i64)).bind fun n4 =>
some ((.int .i64 n4), r1.2)
else none) : Option (Value × AH)) := by kernel_rfl
theorem r74 {base : Nat} {v0 : Option Addr} {v1 : Option Addr} {v1n : Nat} {h : AH} {r : Value × AH} (hx :
((run (Et base) 67 [(.pointer v0), (.int .i64 ((v1n : Nat) : Int))] h).bind fun r1 =>
((some r1.1).bind (getI .i64)).bind fun n2 =>
(if 0 ≤ n2 ∧ n2 < ((v1n : Nat) : Int) then
((v1 : Option Addr)).bind fun a3 =>
((cell r1.2 a3.block (a3.off + Int.toNat n2 * 1)).bind (getI .i64)).bind fun n4 =>
some ((.int .i64 n4), r1.2)
else none)) = some r) : run (Et base) 74 [(.pointer v0), (.slice v1 v1n v1n)] h = some r := run_i Try.func74 (by kernel_rfl) ((f74_eq base v0 v1 v1n h).trans hx)
/-! spec.l1Byte (gates 0) -/
theorem f95_eq (base : Nat) (v0 : Option Addr) (h : AH) : exFun (Et base) (run (Et base)) loopL a95 Try.f95 [(.pointer v0)] h =
((v0).bind fun a1 =>
((cell h a1.block (a1.off + 2)).bind (getI .i64)).bind fun n2 =>
(v0).bind fun a3 =>
(wr base h a3.block (a3.off + 2) [(.int .i64 (IntKind.wrap .i64 ((IntKind.wrap .i64 (n2 * (6364136223846793005 : Int))) + (1442695040888963407 : Int))))]).bind fun h4 =>
(v0).bind fun a5 =>
((cell h4 a5.block (a5.off + 2)).bind (getI .i64)).bind fun n6 =>
(v0).bind fun a7 =>
((cell h4 a7.block (a7.off + 2)).bind (getI .i64)).bind fun n8 =>
((v0).bind fun a10 =>
((cell h4 a10.block (a10.off + 1)).bind (getI .i64)).bind fun n11 =>
(v0).bind fun a12 =>
((cell h4 a12.block (a12.off + 0)).bind getS).bind fun l13 =>
(if (decide (n11 < ((l13.2 : Nat) : Int))) = true then
(v0).bind fun a14 =>
((cell h4 a14.block (a14.off + 0)).bind getS).bind fun l15 =>
(v0).bind fun a16 =>
((cell h4 a16.block (a16.off + 1)).bind (getI .i64)).bind fun n17 =>
(if 0 ≤ n17 ∧ n17 < ((l15.2 : Nat) : Int) then
((l15.1 : Option Addr)).bind fun a18 =>
((cell h4 a18.block (a18.off + Int.toNat n17 * 1)).bind (getI .u8)).bind fun n19 =>
(v0).bind fun a20 =>
((cell h4 a20.block (a20.off + 1)).bind (getI .i64)).bind fun n21 =>
(v0).bind fun a22 =>
(wr base h4 a22.block (a22.off + 1) [(.int .i64 (IntKind.wrap .i64 (n21 + (1 : Int))))]).bind fun h23 =>
some (.inl ([some (.int .i64 (Go.bits .and .i64 (IntKind.wrap .i64 ((Go.bits .and .i64 (Go.bits .xor .i64 (Int.fdiv n6 (2 ^ min ((33 : Int)).toNat 64)) (Int.fdiv n8 (2 ^ min ((47 : Int)).toNat 64))) (255 : Int)) + (IntKind.wrap .i64 n19))) (255 : Int)))], h23))
else none)
else
some (.inl ([some (.int .i64 (Go.bits .and .i64 (Go.bits .xor .i64 (Int.fdiv n6 (2 ^ min ((33 : Int)).toNat 64)) (Int.fdiv n8 (2 ^ min ((47 : Int)).toNat 64))) (255 : Int)))], h4)))).bind fun j9 => joinK j9 fun j9 =>
((sget j9.1 0).bind (getI .i64)).bind fun n24 =>
some ((.int .i64 n24), j9.2) : Option (Value × AH)) := by kernel_rfl
theorem r95 {base : Nat} {v0 : Option Addr} {h : AH} {r : Value × AH} (hx :
((v0).bind fun a1 =>
((cell h a1.block (a1.off + 2)).bind (getI .i64)).bind fun n2 =>
(v0).bind fun a3 =>
(wr base h a3.block (a3.off + 2) [(.int .i64 (IntKind.wrap .i64 ((IntKind.wrap .i64 (n2 * (6364136223846793005 : Int))) + (1442695040888963407 : Int))))]).bind fun h4 =>
(v0).bind fun a5 =>
((cell h4 a5.block (a5.off + 2)).bind (getI .i64)).bind fun n6 =>
(v0).bind fun a7 =>
((cell h4 a7.block (a7.off + 2)).bind (getI .i64)).bind fun n8 =>
((v0).bind fun a10 =>
((cell h4 a10.block (a10.off + 1)).bind (getI .i64)).bind fun n11 =>
(v0).bind fun a12 =>
((cell h4 a12.block (a12.off + 0)).bind getS).bind fun l13 =>
(if (decide (n11 < ((l13.2 : Nat) : Int))) = true then
(v0).bind fun a14 =>
((cell h4 a14.block (a14.off + 0)).bind getS).bind fun l15 =>
(v0).bind fun a16 =>
((cell h4 a16.block (a16.off + 1)).bind (getI .i64)).bind fun n17 =>
(if 0 ≤ n17 ∧ n17 < ((l15.2 : Nat) : Int) then
((l15.1 : Option Addr)).bind fun a18 =>
((cell h4 a18.block (a18.off + Int.toNat n17 * 1)).bind (getI .u8)).bind fun n19 =>
(v0).bind fun a20 =>
((cell h4 a20.block (a20.off + 1)).bind (getI .i64)).bind fun n21 =>
(v0).bind fun a22 =>
(wr base h4 a22.block (a22.off + 1) [(.int .i64 (IntKind.wrap .i64 (n21 + (1 : Int))))]).bind fun h23 =>
some (.inl ([some (.int .i64 (Go.bits .and .i64 (IntKind.wrap .i64 ((Go.bits .and .i64 (Go.bits .xor .i64 (Int.fdiv n6 (2 ^ min ((33 : Int)).toNat 64)) (Int.fdiv n8 (2 ^ min ((47 : Int)).toNat 64))) (255 : Int)) + (IntKind.wrap .i64 n19))) (255 : Int)))], h23))
else none)
else
some (.inl ([some (.int .i64 (Go.bits .and .i64 (Go.bits .xor .i64 (Int.fdiv n6 (2 ^ min ((33 : Int)).toNat 64)) (Int.fdiv n8 (2 ^ min ((47 : Int)).toNat 64))) (255 : Int)))], h4)))).bind fun j9 => joinK j9 fun j9 =>
((sget j9.1 0).bind (getI .i64)).bind fun n24 =>
some ((.int .i64 n24), j9.2)) = some r) : run (Et base) 95 [(.pointer v0)] h = some r := run_i Try.func95 (by kernel_rfl) ((f95_eq base v0 h).trans hx)
/-! spec.l1Str (gates 0) -/
theorem f96_eq (base : Nat) (v0 : Option Addr) (v1 : Option Addr) (v1n : Nat) (h : AH) : exFun (Et base) (run (Et base)) loopL a96 Try.f96 [(.pointer v0), (.slice v1 v1n v1n)] h =
((run (Et base) 67 [(.pointer v0), (.int .i64 ((v1n : Nat) : Int))] h).bind fun r1 =>
((some r1.1).bind (getI .i64)).bind fun n2 =>
(if 0 ≤ n2 ∧ n2 < ((v1n : Nat) : Int) then
((v1 : Option Addr)).bind fun a3 =>
((cell r1.2 a3.block (a3.off + Int.toNat n2 * 1)).bind getStr).bind fun s4 =>
some ((.string s4), r1.2)
else none) : Option (Value × AH)) := by kernel_rfl
theorem r96 {base : Nat} {v0 : Option Addr} {v1 : Option Addr} {v1n : Nat} {h : AH} {r : Value × AH} (hx :
((run (Et base) 67 [(.pointer v0), (.int .i64 ((v1n : Nat) : Int))] h).bind fun r1 =>
((some r1.1).bind (getI .i64)).bind fun n2 =>
(if 0 ≤ n2 ∧ n2 < ((v1n : Nat) : Int) then
((v1 : Option Addr)).bind fun a3 =>
((cell r1.2 a3.block (a3.off + Int.toNat n2 * 1)).bind getStr).bind fun s4 =>
some ((.string s4), r1.2)
else none)) = some r) : run (Et base) 96 [(.pointer v0), (.slice v1 v1n v1n)] h = some r := run_i Try.func96 (by kernel_rfl) ((f96_eq base v0 v1 v1n h).trans hx)
/-! spec.l14Draw (gates 0) -/
noncomputable def B103_0 (base : Nat) : Body := fun l h => lay s103_0 l fun s => exCode (Et base) (run (Et base)) loopL a103_0 (subC [1, 1, 0, 1, 0, 0] (bodyC Try.f103)) s h (keepK s103_0 e103_0)
theorem B103_0_eq (base : Nat) (v0 : Option Addr) (v3 : Option Addr) (v3n : Nat) (v4 : Int) (h : AH) : B103_0 base [some (.pointer v0), some (.slice v3 v3n v3n), some (.int .i64 v4)] h =
((if (decide (v4 > (0 : Int))) = true then
(run (Et base) 104 [(.pointer v0)] h).bind fun r1 =>
((some r1.1).bind (getAgg 6)).bind fun l2 =>
((l2[0]?).bind (getI .i64)).bind fun n3 =>
((l2[1]?).bind (getI .i64)).bind fun n4 =>
((l2[2]?).bind (getI .i64)).bind fun n5 =>
((l2[3]?).bind (getI .i64)).bind fun n6 =>
((l2[4]?).bind getStr).bind fun s7 =>
((l2[5]?).bind getS).bind fun l8 =>
(run (Et base) 59 [(.slice v3 v3n v3n), (.agg #[(.int .i64 n3), (.int .i64 n4), (.int .i64 n5), (.int .i64 n6), (.string s7), (.slice l8.1 l8.2 l8.2)])] r1.2).bind fun r9 =>
(getTup 2 r9.1).bind fun l10 =>
((l10[0]?).bind getS).bind fun l11 =>
((l10[1]?).bind getB).bind fun b12 =>
some (0, [some (.pointer v0), some (.slice l11.1 l11.2 l11.2), some (.int .i64 (IntKind.wrap .i64 (v4 - (1 : Int))))], r9.2)
else
some (2, [some (.slice v3 v3n v3n)], h)) : Option (Nat × Slots × AH)) := by kernel_rfl
theorem f103_eq (base : Nat) (v0 : Option Addr) (h : AH) : exFun (Et base) (run (Et base)) loopL a103 Try.f103 [(.pointer v0)] h =
((some (h ++ [some ⟨[], 70⟩])).bind fun h1 =>
(run (Et base) 67 [(.pointer v0), (.int .i64 (7 : Int))] h1).bind fun r2 =>
((some r2.1).bind (getI .i64)).bind fun n3 =>
(loopL (B103_0 base) [some (.pointer v0), some (.slice (some ⟨(List.length h), 0, none⟩) 0 0), some (.int .i64 n3)] r2.2).bind fun q4 =>
(if q4.1 = 2 then
((sget q4.2.1 0).bind getS).bind fun l5 =>
some ((.slice l5.1 l5.2 l5.2), q4.2.2)
else
none) : Option (Value × AH)) := by kernel_rfl
theorem r103 {base : Nat} {v0 : Option Addr} {h : AH} {r : Value × AH} (hx :
((some (h ++ [some ⟨[], 70⟩])).bind fun h1 =>
(run (Et base) 67 [(.pointer v0), (.int .i64 (7 : Int))] h1).bind fun r2 =>
((some r2.1).bind (getI .i64)).bind fun n3 =>
(loopL (B103_0 base) [some (.pointer v0), some (.slice (some ⟨(List.length h), 0, none⟩) 0 0), some (.int .i64 n3)] r2.2).bind fun q4 =>
(if q4.1 = 2 then
((sget q4.2.1 0).bind getS).bind fun l5 =>
some ((.slice l5.1 l5.2 l5.2), q4.2.2)
else
none)) = some r) : run (Et base) 103 [(.pointer v0)] h = some r := run_i Try.func103 (by kernel_rfl) ((f103_eq base v0 h).trans hx)
/-! spec.l14One (gates 0) -/
theorem f104_eq (base : Nat) (v0 : Option Addr) (h : AH) : exFun (Et base) (run (Et base)) loopL a104 Try.f104 [(.pointer v0)] h =
((some (h ++ [some ⟨[(.int .i64 0), (.int .i64 0), (.int .i64 0), (.int .i64 0), (.string ⟨#[]⟩), (.slice none 0 0)], 70⟩])).bind fun h1 =>
(some (h1 ++ [some ⟨[(.int .i64 (0 : Int)), (.int .i64 (1 : Int)), (.int .i64 (2 : Int)), (.int .i64 (3 : Int)), (.int .i64 (9 : Int)), (.int .i64 (1000000000 : Int))], 3⟩])).bind fun h2 =>
(run (Et base) 74 [(.pointer v0), (.slice (some ⟨(List.length h1), 0, none⟩) 6 6)] h2).bind fun r3 =>
((some r3.1).bind (getI .i64)).bind fun n4 =>
(run (Et base) 67 [(.pointer v0), (.int .i64 (3 : Int))] r3.2).bind fun r5 =>
((some r5.1).bind (getI .i64)).bind fun n6 =>
(run (Et base) 68 [(.pointer v0), (.int .i64 (1 : Int))] r5.2).bind fun r7 =>
((some r7.1).bind (getAgg 4)).bind fun l8 =>
((l8[0]?).bind (getI .i64)).bind fun n9 =>
((l8[1]?).bind (getI .i64)).bind fun n10 =>
((l8[2]?).bind getStr).bind fun s11 =>
((l8[3]?).bind getS).bind fun l12 =>
(wr base r7.2 (List.length h) 0 [(.int .i64 n4), (.int .i64 (IntKind.wrap .i64 ((1 : Int) + n6))), (.int .i64 n9), (.int .i64 n10), (.string s11), (.slice l12.1 l12.2 l12.2)]).bind fun h13 =>
((cell h13 (List.length h) 0).bind (getI .i64)).bind fun n14 =>
((cell h13 (List.length h) 1).bind (getI .i64)).bind fun n15 =>
((cell h13 (List.length h) 2).bind (getI .i64)).bind fun n16 =>
((cell h13 (List.length h) 3).bind (getI .i64)).bind fun n17 =>
((cell h13 (List.length h) 4).bind getStr).bind fun s18 =>
((cell h13 (List.length h) 5).bind getS).bind fun l19 =>
some ((.agg #[(.int .i64 n14), (.int .i64 n15), (.int .i64 n16), (.int .i64 n17), (.string s18), (.slice l19.1 l19.2 l19.2)]), h13) : Option (Value × AH)) := by kernel_rfl
theorem r104 {base : Nat} {v0 : Option Addr} {h : AH} {r : Value × AH} (hx :
((some (h ++ [some ⟨[(.int .i64 0), (.int .i64 0), (.int .i64 0), (.int .i64 0), (.string ⟨#[]⟩), (.slice none 0 0)], 70⟩])).bind fun h1 =>
(some (h1 ++ [some ⟨[(.int .i64 (0 : Int)), (.int .i64 (1 : Int)), (.int .i64 (2 : Int)), (.int .i64 (3 : Int)), (.int .i64 (9 : Int)), (.int .i64 (1000000000 : Int))], 3⟩])).bind fun h2 =>
(run (Et base) 74 [(.pointer v0), (.slice (some ⟨(List.length h1), 0, none⟩) 6 6)] h2).bind fun r3 =>
((some r3.1).bind (getI .i64)).bind fun n4 =>
(run (Et base) 67 [(.pointer v0), (.int .i64 (3 : Int))] r3.2).bind fun r5 =>
((some r5.1).bind (getI .i64)).bind fun n6 =>
(run (Et base) 68 [(.pointer v0), (.int .i64 (1 : Int))] r5.2).bind fun r7 =>
((some r7.1).bind (getAgg 4)).bind fun l8 =>
((l8[0]?).bind (getI .i64)).bind fun n9 =>
((l8[1]?).bind (getI .i64)).bind fun n10 =>
((l8[2]?).bind getStr).bind fun s11 =>
((l8[3]?).bind getS).bind fun l12 =>
(wr base r7.2 (List.length h) 0 [(.int .i64 n4), (.int .i64 (IntKind.wrap .i64 ((1 : Int) + n6))), (.int .i64 n9), (.int .i64 n10), (.string s11), (.slice l12.1 l12.2 l12.2)]).bind fun h13 =>
((cell h13 (List.length h) 0).bind (getI .i64)).bind fun n14 =>
((cell h13 (List.length h) 1).bind (getI .i64)).bind fun n15 =>
((cell h13 (List.length h) 2).bind (getI .i64)).bind fun n16 =>
((cell h13 (List.length h) 3).bind (getI .i64)).bind fun n17 =>
((cell h13 (List.length h) 4).bind getStr).bind fun s18 =>
((cell h13 (List.length h) 5).bind getS).bind fun l19 =>
some ((.agg #[(.int .i64 n14), (.int .i64 n15), (.int .i64 n16), (.int .i64 n17), (.string s18), (.slice l19.1 l19.2 l19.2)]), h13)) = some r) : run (Et base) 104 [(.pointer v0)] h = some r := run_i Try.func104 (by kernel_rfl) ((f104_eq base v0 h).trans hx)
/-! spec.l9Int (gates 0) -/
theorem f105_eq (base : Nat) (v0 : Int) (h : AH) : exFun (Et base) (run (Et base)) loopL a105 Try.f105 [(.int .i64 v0)] h =
((some (h ++ [some ⟨[(.int .i64 0), (.int .i64 0), (.string ⟨#[]⟩), (.slice none 0 0)], 48⟩])).bind fun h1 =>
(wr base h1 (List.length h) 0 [(.int .i64 (1 : Int)), (.int .i64 v0), (.string (⟨#[]⟩ : ByteArray)), (.slice none 0 0)]).bind fun h2 =>
((cell h2 (List.length h) 0).bind (getI .i64)).bind fun n3 =>
((cell h2 (List.length h) 1).bind (getI .i64)).bind fun n4 =>
((cell h2 (List.length h) 2).bind getStr).bind fun s5 =>
((cell h2 (List.length h) 3).bind getS).bind fun l6 =>
some ((.agg #[(.int .i64 n3), (.int .i64 n4), (.string s5), (.slice l6.1 l6.2 l6.2)]), h2) : Option (Value × AH)) := by kernel_rfl
theorem r105 {base : Nat} {v0 : Int} {h : AH} {r : Value × AH} (hx :
((some (h ++ [some ⟨[(.int .i64 0), (.int .i64 0), (.string ⟨#[]⟩), (.slice none 0 0)], 48⟩])).bind fun h1 =>
(wr base h1 (List.length h) 0 [(.int .i64 (1 : Int)), (.int .i64 v0), (.string (⟨#[]⟩ : ByteArray)), (.slice none 0 0)]).bind fun h2 =>
((cell h2 (List.length h) 0).bind (getI .i64)).bind fun n3 =>
((cell h2 (List.length h) 1).bind (getI .i64)).bind fun n4 =>
((cell h2 (List.length h) 2).bind getStr).bind fun s5 =>
((cell h2 (List.length h) 3).bind getS).bind fun l6 =>
some ((.agg #[(.int .i64 n3), (.int .i64 n4), (.string s5), (.slice l6.1 l6.2 l6.2)]), h2)) = some r) : run (Et base) 105 [(.int .i64 v0)] h = some r := run_i Try.func105 (by kernel_rfl) ((f105_eq base v0 h).trans hx)
/-! spec.l1Any (gates 0) -/
theorem f107_eq (base : Nat) (v0 : Option Addr) (h : AH) : exFun (Et base) (run (Et base)) loopL a107 Try.f107 [(.pointer v0)] h =
((some (h ++ [some ⟨[(.int .i64 0), (.int .i64 0), (.string ⟨#[]⟩), (.slice none 0 0)], 48⟩])).bind fun h1 =>
(run (Et base) 68 [(.pointer v0), (.int .i64 (3 : Int))] h1).bind fun r2 =>
((some r2.1).bind (getAgg 4)).bind fun l3 =>
((l3[0]?).bind (getI .i64)).bind fun n4 =>
((l3[1]?).bind (getI .i64)).bind fun n5 =>
((l3[2]?).bind getStr).bind fun s6 =>
((l3[3]?).bind getS).bind fun l7 =>
(some (r2.2 ++ [some ⟨[(.int .i64 0), (.int .i64 0), (.string ⟨#[]⟩), (.slice none 0 0)], 48⟩])).bind fun h8 =>
(wr base h8 (List.length r2.2) 0 [(.int .i64 n4), (.int .i64 n5), (.string s6), (.slice l7.1 l7.2 l7.2)]).bind fun h9 =>
((run (Et base) 69 [(.pointer v0), (.int .i64 (5 : Int))] h9).bind fun r11 =>
((some r11.1).bind getB).bind fun b12 =>
(if b12 = true then
((cell r11.2 (List.length r2.2) 0).bind (getI .i64)).bind fun n13 =>
((cell r11.2 (List.length r2.2) 1).bind (getI .i64)).bind fun n14 =>
((cell r11.2 (List.length r2.2) 2).bind getStr).bind fun s15 =>
((cell r11.2 (List.length r2.2) 3).bind getS).bind fun l16 =>
(run (Et base) 114 [(.pointer v0), (.agg #[(.int .i64 n13), (.int .i64 n14), (.string s15), (.slice l16.1 l16.2 l16.2)])] r11.2).bind fun r17 =>
((some r17.1).bind (getAgg 4)).bind fun l18 =>
((l18[0]?).bind (getI .i64)).bind fun n19 =>
((l18[1]?).bind (getI .i64)).bind fun n20 =>
((l18[2]?).bind getStr).bind fun s21 =>
((l18[3]?).bind getS).bind fun l22 =>
(wr base r17.2 (List.length r2.2) 0 [(.int .i64 n19), (.int .i64 n20), (.string s21), (.slice l22.1 l22.2 l22.2)]).bind fun h23 =>
some (.inl ([some (.pointer (some ⟨(List.length h), 0, none⟩)), some (.pointer (some ⟨(List.length r2.2), 0, none⟩))], h23))
else
some (.inl ([some (.pointer (some ⟨(List.length h), 0, none⟩)), some (.pointer (some ⟨(List.length r2.2), 0, none⟩))], r11.2)))).bind fun j10 => joinK j10 fun j10 =>
((sget j10.1 0).bind getA).bind fun d24 =>
((sget (j10.1.tail) 0).bind getA).bind fun d25 =>
((cell j10.2 d25.block d25.off).bind (getI .i64)).bind fun n26 =>
((cell j10.2 d25.block (d25.off + 1)).bind (getI .i64)).bind fun n27 =>
((cell j10.2 d25.block ((d25.off + 1) + 1)).bind getStr).bind fun s28 =>
((cell j10.2 d25.block (((d25.off + 1) + 1) + 1)).bind getS).bind fun l29 =>
(wr base j10.2 d24.block d24.off [(.int .i64 n26), (.int .i64 n27), (.string s28), (.slice l29.1 l29.2 l29.2)]).bind fun h30 =>
((cell h30 d24.block d24.off).bind (getI .i64)).bind fun n31 =>
((cell h30 d24.block (d24.off + 1)).bind (getI .i64)).bind fun n32 =>
((cell h30 d24.block ((d24.off + 1) + 1)).bind getStr).bind fun s33 =>
((cell h30 d24.block (((d24.off + 1) + 1) + 1)).bind getS).bind fun l34 =>
some ((.agg #[(.int .i64 n31), (.int .i64 n32), (.string s33), (.slice l34.1 l34.2 l34.2)]), h30) : Option (Value × AH)) := by kernel_rfl
theorem r107 {base : Nat} {v0 : Option Addr} {h : AH} {r : Value × AH} (hx :
((some (h ++ [some ⟨[(.int .i64 0), (.int .i64 0), (.string ⟨#[]⟩), (.slice none 0 0)], 48⟩])).bind fun h1 =>
(run (Et base) 68 [(.pointer v0), (.int .i64 (3 : Int))] h1).bind fun r2 =>
((some r2.1).bind (getAgg 4)).bind fun l3 =>
((l3[0]?).bind (getI .i64)).bind fun n4 =>
((l3[1]?).bind (getI .i64)).bind fun n5 =>
((l3[2]?).bind getStr).bind fun s6 =>
((l3[3]?).bind getS).bind fun l7 =>
(some (r2.2 ++ [some ⟨[(.int .i64 0), (.int .i64 0), (.string ⟨#[]⟩), (.slice none 0 0)], 48⟩])).bind fun h8 =>
(wr base h8 (List.length r2.2) 0 [(.int .i64 n4), (.int .i64 n5), (.string s6), (.slice l7.1 l7.2 l7.2)]).bind fun h9 =>
((run (Et base) 69 [(.pointer v0), (.int .i64 (5 : Int))] h9).bind fun r11 =>
((some r11.1).bind getB).bind fun b12 =>
(if b12 = true then
((cell r11.2 (List.length r2.2) 0).bind (getI .i64)).bind fun n13 =>
((cell r11.2 (List.length r2.2) 1).bind (getI .i64)).bind fun n14 =>
((cell r11.2 (List.length r2.2) 2).bind getStr).bind fun s15 =>
((cell r11.2 (List.length r2.2) 3).bind getS).bind fun l16 =>
(run (Et base) 114 [(.pointer v0), (.agg #[(.int .i64 n13), (.int .i64 n14), (.string s15), (.slice l16.1 l16.2 l16.2)])] r11.2).bind fun r17 =>
((some r17.1).bind (getAgg 4)).bind fun l18 =>
((l18[0]?).bind (getI .i64)).bind fun n19 =>
((l18[1]?).bind (getI .i64)).bind fun n20 =>
((l18[2]?).bind getStr).bind fun s21 =>
((l18[3]?).bind getS).bind fun l22 =>
(wr base r17.2 (List.length r2.2) 0 [(.int .i64 n19), (.int .i64 n20), (.string s21), (.slice l22.1 l22.2 l22.2)]).bind fun h23 =>
some (.inl ([some (.pointer (some ⟨(List.length h), 0, none⟩)), some (.pointer (some ⟨(List.length r2.2), 0, none⟩))], h23))
else
some (.inl ([some (.pointer (some ⟨(List.length h), 0, none⟩)), some (.pointer (some ⟨(List.length r2.2), 0, none⟩))], r11.2)))).bind fun j10 => joinK j10 fun j10 =>
((sget j10.1 0).bind getA).bind fun d24 =>
((sget (j10.1.tail) 0).bind getA).bind fun d25 =>
((cell j10.2 d25.block d25.off).bind (getI .i64)).bind fun n26 =>
((cell j10.2 d25.block (d25.off + 1)).bind (getI .i64)).bind fun n27 =>
((cell j10.2 d25.block ((d25.off + 1) + 1)).bind getStr).bind fun s28 =>
((cell j10.2 d25.block (((d25.off + 1) + 1) + 1)).bind getS).bind fun l29 =>
(wr base j10.2 d24.block d24.off [(.int .i64 n26), (.int .i64 n27), (.string s28), (.slice l29.1 l29.2 l29.2)]).bind fun h30 =>
((cell h30 d24.block d24.off).bind (getI .i64)).bind fun n31 =>
((cell h30 d24.block (d24.off + 1)).bind (getI .i64)).bind fun n32 =>
((cell h30 d24.block ((d24.off + 1) + 1)).bind getStr).bind fun s33 =>
((cell h30 d24.block (((d24.off + 1) + 1) + 1)).bind getS).bind fun l34 =>
some ((.agg #[(.int .i64 n31), (.int .i64 n32), (.string s33), (.slice l34.1 l34.2 l34.2)]), h30)) = some r) : run (Et base) 107 [(.pointer v0)] h = some r := run_i Try.func107 (by kernel_rfl) ((f107_eq base v0 h).trans hx)
/-! spec.l1Bend (gates 0) -/
noncomputable def B114_0 (base : Nat) : Body := fun l h => lay s114_0 l fun s => exCode (Et base) (run (Et base)) loopL a114_0 (subC [1, 1, 0, 1, 0, 1, 1, 1, 1, 1, 1, 1, 1, 1, 0, 1, 0, 0] (bodyC Try.f114)) s h (keepK s114_0 e114_0)
theorem B114_0_eq (base : Nat) (v3 : Addr) (v4 : Addr) (v5 : Int) (h : AH) : B114_0 base [some (.pointer (some v3)), some (.pointer (some v4)), some (.int .i64 v5)] h =
((if (decide (v5 < (6 : Int))) = true then
((cell h v3.block v3.off).bind (getI .i64)).bind fun n1 =>
((cell h v3.block (v3.off + 1)).bind (getI .i64)).bind fun n2 =>
((cell h v3.block ((v3.off + 1) + 1)).bind getStr).bind fun s3 =>
((cell h v3.block (((v3.off + 1) + 1) + 1)).bind getS).bind fun l4 =>
(some (h ++ [some ⟨[(.int .i64 0), (.int .i64 0), (.string ⟨#[]⟩), (.slice none 0 0)], 48⟩])).bind fun h5 =>
(wr base h5 (List.length h) 0 [(.int .i64 n1), (.int .i64 n2), (.string s3), (.slice l4.1 l4.2 l4.2)]).bind fun h6 =>
((cell h6 (List.length h) 0).bind (getI .i64)).bind fun n7 =>
((cell h6 (List.length h) 1).bind (getI .i64)).bind fun n8 =>
((cell h6 (List.length h) 2).bind getStr).bind fun s9 =>
((cell h6 (List.length h) 3).bind getS).bind fun l10 =>
(some (h6 ++ [some ⟨[(.int .i64 n7), (.int .i64 n8), (.string s9), (.slice l10.1 l10.2 l10.2)], 48⟩])).bind fun h11 =>
(wr base h11 v3.block v3.off [(.int .i64 (4 : Int)), (.int .i64 (0 : Int)), (.string (⟨#[]⟩ : ByteArray)), (.slice (some ⟨(List.length h6), 0, none⟩) 1 1)]).bind fun h12 =>
some (0, [some (.pointer (some v3)), some (.pointer (some v4)), some (.int .i64 (IntKind.wrap .i64 (v5 + (1 : Int))))], h12)
else
some (3, [some (.pointer (some v3)), some (.pointer (some v4))], h)) : Option (Nat × Slots × AH)) := by kernel_rfl
theorem f114_eq (base : Nat) (v0 : Option Addr) (v1_0 : Int) (v1_1 : Int) (v1_2 : ByteArray) (v1_3 : Option Addr) (v1_3n : Nat) (h : AH) : exFun (Et base) (run (Et base)) loopL a114 Try.f114 [(.pointer v0), (.agg #[(.int .i64 v1_0), (.int .i64 v1_1), (.string v1_2), (.slice v1_3 v1_3n v1_3n)])] h =
((some (h ++ [some ⟨[(.int .i64 v1_0), (.int .i64 v1_1), (.string v1_2), (.slice v1_3 v1_3n v1_3n)], 48⟩])).bind fun h1 =>
(some (h1 ++ [some ⟨[(.int .i64 0), (.int .i64 0), (.string ⟨#[]⟩), (.slice none 0 0)], 48⟩])).bind fun h2 =>
((cell h2 (List.length h) 0).bind (getI .i64)).bind fun n3 =>
((cell h2 (List.length h) 1).bind (getI .i64)).bind fun n4 =>
((cell h2 (List.length h) 2).bind getStr).bind fun s5 =>
((cell h2 (List.length h) 3).bind getS).bind fun l6 =>
(run (Et base) 94 [(.agg #[(.int .i64 n3), (.int .i64 n4), (.string s5), (.slice l6.1 l6.2 l6.2)])] h2).bind fun r7 =>
((some r7.1).bind (getAgg 4)).bind fun l8 =>
((l8[0]?).bind (getI .i64)).bind fun n9 =>
((l8[1]?).bind (getI .i64)).bind fun n10 =>
((l8[2]?).bind getStr).bind fun s11 =>
((l8[3]?).bind getS).bind fun l12 =>
(wr base r7.2 (List.length h) 0 [(.int .i64 n9), (.int .i64 n10), (.string s11), (.slice l12.1 l12.2 l12.2)]).bind fun h13 =>
((run (Et base) 67 [(.pointer v0), (.int .i64 (6 : Int))] h13).bind fun r15 =>
((some r15.1).bind (getI .i64)).bind fun n16 =>
(if (n16 == (0 : Int)) = true then
(run (Et base) 67 [(.pointer v0), (.int .i64 (8 : Int))] r15.2).bind fun r17 =>
((some r17.1).bind (getI .i64)).bind fun n18 =>
(wr base r17.2 (List.length h) 0 [(.int .i64 n18)]).bind fun h19 =>
some (.inl ([some (.pointer (some ⟨(List.length h), 0, none⟩)), some (.pointer (some ⟨(List.length h1), 0, none⟩))], h19))
else
(if (n16 == (1 : Int)) = true then
(some (r15.2 ++ [some ⟨[(.int .i64 (-1 : Int)), (.int .i64 (1000001 : Int)), (.int .i64 (100000 : Int)), (.int .i64 (3 : Int))], 3⟩])).bind fun h20 =>
(run (Et base) 74 [(.pointer v0), (.slice (some ⟨(List.length r15.2), 0, none⟩) 4 4)] h20).bind fun r21 =>
((some r21.1).bind (getI .i64)).bind fun n22 =>
(wr base r21.2 (List.length h) 1 [(.int .i64 n22)]).bind fun h23 =>
some (.inl ([some (.pointer (some ⟨(List.length h), 0, none⟩)), some (.pointer (some ⟨(List.length h1), 0, none⟩))], h23))
else
(if (n16 == (2 : Int)) = true then
(some (r15.2 ++ [some ⟨[(.string (⟨#[]⟩ : ByteArray)), (.string (⟨#[65]⟩ : ByteArray)), (.string (⟨#[120]⟩ : ByteArray)), (.string (⟨#[116, 104, 105, 114, 116, 101, 101, 110, 98, 121, 116, 101, 115]⟩ : ByteArray))], 9⟩])).bind fun h24 =>
(run (Et base) 96 [(.pointer v0), (.slice (some ⟨(List.length r15.2), 0, none⟩) 4 4)] h24).bind fun r25 =>
((some r25.1).bind getStr).bind fun s26 =>
(wr base r25.2 (List.length h) 2 [(.string s26)]).bind fun h27 =>
some (.inl ([some (.pointer (some ⟨(List.length h), 0, none⟩)), some (.pointer (some ⟨(List.length h1), 0, none⟩))], h27))
else
(if (n16 == (3 : Int)) = true then
((cell r15.2 (List.length h) 3).bind getS).bind fun l28 =>
(some (r15.2 ++ [some ⟨[(.int .i64 (1 : Int)), (.int .i64 (4 : Int)), (.string (⟨#[]⟩ : ByteArray)), (.slice none 0 0)], 48⟩])).bind fun h29 =>
(app base h29 48 4 56 l28.1 l28.2 (rawAt h29 (some ⟨(List.length r15.2), 0, none⟩) (1 * 4)) 1).bind fun p30 =>
((some p30.1).bind getS).bind fun l31 =>
(wr base p30.2 (List.length h) 3 [(.slice l31.1 l31.2 l31.2)]).bind fun h32 =>
some (.inl ([some (.pointer (some ⟨(List.length h), 0, none⟩)), some (.pointer (some ⟨(List.length h1), 0, none⟩))], h32))
else
(if (n16 == (4 : Int)) = true then
(loopL (B114_0 base) [some (.pointer (some ⟨(List.length h), 0, none⟩)), some (.pointer (some ⟨(List.length h1), 0, none⟩)), some (.int .i64 (0 : Int))] r15.2).bind fun q33 =>
(if q33.1 = 3 then
((sget q33.2.1 0).bind getA).bind fun d34 =>
((sget (q33.2.1.tail) 0).bind getA).bind fun d35 =>
some (.inl ([some (.pointer (some d34)), some (.pointer (some d35))], q33.2.2))
else
none)
else
some (.inl ([some (.pointer (some ⟨(List.length h), 0, none⟩)), some (.pointer (some ⟨(List.length h1), 0, none⟩))], r15.2)))))))).bind fun j14 => joinK j14 fun j14 =>
((sget j14.1 0).bind getA).bind fun d36 =>
((sget (j14.1.tail) 0).bind getA).bind fun d37 =>
((cell j14.2 d36.block d36.off).bind (getI .i64)).bind fun n38 =>
((cell j14.2 d36.block (d36.off + 1)).bind (getI .i64)).bind fun n39 =>
((cell j14.2 d36.block ((d36.off + 1) + 1)).bind getStr).bind fun s40 =>
((cell j14.2 d36.block (((d36.off + 1) + 1) + 1)).bind getS).bind fun l41 =>
(wr base j14.2 d37.block d37.off [(.int .i64 n38), (.int .i64 n39), (.string s40), (.slice l41.1 l41.2 l41.2)]).bind fun h42 =>
((cell h42 d37.block d37.off).bind (getI .i64)).bind fun n43 =>
((cell h42 d37.block (d37.off + 1)).bind (getI .i64)).bind fun n44 =>
((cell h42 d37.block ((d37.off + 1) + 1)).bind getStr).bind fun s45 =>
((cell h42 d37.block (((d37.off + 1) + 1) + 1)).bind getS).bind fun l46 =>
some ((.agg #[(.int .i64 n43), (.int .i64 n44), (.string s45), (.slice l46.1 l46.2 l46.2)]), h42) : Option (Value × AH)) := by kernel_rfl
theorem r114 {base : Nat} {v0 : Option Addr} {v1_0 : Int} {v1_1 : Int} {v1_2 : ByteArray} {v1_3 : Option Addr} {v1_3n : Nat} {h : AH} {r : Value × AH} (hx :
((some (h ++ [some ⟨[(.int .i64 v1_0), (.int .i64 v1_1), (.string v1_2), (.slice v1_3 v1_3n v1_3n)], 48⟩])).bind fun h1 =>
(some (h1 ++ [some ⟨[(.int .i64 0), (.int .i64 0), (.string ⟨#[]⟩), (.slice none 0 0)], 48⟩])).bind fun h2 =>
((cell h2 (List.length h) 0).bind (getI .i64)).bind fun n3 =>
((cell h2 (List.length h) 1).bind (getI .i64)).bind fun n4 =>
((cell h2 (List.length h) 2).bind getStr).bind fun s5 =>
((cell h2 (List.length h) 3).bind getS).bind fun l6 =>
(run (Et base) 94 [(.agg #[(.int .i64 n3), (.int .i64 n4), (.string s5), (.slice l6.1 l6.2 l6.2)])] h2).bind fun r7 =>
((some r7.1).bind (getAgg 4)).bind fun l8 =>
((l8[0]?).bind (getI .i64)).bind fun n9 =>
((l8[1]?).bind (getI .i64)).bind fun n10 =>
((l8[2]?).bind getStr).bind fun s11 =>
((l8[3]?).bind getS).bind fun l12 =>
(wr base r7.2 (List.length h) 0 [(.int .i64 n9), (.int .i64 n10), (.string s11), (.slice l12.1 l12.2 l12.2)]).bind fun h13 =>
((run (Et base) 67 [(.pointer v0), (.int .i64 (6 : Int))] h13).bind fun r15 =>
((some r15.1).bind (getI .i64)).bind fun n16 =>
(if (n16 == (0 : Int)) = true then
(run (Et base) 67 [(.pointer v0), (.int .i64 (8 : Int))] r15.2).bind fun r17 =>
((some r17.1).bind (getI .i64)).bind fun n18 =>
(wr base r17.2 (List.length h) 0 [(.int .i64 n18)]).bind fun h19 =>
some (.inl ([some (.pointer (some ⟨(List.length h), 0, none⟩)), some (.pointer (some ⟨(List.length h1), 0, none⟩))], h19))
else
(if (n16 == (1 : Int)) = true then
(some (r15.2 ++ [some ⟨[(.int .i64 (-1 : Int)), (.int .i64 (1000001 : Int)), (.int .i64 (100000 : Int)), (.int .i64 (3 : Int))], 3⟩])).bind fun h20 =>
(run (Et base) 74 [(.pointer v0), (.slice (some ⟨(List.length r15.2), 0, none⟩) 4 4)] h20).bind fun r21 =>
((some r21.1).bind (getI .i64)).bind fun n22 =>
(wr base r21.2 (List.length h) 1 [(.int .i64 n22)]).bind fun h23 =>
some (.inl ([some (.pointer (some ⟨(List.length h), 0, none⟩)), some (.pointer (some ⟨(List.length h1), 0, none⟩))], h23))
else
(if (n16 == (2 : Int)) = true then
(some (r15.2 ++ [some ⟨[(.string (⟨#[]⟩ : ByteArray)), (.string (⟨#[65]⟩ : ByteArray)), (.string (⟨#[120]⟩ : ByteArray)), (.string (⟨#[116, 104, 105, 114, 116, 101, 101, 110, 98, 121, 116, 101, 115]⟩ : ByteArray))], 9⟩])).bind fun h24 =>
(run (Et base) 96 [(.pointer v0), (.slice (some ⟨(List.length r15.2), 0, none⟩) 4 4)] h24).bind fun r25 =>
((some r25.1).bind getStr).bind fun s26 =>
(wr base r25.2 (List.length h) 2 [(.string s26)]).bind fun h27 =>
some (.inl ([some (.pointer (some ⟨(List.length h), 0, none⟩)), some (.pointer (some ⟨(List.length h1), 0, none⟩))], h27))
else
(if (n16 == (3 : Int)) = true then
((cell r15.2 (List.length h) 3).bind getS).bind fun l28 =>
(some (r15.2 ++ [some ⟨[(.int .i64 (1 : Int)), (.int .i64 (4 : Int)), (.string (⟨#[]⟩ : ByteArray)), (.slice none 0 0)], 48⟩])).bind fun h29 =>
(app base h29 48 4 56 l28.1 l28.2 (rawAt h29 (some ⟨(List.length r15.2), 0, none⟩) (1 * 4)) 1).bind fun p30 =>
((some p30.1).bind getS).bind fun l31 =>
(wr base p30.2 (List.length h) 3 [(.slice l31.1 l31.2 l31.2)]).bind fun h32 =>
some (.inl ([some (.pointer (some ⟨(List.length h), 0, none⟩)), some (.pointer (some ⟨(List.length h1), 0, none⟩))], h32))
else
(if (n16 == (4 : Int)) = true then
(loopL (B114_0 base) [some (.pointer (some ⟨(List.length h), 0, none⟩)), some (.pointer (some ⟨(List.length h1), 0, none⟩)), some (.int .i64 (0 : Int))] r15.2).bind fun q33 =>
(if q33.1 = 3 then
((sget q33.2.1 0).bind getA).bind fun d34 =>
((sget (q33.2.1.tail) 0).bind getA).bind fun d35 =>
some (.inl ([some (.pointer (some d34)), some (.pointer (some d35))], q33.2.2))
else
none)
else
some (.inl ([some (.pointer (some ⟨(List.length h), 0, none⟩)), some (.pointer (some ⟨(List.length h1), 0, none⟩))], r15.2)))))))).bind fun j14 => joinK j14 fun j14 =>
((sget j14.1 0).bind getA).bind fun d36 =>
((sget (j14.1.tail) 0).bind getA).bind fun d37 =>
((cell j14.2 d36.block d36.off).bind (getI .i64)).bind fun n38 =>
((cell j14.2 d36.block (d36.off + 1)).bind (getI .i64)).bind fun n39 =>
((cell j14.2 d36.block ((d36.off + 1) + 1)).bind getStr).bind fun s40 =>
((cell j14.2 d36.block (((d36.off + 1) + 1) + 1)).bind getS).bind fun l41 =>
(wr base j14.2 d37.block d37.off [(.int .i64 n38), (.int .i64 n39), (.string s40), (.slice l41.1 l41.2 l41.2)]).bind fun h42 =>
((cell h42 d37.block d37.off).bind (getI .i64)).bind fun n43 =>
((cell h42 d37.block (d37.off + 1)).bind (getI .i64)).bind fun n44 =>
((cell h42 d37.block ((d37.off + 1) + 1)).bind getStr).bind fun s45 =>
((cell h42 d37.block (((d37.off + 1) + 1) + 1)).bind getS).bind fun l46 =>
some ((.agg #[(.int .i64 n43), (.int .i64 n44), (.string s45), (.slice l46.1 l46.2 l46.2)]), h42)) = some r) : run (Et base) 114 [(.pointer v0), (.agg #[(.int .i64 v1_0), (.int .i64 v1_1), (.string v1_2), (.slice v1_3 v1_3n v1_3n)])] h = some r := run_i Try.func114 (by kernel_rfl) ((f114_eq base v0 v1_0 v1_1 v1_2 v1_3 v1_3n h).trans hx)
/-! laws.FnNoRooms (gates 0) -/
noncomputable def B6_0 (base : Nat) : Body := fun l h => lay s6_0 l fun s => exCode (Et base) (run (Et base)) loopL a6_0 (subC [1, 1, 1, 1, 1, 0, 1, 0, 0] (bodyC Try.f6)) s h (keepK s6_0 e6_0)
theorem B6_0_eq (base : Nat) (v3 : Option Addr) (v3n : Nat) (v4 : Int) (v5 : Int) (v6 : Int) (h : AH) : B6_0 base [some (.slice v3 v3n v3n), some (.int .i64 v4), some (.int .i64 v5), some (.int .i64 v6)] h =
((if (decide (v6 < ((v3n : Nat) : Int))) = true then
((if 0 ≤ v6 ∧ v6 < ((v3n : Nat) : Int) then
((v3 : Option Addr)).bind fun a2 =>
((cell h a2.block ((a2.off + Int.toNat v6 * 6) + 0)).bind (getI .i64)).bind fun n3 =>
(if (n3 == (3 : Int)) = true then
some (.inl ([some (.slice v3 v3n v3n), some (.int .i64 v4), some (.int .i64 (IntKind.wrap .i64 (v5 + (1 : Int)))), some (.int .i64 v6)], h))
else
some (.inl ([some (.slice v3 v3n v3n), some (.int .i64 v4), some (.int .i64 v5), some (.int .i64 v6)], h)))
else none)).bind fun j1 => joinK j1 fun j1 =>
((sget j1.1 0).bind getS).bind fun l4 =>
((sget (j1.1.tail) 0).bind (getI .i64)).bind fun n5 =>
((sget (j1.1.tail.tail) 0).bind (getI .i64)).bind fun n6 =>
((sget (j1.1.tail.tail.tail) 0).bind (getI .i64)).bind fun n7 =>
some (0, [some (.slice l4.1 l4.2 l4.2), some (.int .i64 n5), some (.int .i64 n6), some (.int .i64 (IntKind.wrap .i64 (n7 + (1 : Int))))], j1.2)
else
some (2, [some (.slice v3 v3n v3n), some (.int .i64 v4), some (.int .i64 v5)], h)) : Option (Nat × Slots × AH)) := by kernel_rfl
theorem f6_eq (base : Nat) (v0 : Option Addr) (v0n : Nat) (h : AH) : exFun (Et base) (run (Et base)) loopL a6 Try.f6 [(.slice v0 v0n v0n)] h =
((run (Et base) 32 [(.slice v0 v0n v0n)] h).bind fun r1 =>
((some r1.1).bind getB).bind fun b2 =>
(if b2 = true then
some ((.bool true), r1.2)
else
(run (Et base) 33 [(.slice v0 v0n v0n)] r1.2).bind fun r3 =>
((some r3.1).bind getS).bind fun l4 =>
(run (Et base) 34 [(.slice l4.1 l4.2 l4.2)] r3.2).bind fun r5 =>
((some r5.1).bind (getI .i64)).bind fun n6 =>
(loopL (B6_0 base) [some (.slice l4.1 l4.2 l4.2), some (.int .i64 n6), some (.int .i64 (0 : Int)), some (.int .i64 (0 : Int))] r5.2).bind fun q7 =>
(if q7.1 = 2 then
((sget q7.2.1 0).bind getS).bind fun l8 =>
((sget (q7.2.1.tail) 0).bind (getI .i64)).bind fun n9 =>
((sget (q7.2.1.tail.tail) 0).bind (getI .i64)).bind fun n10 =>
(some (q7.2.2 ++ [some ⟨[], 50⟩])).bind fun h11 =>
(app base h11 50 6 72 (some ⟨(List.length q7.2.2), 0, none⟩) 0 (rawAt h11 l8.1 (l8.2 * 6)) l8.2).bind fun p12 =>
((some p12.1).bind getS).bind fun l13 =>
(some (p12.2 ++ [some ⟨[(.int .i64 (3 : Int)), (.int .i64 (1 : Int)), (.int .i64 (2 : Int)), (.int .i64 (0 : Int)), (.string (⟨#[110, 111, 114, 111, 111, 109]⟩ : ByteArray)), (.slice none 0 0)], 50⟩])).bind fun h14 =>
(app base h14 50 6 72 l13.1 l13.2 (rawAt h14 (some ⟨(List.length p12.2), 0, none⟩) (1 * 6)) 1).bind fun p15 =>
((some p15.1).bind getS).bind fun l16 =>
(run (Et base) 35 [(.slice l8.1 l8.2 l8.2)] p15.2).bind fun r17 =>
((some r17.1).bind (getI .i64)).bind fun n18 =>
(if (n9 == n18) = true then
(if (decide (n9 ≤ n10)) = true then
(some (r17.2 ++ [some ⟨[], 50⟩])).bind fun h19 =>
(run (Et base) 34 [(.slice (some ⟨(List.length r17.2), 0, none⟩) 0 0)] h19).bind fun r20 =>
((some r20.1).bind (getI .i64)).bind fun n21 =>
(if (n21 == (0 : Int)) = true then
(run (Et base) 34 [(.slice l16.1 l16.2 l16.2)] r20.2).bind fun r22 =>
((some r22.1).bind (getI .i64)).bind fun n23 =>
some ((.bool (n23 == (IntKind.wrap .i64 (n9 + (1 : Int))))), r22.2)
else
some ((.bool false), r20.2))
else
some ((.bool false), r17.2))
else
some ((.bool false), r17.2))
else
none)) : Option (Value × AH)) := by kernel_rfl
theorem r6 {base : Nat} {v0 : Option Addr} {v0n : Nat} {h : AH} {r : Value × AH} (hx :
((run (Et base) 32 [(.slice v0 v0n v0n)] h).bind fun r1 =>
((some r1.1).bind getB).bind fun b2 =>
(if b2 = true then
some ((.bool true), r1.2)
else
(run (Et base) 33 [(.slice v0 v0n v0n)] r1.2).bind fun r3 =>
((some r3.1).bind getS).bind fun l4 =>
(run (Et base) 34 [(.slice l4.1 l4.2 l4.2)] r3.2).bind fun r5 =>
((some r5.1).bind (getI .i64)).bind fun n6 =>
(loopL (B6_0 base) [some (.slice l4.1 l4.2 l4.2), some (.int .i64 n6), some (.int .i64 (0 : Int)), some (.int .i64 (0 : Int))] r5.2).bind fun q7 =>
(if q7.1 = 2 then
((sget q7.2.1 0).bind getS).bind fun l8 =>
((sget (q7.2.1.tail) 0).bind (getI .i64)).bind fun n9 =>
((sget (q7.2.1.tail.tail) 0).bind (getI .i64)).bind fun n10 =>
(some (q7.2.2 ++ [some ⟨[], 50⟩])).bind fun h11 =>
(app base h11 50 6 72 (some ⟨(List.length q7.2.2), 0, none⟩) 0 (rawAt h11 l8.1 (l8.2 * 6)) l8.2).bind fun p12 =>
((some p12.1).bind getS).bind fun l13 =>
(some (p12.2 ++ [some ⟨[(.int .i64 (3 : Int)), (.int .i64 (1 : Int)), (.int .i64 (2 : Int)), (.int .i64 (0 : Int)), (.string (⟨#[110, 111, 114, 111, 111, 109]⟩ : ByteArray)), (.slice none 0 0)], 50⟩])).bind fun h14 =>
(app base h14 50 6 72 l13.1 l13.2 (rawAt h14 (some ⟨(List.length p12.2), 0, none⟩) (1 * 6)) 1).bind fun p15 =>
((some p15.1).bind getS).bind fun l16 =>
(run (Et base) 35 [(.slice l8.1 l8.2 l8.2)] p15.2).bind fun r17 =>
((some r17.1).bind (getI .i64)).bind fun n18 =>
(if (n9 == n18) = true then
(if (decide (n9 ≤ n10)) = true then
(some (r17.2 ++ [some ⟨[], 50⟩])).bind fun h19 =>
(run (Et base) 34 [(.slice (some ⟨(List.length r17.2), 0, none⟩) 0 0)] h19).bind fun r20 =>
((some r20.1).bind (getI .i64)).bind fun n21 =>
(if (n21 == (0 : Int)) = true then
(run (Et base) 34 [(.slice l16.1 l16.2 l16.2)] r20.2).bind fun r22 =>
((some r22.1).bind (getI .i64)).bind fun n23 =>
some ((.bool (n23 == (IntKind.wrap .i64 (n9 + (1 : Int))))), r22.2)
else
some ((.bool false), r20.2))
else
some ((.bool false), r17.2))
else
some ((.bool false), r17.2))
else
none))) = some r) : run (Et base) 6 [(.slice v0 v0n v0n)] h = some r := run_i Try.func6 (by kernel_rfl) ((f6_eq base v0 v0n h).trans hx)
/-! laws.FnNums (gates 2) -/
theorem f7_eq (base : Nat) (v0 : Option Addr) (v0n : Nat) (h : AH) : exFun (Et base) (run (Et base)) loopL a7 Try.f7 [(.slice v0 v0n v0n)] h =
((run (Et base) 32 [(.slice v0 v0n v0n)] h).bind fun r1 =>
((some r1.1).bind getB).bind fun b2 =>
(if b2 = true then
some ((.bool true), r1.2)
else
(run (Et base) 36 [(.slice v0 v0n v0n)] r1.2).bind fun r3 =>
(getTup 2 r3.1).bind fun l4 =>
((l4[0]?).bind getS).bind fun l5 =>
((l4[1]?).bind (getI .i64)).bind fun n6 =>
(run (Et base) 20 [(.slice l5.1 l5.2 l5.2), (.int .i64 n6)] r3.2).bind fun r7 =>
((some r7.1).bind getS).bind fun l8 =>
(run (Et base) 17 [(.slice l8.1 l8.2 l8.2), (.int .i64 ((l5.2 : Nat) : Int))] r7.2).bind fun r9 =>
(getTup 3 r9.1).bind fun l10 =>
((l10[0]?).bind (getI .i64)).bind fun n11 =>
((l10[1]?).bind (getI .i64)).bind fun n12 =>
((l10[2]?).bind getB).bind fun b13 =>
((if (decide (n6 > (1000000 : Int))) = true then
some (.inl ([some (.slice v0 v0n v0n), some (.slice l5.1 l5.2 l5.2), some (.int .i64 (1000000 : Int)), some (.slice l8.1 l8.2 l8.2), some (.int .i64 n11), some (.int .i64 n12), some (.bool b13)], r9.2))
else
some (.inl ([some (.slice v0 v0n v0n), some (.slice l5.1 l5.2 l5.2), some (.int .i64 n6), some (.slice l8.1 l8.2 l8.2), some (.int .i64 n11), some (.int .i64 n12), some (.bool b13)], r9.2)))).bind fun j14 => joinK j14 fun j14 =>
((sget j14.1 0).bind getS).bind fun l15 =>
((sget (j14.1.tail) 0).bind getS).bind fun l16 =>
((sget (j14.1.tail.tail) 0).bind (getI .i64)).bind fun n17 =>
((sget (j14.1.tail.tail.tail) 0).bind getS).bind fun l18 =>
((sget (j14.1.tail.tail.tail.tail) 0).bind (getI .i64)).bind fun n19 =>
((sget (j14.1.tail.tail.tail.tail.tail) 0).bind (getI .i64)).bind fun n20 =>
((sget (j14.1.tail.tail.tail.tail.tail.tail) 0).bind getB).bind fun b21 =>
((if (decide (n17 < (-1000000 : Int))) = true then
some (.inl ([some (.slice l15.1 l15.2 l15.2), some (.slice l16.1 l16.2 l16.2), some (.int .i64 (-1000000 : Int)), some (.slice l18.1 l18.2 l18.2), some (.int .i64 n19), some (.int .i64 n20), some (.bool b21)], j14.2))
else
some (.inl ([some (.slice l15.1 l15.2 l15.2), some (.slice l16.1 l16.2 l16.2), some (.int .i64 n17), some (.slice l18.1 l18.2 l18.2), some (.int .i64 n19), some (.int .i64 n20), some (.bool b21)], j14.2)))).bind fun j22 => joinK j22 fun j22 =>
((sget j22.1 0).bind getS).bind fun l23 =>
((sget (j22.1.tail) 0).bind getS).bind fun l24 =>
((sget (j22.1.tail.tail) 0).bind (getI .i64)).bind fun n25 =>
((sget (j22.1.tail.tail.tail) 0).bind getS).bind fun l26 =>
((sget (j22.1.tail.tail.tail.tail) 0).bind (getI .i64)).bind fun n27 =>
((sget (j22.1.tail.tail.tail.tail.tail) 0).bind (getI .i64)).bind fun n28 =>
((sget (j22.1.tail.tail.tail.tail.tail.tail) 0).bind getB).bind fun b29 =>
(if 0 ≤ (0 : Int) ∧ (0 : Int) ≤ (IntKind.wrap .i64 (((l26.2 : Nat) : Int) - (1 : Int))) ∧ (IntKind.wrap .i64 (((l26.2 : Nat) : Int) - (1 : Int))) ≤ ((l26.2 : Nat) : Int) ∧ okTy base j22.2 l26.1 5 (Int.toNat (0 : Int)) = true then
(run (Et base) 17 [(.slice (shiftA l26.1 (Int.toNat (0 : Int) * 1)) (Int.toNat (IntKind.wrap .i64 (((l26.2 : Nat) : Int) - (1 : Int))) - Int.toNat (0 : Int)) (Int.toNat (IntKind.wrap .i64 (((l26.2 : Nat) : Int) - (1 : Int))) - Int.toNat (0 : Int))), (.int .i64 ((l24.2 : Nat) : Int))] j22.2).bind fun r30 =>
(getTup 3 r30.1).bind fun l31 =>
((l31[0]?).bind (getI .i64)).bind fun n32 =>
((l31[1]?).bind (getI .i64)).bind fun n33 =>
((l31[2]?).bind getB).bind fun b34 =>
(run (Et base) 37 [(.slice l23.1 l23.2 l23.2)] r30.2).bind fun r35 =>
(getTup 2 r35.1).bind fun l36 =>
((l36[0]?).bind getS).bind fun l37 =>
((l36[1]?).bind (getI .i64)).bind fun n38 =>
(run (Et base) 17 [(.slice l37.1 l37.2 l37.2), (.int .i64 n38)] r35.2).bind fun r39 =>
(getTup 3 r39.1).bind fun l40 =>
((l40[0]?).bind (getI .i64)).bind fun n41 =>
((l40[1]?).bind (getI .i64)).bind fun n42 =>
((l40[2]?).bind getB).bind fun b43 =>
(run (Et base) 15 [(.slice l37.1 l37.2 l37.2), (.int .i64 n38)] r39.2).bind fun r44 =>
(getTup 3 r44.1).bind fun l45 =>
((l45[0]?).bind (getI .i64)).bind fun n46 =>
((l45[1]?).bind (getI .i64)).bind fun n47 =>
((l45[2]?).bind getB).bind fun b48 =>
(if b29 = true then
(if (n27 == n25) = true then
(if (n28 == ((l26.2 : Nat) : Int)) = true then
(if (!b34) = true then
(if (b43 == b48) = true then
(if (!b43) = true then
some ((.bool true), r44.2)
else
(some (r44.2 ++ [some ⟨[], 5⟩])).bind fun h49 =>
(run (Et base) 20 [(.slice (some ⟨(List.length r44.2), 0, none⟩) 0 0), (.int .i64 n41)] h49).bind fun r50 =>
((some r50.1).bind getS).bind fun l51 =>
(gate (neA l37.1 (List.length r44.2))
((gate (sameA h49 r50.2 l37.1 0)
((if 0 ≤ n38 ∧ n38 ≤ n42 ∧ n42 ≤ ((l37.2 : Nat) : Int) ∧ okTy base r50.2 l37.1 5 (Int.toNat n38) = true then
(run (Et base) 38 [(.slice l51.1 l51.2 l51.2), (.slice (shiftA l37.1 (Int.toNat n38 * 1)) (Int.toNat n42 - Int.toNat n38) (Int.toNat n42 - Int.toNat n38))] r50.2).bind fun r52 =>
((some r52.1).bind getB).bind fun b53 =>
some ((.bool b53), r52.2)
else none))))))
else
some ((.bool false), r44.2))
else
some ((.bool false), r44.2))
else
some ((.bool false), r44.2))
else
some ((.bool false), r44.2))
else
some ((.bool false), r44.2))
else none)) : Option (Value × AH)) := by kernel_rfl
theorem r7 {base : Nat} {v0 : Option Addr} {v0n : Nat} {h : AH} {r : Value × AH} (hx :
((run (Et base) 32 [(.slice v0 v0n v0n)] h).bind fun r1 =>
((some r1.1).bind getB).bind fun b2 =>
(if b2 = true then
some ((.bool true), r1.2)
else
(run (Et base) 36 [(.slice v0 v0n v0n)] r1.2).bind fun r3 =>
(getTup 2 r3.1).bind fun l4 =>
((l4[0]?).bind getS).bind fun l5 =>
((l4[1]?).bind (getI .i64)).bind fun n6 =>
(run (Et base) 20 [(.slice l5.1 l5.2 l5.2), (.int .i64 n6)] r3.2).bind fun r7 =>
((some r7.1).bind getS).bind fun l8 =>
(run (Et base) 17 [(.slice l8.1 l8.2 l8.2), (.int .i64 ((l5.2 : Nat) : Int))] r7.2).bind fun r9 =>
(getTup 3 r9.1).bind fun l10 =>
((l10[0]?).bind (getI .i64)).bind fun n11 =>
((l10[1]?).bind (getI .i64)).bind fun n12 =>
((l10[2]?).bind getB).bind fun b13 =>
((if (decide (n6 > (1000000 : Int))) = true then
some (.inl ([some (.slice v0 v0n v0n), some (.slice l5.1 l5.2 l5.2), some (.int .i64 (1000000 : Int)), some (.slice l8.1 l8.2 l8.2), some (.int .i64 n11), some (.int .i64 n12), some (.bool b13)], r9.2))
else
some (.inl ([some (.slice v0 v0n v0n), some (.slice l5.1 l5.2 l5.2), some (.int .i64 n6), some (.slice l8.1 l8.2 l8.2), some (.int .i64 n11), some (.int .i64 n12), some (.bool b13)], r9.2)))).bind fun j14 => joinK j14 fun j14 =>
((sget j14.1 0).bind getS).bind fun l15 =>
((sget (j14.1.tail) 0).bind getS).bind fun l16 =>
((sget (j14.1.tail.tail) 0).bind (getI .i64)).bind fun n17 =>
((sget (j14.1.tail.tail.tail) 0).bind getS).bind fun l18 =>
((sget (j14.1.tail.tail.tail.tail) 0).bind (getI .i64)).bind fun n19 =>
((sget (j14.1.tail.tail.tail.tail.tail) 0).bind (getI .i64)).bind fun n20 =>
((sget (j14.1.tail.tail.tail.tail.tail.tail) 0).bind getB).bind fun b21 =>
((if (decide (n17 < (-1000000 : Int))) = true then
some (.inl ([some (.slice l15.1 l15.2 l15.2), some (.slice l16.1 l16.2 l16.2), some (.int .i64 (-1000000 : Int)), some (.slice l18.1 l18.2 l18.2), some (.int .i64 n19), some (.int .i64 n20), some (.bool b21)], j14.2))
else
some (.inl ([some (.slice l15.1 l15.2 l15.2), some (.slice l16.1 l16.2 l16.2), some (.int .i64 n17), some (.slice l18.1 l18.2 l18.2), some (.int .i64 n19), some (.int .i64 n20), some (.bool b21)], j14.2)))).bind fun j22 => joinK j22 fun j22 =>
((sget j22.1 0).bind getS).bind fun l23 =>
((sget (j22.1.tail) 0).bind getS).bind fun l24 =>
((sget (j22.1.tail.tail) 0).bind (getI .i64)).bind fun n25 =>
((sget (j22.1.tail.tail.tail) 0).bind getS).bind fun l26 =>
((sget (j22.1.tail.tail.tail.tail) 0).bind (getI .i64)).bind fun n27 =>
((sget (j22.1.tail.tail.tail.tail.tail) 0).bind (getI .i64)).bind fun n28 =>
((sget (j22.1.tail.tail.tail.tail.tail.tail) 0).bind getB).bind fun b29 =>
(if 0 ≤ (0 : Int) ∧ (0 : Int) ≤ (IntKind.wrap .i64 (((l26.2 : Nat) : Int) - (1 : Int))) ∧ (IntKind.wrap .i64 (((l26.2 : Nat) : Int) - (1 : Int))) ≤ ((l26.2 : Nat) : Int) ∧ okTy base j22.2 l26.1 5 (Int.toNat (0 : Int)) = true then
(run (Et base) 17 [(.slice (shiftA l26.1 (Int.toNat (0 : Int) * 1)) (Int.toNat (IntKind.wrap .i64 (((l26.2 : Nat) : Int) - (1 : Int))) - Int.toNat (0 : Int)) (Int.toNat (IntKind.wrap .i64 (((l26.2 : Nat) : Int) - (1 : Int))) - Int.toNat (0 : Int))), (.int .i64 ((l24.2 : Nat) : Int))] j22.2).bind fun r30 =>
(getTup 3 r30.1).bind fun l31 =>
((l31[0]?).bind (getI .i64)).bind fun n32 =>
((l31[1]?).bind (getI .i64)).bind fun n33 =>
((l31[2]?).bind getB).bind fun b34 =>
(run (Et base) 37 [(.slice l23.1 l23.2 l23.2)] r30.2).bind fun r35 =>
(getTup 2 r35.1).bind fun l36 =>
((l36[0]?).bind getS).bind fun l37 =>
((l36[1]?).bind (getI .i64)).bind fun n38 =>
(run (Et base) 17 [(.slice l37.1 l37.2 l37.2), (.int .i64 n38)] r35.2).bind fun r39 =>
(getTup 3 r39.1).bind fun l40 =>
((l40[0]?).bind (getI .i64)).bind fun n41 =>
((l40[1]?).bind (getI .i64)).bind fun n42 =>
((l40[2]?).bind getB).bind fun b43 =>
(run (Et base) 15 [(.slice l37.1 l37.2 l37.2), (.int .i64 n38)] r39.2).bind fun r44 =>
(getTup 3 r44.1).bind fun l45 =>
((l45[0]?).bind (getI .i64)).bind fun n46 =>
((l45[1]?).bind (getI .i64)).bind fun n47 =>
((l45[2]?).bind getB).bind fun b48 =>
(if b29 = true then
(if (n27 == n25) = true then
(if (n28 == ((l26.2 : Nat) : Int)) = true then
(if (!b34) = true then
(if (b43 == b48) = true then
(if (!b43) = true then
some ((.bool true), r44.2)
else
(some (r44.2 ++ [some ⟨[], 5⟩])).bind fun h49 =>
(run (Et base) 20 [(.slice (some ⟨(List.length r44.2), 0, none⟩) 0 0), (.int .i64 n41)] h49).bind fun r50 =>
((some r50.1).bind getS).bind fun l51 =>
(gate (neA l37.1 (List.length r44.2))
((gate (sameA h49 r50.2 l37.1 0)
((if 0 ≤ n38 ∧ n38 ≤ n42 ∧ n42 ≤ ((l37.2 : Nat) : Int) ∧ okTy base r50.2 l37.1 5 (Int.toNat n38) = true then
(run (Et base) 38 [(.slice l51.1 l51.2 l51.2), (.slice (shiftA l37.1 (Int.toNat n38 * 1)) (Int.toNat n42 - Int.toNat n38) (Int.toNat n42 - Int.toNat n38))] r50.2).bind fun r52 =>
((some r52.1).bind getB).bind fun b53 =>
some ((.bool b53), r52.2)
else none))))))
else
some ((.bool false), r44.2))
else
some ((.bool false), r44.2))
else
some ((.bool false), r44.2))
else
some ((.bool false), r44.2))
else
some ((.bool false), r44.2))
else none))) = some r) : run (Et base) 7 [(.slice v0 v0n v0n)] h = some r := run_i Try.func7 (by kernel_rfl) ((f7_eq base v0 v0n h).trans hx)
/-! spec.GetNum (gates 0) -/
noncomputable def B15_0 (base : Nat) : Body := fun l h => lay s15_0 l fun s => exCode (Et base) (run (Et base)) loopL a15_0 (subC [1, 1, 0, 1, 0, 0] (bodyC Try.f15)) s h (keepK s15_0 e15_0)
theorem B15_0_eq (base : Nat) (v0 : Option Addr) (v0n : Nat) (v1 : Int) (v7 : Int) (v8 : Int) (h : AH) : B15_0 base [some (.slice v0 v0n v0n), some (.int .i64 v1), some (.int .i64 v7), some (.int .i64 v8)] h =
(((if (decide (v8 < (4 : Int))) = true then
(if (decide (v1 ≥ (0 : Int))) = true then
(if (decide (v1 < ((v0n : Nat) : Int))) = true then
some (.inl ([some (.slice v0 v0n v0n), some (.int .i64 v1), some (.int .i64 v7), some (.int .i64 v8), some (.bool (decide ((IntKind.wrap .i64 (v1 + v8)) < ((v0n : Nat) : Int))))], h))
else
some (.inl ([some (.slice v0 v0n v0n), some (.int .i64 v1), some (.int .i64 v7), some (.int .i64 v8), some (.bool false)], h)))
else
some (.inl ([some (.slice v0 v0n v0n), some (.int .i64 v1), some (.int .i64 v7), some (.int .i64 v8), some (.bool false)], h)))
else
some (.inl ([some (.slice v0 v0n v0n), some (.int .i64 v1), some (.int .i64 v7), some (.int .i64 v8), some (.bool false)], h)))).bind fun j1 => joinK j1 fun j1 =>
((sget j1.1 0).bind getS).bind fun l2 =>
((sget (j1.1.tail) 0).bind (getI .i64)).bind fun n3 =>
((sget (j1.1.tail.tail) 0).bind (getI .i64)).bind fun n4 =>
((sget (j1.1.tail.tail.tail) 0).bind (getI .i64)).bind fun n5 =>
((sget (j1.1.tail.tail.tail.tail) 0).bind getB).bind fun b6 =>
(if b6 = true then
(if 0 ≤ (IntKind.wrap .i64 (n3 + n5)) ∧ (IntKind.wrap .i64 (n3 + n5)) < ((l2.2 : Nat) : Int) then
((l2.1 : Option Addr)).bind fun a7 =>
((cell j1.2 a7.block (a7.off + Int.toNat (IntKind.wrap .i64 (n3 + n5)) * 1)).bind (getI .u8)).bind fun n8 =>
(if (IntKind.wrap .u64 (IntKind.wrap .i64 ((7 : Int) * n5))) < 0 then none else
(if (decide ((IntKind.wrap .i64 n8) > (127 : Int))) = true then
some (0, [some (.slice l2.1 l2.2 l2.2), some (.int .i64 n3), some (.int .i64 (Go.bits .or .i64 n4 (IntKind.wrap .i64 ((Go.bits .and .i64 (IntKind.wrap .i64 n8) (127 : Int)) * 2 ^ min ((IntKind.wrap .u64 (IntKind.wrap .i64 ((7 : Int) * n5)))).toNat 64)))), some (.int .i64 (IntKind.wrap .i64 (n5 + (1 : Int))))], j1.2)
else
((if ((Go.bits .and .i64 (Go.bits .or .i64 n4 (IntKind.wrap .i64 ((Go.bits .and .i64 (IntKind.wrap .i64 n8) (127 : Int)) * 2 ^ min ((IntKind.wrap .u64 (IntKind.wrap .i64 ((7 : Int) * n5)))).toNat 64))) (1 : Int)) == (1 : Int)) = true then
some (.inl ([some (.int .i64 n3), some (.int .i64 n5), some (.int .i64 (IntKind.wrap .i64 n8)), some (.int .i64 (IntKind.wrap .i64 ((IntKind.wrap .i64 (0 - (Int.fdiv (Go.bits .or .i64 n4 (IntKind.wrap .i64 ((Go.bits .and .i64 (IntKind.wrap .i64 n8) (127 : Int)) * 2 ^ min ((IntKind.wrap .u64 (IntKind.wrap .i64 ((7 : Int) * n5)))).toNat 64))) (2 ^ min ((1 : Int)).toNat 64)))) - (1 : Int))))], j1.2))
else
some (.inl ([some (.int .i64 n3), some (.int .i64 n5), some (.int .i64 (IntKind.wrap .i64 n8)), some (.int .i64 (Int.fdiv (Go.bits .or .i64 n4 (IntKind.wrap .i64 ((Go.bits .and .i64 (IntKind.wrap .i64 n8) (127 : Int)) * 2 ^ min ((IntKind.wrap .u64 (IntKind.wrap .i64 ((7 : Int) * n5)))).toNat 64))) (2 ^ min ((1 : Int)).toNat 64)))], j1.2)))).bind fun j9 => joinK j9 fun j9 =>
((sget j9.1 0).bind (getI .i64)).bind fun n10 =>
((sget (j9.1.tail) 0).bind (getI .i64)).bind fun n11 =>
((sget (j9.1.tail.tail) 0).bind (getI .i64)).bind fun n12 =>
((sget (j9.1.tail.tail.tail) 0).bind (getI .i64)).bind fun n13 =>
((if (decide (n11 > (0 : Int))) = true then
(if (n12 == (0 : Int)) = true then
some (.inl ([some (.int .i64 n10), some (.int .i64 n11), some (.int .i64 n13), some (.bool true)], j9.2))
else
(run (Et base) 60 [(.int .i64 n13), (.int .i64 (-1000000 : Int)), (.int .i64 (1000000 : Int))] j9.2).bind fun r15 =>
((some r15.1).bind getB).bind fun b16 =>
some (.inl ([some (.int .i64 n10), some (.int .i64 n11), some (.int .i64 n13), some (.bool (!b16))], r15.2)))
else
(run (Et base) 60 [(.int .i64 n13), (.int .i64 (-1000000 : Int)), (.int .i64 (1000000 : Int))] j9.2).bind fun r17 =>
((some r17.1).bind getB).bind fun b18 =>
some (.inl ([some (.int .i64 n10), some (.int .i64 n11), some (.int .i64 n13), some (.bool (!b18))], r17.2)))).bind fun j14 => joinK j14 fun j14 =>
((sget j14.1 0).bind (getI .i64)).bind fun n19 =>
((sget (j14.1.tail) 0).bind (getI .i64)).bind fun n20 =>
((sget (j14.1.tail.tail) 0).bind (getI .i64)).bind fun n21 =>
((sget (j14.1.tail.tail.tail) 0).bind getB).bind fun b22 =>
(if b22 = true then
some (1, [some (.int .i64 (0 : Int)), some (.int .i64 (0 : Int)), some (.bool false)], j14.2)
else
some (1, [some (.int .i64 n21), some (.int .i64 (IntKind.wrap .i64 ((IntKind.wrap .i64 (n19 + n20)) + (1 : Int)))), some (.bool true)], j14.2))))
else none)
else
some (2, [], j1.2)) : Option (Nat × Slots × AH)) := by kernel_rfl
theorem f15_eq (base : Nat) (v0 : Option Addr) (v0n : Nat) (v1 : Int) (h : AH) : exFun (Et base) (run (Et base)) loopL a15 Try.f15 [(.slice v0 v0n v0n), (.int .i64 v1)] h =
((loopL (B15_0 base) [some (.slice v0 v0n v0n), some (.int .i64 v1), some (.int .i64 (0 : Int)), some (.int .i64 (0 : Int))] h).bind fun q1 =>
(if q1.1 = 1 then
((sget q1.2.1 0).bind (getI .i64)).bind fun n2 =>
((sget (q1.2.1.tail) 0).bind (getI .i64)).bind fun n3 =>
((sget (q1.2.1.tail.tail) 0).bind getB).bind fun b4 =>
some ((.tuple #[(.int .i64 n2), (.int .i64 n3), (.bool b4)]), q1.2.2)
else
(if q1.1 = 2 then
some ((.tuple #[(.int .i64 (0 : Int)), (.int .i64 (0 : Int)), (.bool false)]), q1.2.2)
else
none)) : Option (Value × AH)) := by kernel_rfl
theorem r15 {base : Nat} {v0 : Option Addr} {v0n : Nat} {v1 : Int} {h : AH} {r : Value × AH} (hx :
((loopL (B15_0 base) [some (.slice v0 v0n v0n), some (.int .i64 v1), some (.int .i64 (0 : Int)), some (.int .i64 (0 : Int))] h).bind fun q1 =>
(if q1.1 = 1 then
((sget q1.2.1 0).bind (getI .i64)).bind fun n2 =>
((sget (q1.2.1.tail) 0).bind (getI .i64)).bind fun n3 =>
((sget (q1.2.1.tail.tail) 0).bind getB).bind fun b4 =>
some ((.tuple #[(.int .i64 n2), (.int .i64 n3), (.bool b4)]), q1.2.2)
else
(if q1.1 = 2 then
some ((.tuple #[(.int .i64 (0 : Int)), (.int .i64 (0 : Int)), (.bool false)]), q1.2.2)
else
none))) = some r) : run (Et base) 15 [(.slice v0 v0n v0n), (.int .i64 v1)] h = some r := run_i Try.func15 (by kernel_rfl) ((f15_eq base v0 v0n v1 h).trans hx)
/-! impl.GetNum (gates 0) -/
noncomputable def B17_0 (base : Nat) : Body := fun l h => lay s17_0 l fun s => exCode (Et base) (run (Et base)) loopL a17_0 (subC [1, 1, 0, 1, 0, 0] (bodyC Try.f17)) s h (keepK s17_0 e17_0)
theorem B17_0_eq (base : Nat) (v0 : Option Addr) (v0n : Nat) (v1 : Int) (v7 : Int) (v8 : Int) (h : AH) : B17_0 base [some (.slice v0 v0n v0n), some (.int .i64 v1), some (.int .i64 v7), some (.int .i64 v8)] h =
(((if (decide (v8 < (4 : Int))) = true then
(if (decide (v1 ≥ (0 : Int))) = true then
some (.inl ([some (.slice v0 v0n v0n), some (.int .i64 v1), some (.int .i64 v7), some (.int .i64 v8), some (.bool (decide (v1 < (IntKind.wrap .i64 (((v0n : Nat) : Int) - v8)))))], h))
else
some (.inl ([some (.slice v0 v0n v0n), some (.int .i64 v1), some (.int .i64 v7), some (.int .i64 v8), some (.bool false)], h)))
else
some (.inl ([some (.slice v0 v0n v0n), some (.int .i64 v1), some (.int .i64 v7), some (.int .i64 v8), some (.bool false)], h)))).bind fun j1 => joinK j1 fun j1 =>
((sget j1.1 0).bind getS).bind fun l2 =>
((sget (j1.1.tail) 0).bind (getI .i64)).bind fun n3 =>
((sget (j1.1.tail.tail) 0).bind (getI .i64)).bind fun n4 =>
((sget (j1.1.tail.tail.tail) 0).bind (getI .i64)).bind fun n5 =>
((sget (j1.1.tail.tail.tail.tail) 0).bind getB).bind fun b6 =>
(if b6 = true then
(if 0 ≤ (IntKind.wrap .i64 (n3 + n5)) ∧ (IntKind.wrap .i64 (n3 + n5)) < ((l2.2 : Nat) : Int) then
((l2.1 : Option Addr)).bind fun a7 =>
((cell j1.2 a7.block (a7.off + Int.toNat (IntKind.wrap .i64 (n3 + n5)) * 1)).bind (getI .u8)).bind fun n8 =>
(if (IntKind.wrap .i64 ((7 : Int) * n5)) < 0 then none else
(if (decide ((IntKind.wrap .i64 n8) ≥ (128 : Int))) = true then
some (0, [some (.slice l2.1 l2.2 l2.2), some (.int .i64 n3), some (.int .i64 (IntKind.wrap .i64 (n4 + (IntKind.wrap .i64 ((Int.tmod (IntKind.wrap .i64 n8) (128 : Int)) * 2 ^ min ((IntKind.wrap .i64 ((7 : Int) * n5))).toNat 64))))), some (.int .i64 (IntKind.wrap .i64 (n5 + (1 : Int))))], j1.2)
else
((if ((Int.tmod (IntKind.wrap .i64 (n4 + (IntKind.wrap .i64 ((Int.tmod (IntKind.wrap .i64 n8) (128 : Int)) * 2 ^ min ((IntKind.wrap .i64 ((7 : Int) * n5))).toNat 64)))) (2 : Int)) == (1 : Int)) = true then
some (.inl ([some (.int .i64 n3), some (.int .i64 n5), some (.int .i64 (IntKind.wrap .i64 n8)), some (.int .i64 (IntKind.wrap .i64 (Int.tdiv (IntKind.wrap .i64 (0 - (IntKind.wrap .i64 ((IntKind.wrap .i64 (n4 + (IntKind.wrap .i64 ((Int.tmod (IntKind.wrap .i64 n8) (128 : Int)) * 2 ^ min ((IntKind.wrap .i64 ((7 : Int) * n5))).toNat 64)))) + (1 : Int))))) (2 : Int))))], j1.2))
else
some (.inl ([some (.int .i64 n3), some (.int .i64 n5), some (.int .i64 (IntKind.wrap .i64 n8)), some (.int .i64 (IntKind.wrap .i64 (Int.tdiv (IntKind.wrap .i64 (n4 + (IntKind.wrap .i64 ((Int.tmod (IntKind.wrap .i64 n8) (128 : Int)) * 2 ^ min ((IntKind.wrap .i64 ((7 : Int) * n5))).toNat 64)))) (2 : Int))))], j1.2)))).bind fun j9 => joinK j9 fun j9 =>
((sget j9.1 0).bind (getI .i64)).bind fun n10 =>
((sget (j9.1.tail) 0).bind (getI .i64)).bind fun n11 =>
((sget (j9.1.tail.tail) 0).bind (getI .i64)).bind fun n12 =>
((sget (j9.1.tail.tail.tail) 0).bind (getI .i64)).bind fun n13 =>
((if (n12 == (0 : Int)) = true then
(if (decide (n11 > (0 : Int))) = true then
some (.inl ([some (.int .i64 n10), some (.int .i64 n11), some (.int .i64 n13), some (.bool true)], j9.2))
else
(run (Et base) 61 [(.int .i64 n13), (.int .i64 (-1000000 : Int)), (.int .i64 (1000000 : Int))] j9.2).bind fun r15 =>
((some r15.1).bind getB).bind fun b16 =>
some (.inl ([some (.int .i64 n10), some (.int .i64 n11), some (.int .i64 n13), some (.bool (!b16))], r15.2)))
else
(run (Et base) 61 [(.int .i64 n13), (.int .i64 (-1000000 : Int)), (.int .i64 (1000000 : Int))] j9.2).bind fun r17 =>
((some r17.1).bind getB).bind fun b18 =>
some (.inl ([some (.int .i64 n10), some (.int .i64 n11), some (.int .i64 n13), some (.bool (!b18))], r17.2)))).bind fun j14 => joinK j14 fun j14 =>
((sget j14.1 0).bind (getI .i64)).bind fun n19 =>
((sget (j14.1.tail) 0).bind (getI .i64)).bind fun n20 =>
((sget (j14.1.tail.tail) 0).bind (getI .i64)).bind fun n21 =>
((sget (j14.1.tail.tail.tail) 0).bind getB).bind fun b22 =>
(if b22 = true then
some (1, [some (.int .i64 (0 : Int)), some (.int .i64 (0 : Int)), some (.bool false)], j14.2)
else
some (1, [some (.int .i64 n21), some (.int .i64 (IntKind.wrap .i64 ((IntKind.wrap .i64 (n19 + n20)) + (1 : Int)))), some (.bool true)], j14.2))))
else none)
else
some (2, [], j1.2)) : Option (Nat × Slots × AH)) := by kernel_rfl
theorem f17_eq (base : Nat) (v0 : Option Addr) (v0n : Nat) (v1 : Int) (h : AH) : exFun (Et base) (run (Et base)) loopL a17 Try.f17 [(.slice v0 v0n v0n), (.int .i64 v1)] h =
((loopL (B17_0 base) [some (.slice v0 v0n v0n), some (.int .i64 v1), some (.int .i64 (0 : Int)), some (.int .i64 (0 : Int))] h).bind fun q1 =>
(if q1.1 = 1 then
((sget q1.2.1 0).bind (getI .i64)).bind fun n2 =>
((sget (q1.2.1.tail) 0).bind (getI .i64)).bind fun n3 =>
((sget (q1.2.1.tail.tail) 0).bind getB).bind fun b4 =>
some ((.tuple #[(.int .i64 n2), (.int .i64 n3), (.bool b4)]), q1.2.2)
else
(if q1.1 = 2 then
some ((.tuple #[(.int .i64 (0 : Int)), (.int .i64 (0 : Int)), (.bool false)]), q1.2.2)
else
none)) : Option (Value × AH)) := by kernel_rfl
theorem r17 {base : Nat} {v0 : Option Addr} {v0n : Nat} {v1 : Int} {h : AH} {r : Value × AH} (hx :
((loopL (B17_0 base) [some (.slice v0 v0n v0n), some (.int .i64 v1), some (.int .i64 (0 : Int)), some (.int .i64 (0 : Int))] h).bind fun q1 =>
(if q1.1 = 1 then
((sget q1.2.1 0).bind (getI .i64)).bind fun n2 =>
((sget (q1.2.1.tail) 0).bind (getI .i64)).bind fun n3 =>
((sget (q1.2.1.tail.tail) 0).bind getB).bind fun b4 =>
some ((.tuple #[(.int .i64 n2), (.int .i64 n3), (.bool b4)]), q1.2.2)
else
(if q1.1 = 2 then
some ((.tuple #[(.int .i64 (0 : Int)), (.int .i64 (0 : Int)), (.bool false)]), q1.2.2)
else
none))) = some r) : run (Et base) 17 [(.slice v0 v0n v0n), (.int .i64 v1)] h = some r := run_i Try.func17 (by kernel_rfl) ((f17_eq base v0 v0n v1 h).trans hx)
/-! laws.FnExactGetNum (gates 0) -/
theorem f3_eq (base : Nat) (v0 : Option Addr) (v0n : Nat) (v1 : Int) (h : AH) : exFun (Et base) (run (Et base)) loopL a3 Try.f3 [(.slice v0 v0n v0n), (.int .i64 v1)] h =
((if (decide (((v0n : Nat) : Int) > (1048576 : Int))) = true then
some ((.bool true), h)
else
(run (Et base) 16 [(.slice v0 v0n v0n)] h).bind fun r1 =>
((some r1.1).bind getS).bind fun l2 =>
(run (Et base) 15 [(.slice l2.1 l2.2 l2.2), (.int .i64 v1)] r1.2).bind fun r3 =>
(getTup 3 r3.1).bind fun l4 =>
((l4[0]?).bind (getI .i64)).bind fun n5 =>
((l4[1]?).bind (getI .i64)).bind fun n6 =>
((l4[2]?).bind getB).bind fun b7 =>
(run (Et base) 16 [(.slice v0 v0n v0n)] r3.2).bind fun r8 =>
((some r8.1).bind getS).bind fun l9 =>
(run (Et base) 17 [(.slice l9.1 l9.2 l9.2), (.int .i64 v1)] r8.2).bind fun r10 =>
(getTup 3 r10.1).bind fun l11 =>
((l11[0]?).bind (getI .i64)).bind fun n12 =>
((l11[1]?).bind (getI .i64)).bind fun n13 =>
((l11[2]?).bind getB).bind fun b14 =>
((if (n12 != n5) = true then
some (.inl ([some (.slice v0 v0n v0n), some (.slice l9.1 l9.2 l9.2), some (.bool true)], r10.2))
else
(if (n13 != n6) = true then
some (.inl ([some (.slice v0 v0n v0n), some (.slice l9.1 l9.2 l9.2), some (.bool true)], r10.2))
else
some (.inl ([some (.slice v0 v0n v0n), some (.slice l9.1 l9.2 l9.2), some (.bool (!(b14 == b7)))], r10.2))))).bind fun j15 => joinK j15 fun j15 =>
((sget j15.1 0).bind getS).bind fun l16 =>
((sget (j15.1.tail) 0).bind getS).bind fun l17 =>
((sget (j15.1.tail.tail) 0).bind getB).bind fun b18 =>
(if b18 = true then
some ((.bool false), j15.2)
else
(run (Et base) 16 [(.slice l16.1 l16.2 l16.2)] j15.2).bind fun r19 =>
((some r19.1).bind getS).bind fun l20 =>
(run (Et base) 18 [(.slice l17.1 l17.2 l17.2), (.slice l20.1 l20.2 l20.2)] r19.2).bind fun r21 =>
((some r21.1).bind getB).bind fun b22 =>
(if (!b22) = true then
some ((.bool false), r21.2)
else
some ((.bool true), r21.2)))) : Option (Value × AH)) := by kernel_rfl
theorem r3 {base : Nat} {v0 : Option Addr} {v0n : Nat} {v1 : Int} {h : AH} {r : Value × AH} (hx :
((if (decide (((v0n : Nat) : Int) > (1048576 : Int))) = true then
some ((.bool true), h)
else
(run (Et base) 16 [(.slice v0 v0n v0n)] h).bind fun r1 =>
((some r1.1).bind getS).bind fun l2 =>
(run (Et base) 15 [(.slice l2.1 l2.2 l2.2), (.int .i64 v1)] r1.2).bind fun r3 =>
(getTup 3 r3.1).bind fun l4 =>
((l4[0]?).bind (getI .i64)).bind fun n5 =>
((l4[1]?).bind (getI .i64)).bind fun n6 =>
((l4[2]?).bind getB).bind fun b7 =>
(run (Et base) 16 [(.slice v0 v0n v0n)] r3.2).bind fun r8 =>
((some r8.1).bind getS).bind fun l9 =>
(run (Et base) 17 [(.slice l9.1 l9.2 l9.2), (.int .i64 v1)] r8.2).bind fun r10 =>
(getTup 3 r10.1).bind fun l11 =>
((l11[0]?).bind (getI .i64)).bind fun n12 =>
((l11[1]?).bind (getI .i64)).bind fun n13 =>
((l11[2]?).bind getB).bind fun b14 =>
((if (n12 != n5) = true then
some (.inl ([some (.slice v0 v0n v0n), some (.slice l9.1 l9.2 l9.2), some (.bool true)], r10.2))
else
(if (n13 != n6) = true then
some (.inl ([some (.slice v0 v0n v0n), some (.slice l9.1 l9.2 l9.2), some (.bool true)], r10.2))
else
some (.inl ([some (.slice v0 v0n v0n), some (.slice l9.1 l9.2 l9.2), some (.bool (!(b14 == b7)))], r10.2))))).bind fun j15 => joinK j15 fun j15 =>
((sget j15.1 0).bind getS).bind fun l16 =>
((sget (j15.1.tail) 0).bind getS).bind fun l17 =>
((sget (j15.1.tail.tail) 0).bind getB).bind fun b18 =>
(if b18 = true then
some ((.bool false), j15.2)
else
(run (Et base) 16 [(.slice l16.1 l16.2 l16.2)] j15.2).bind fun r19 =>
((some r19.1).bind getS).bind fun l20 =>
(run (Et base) 18 [(.slice l17.1 l17.2 l17.2), (.slice l20.1 l20.2 l20.2)] r19.2).bind fun r21 =>
((some r21.1).bind getB).bind fun b22 =>
(if (!b22) = true then
some ((.bool false), r21.2)
else
some ((.bool true), r21.2))))) = some r) : run (Et base) 3 [(.slice v0 v0n v0n), (.int .i64 v1)] h = some r := run_i Try.func3 (by kernel_rfl) ((f3_eq base v0 v0n v1 h).trans hx)
end Go.Proofs.Ytgigdaijailfkaa.Am
