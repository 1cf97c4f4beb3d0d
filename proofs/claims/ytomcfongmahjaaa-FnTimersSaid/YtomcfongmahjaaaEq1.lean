/- What each of these functions comes to on the abstract machine, one equation a function and one a loop.
Conditions: none. -/
import Derived.Test.YtomcfongmahjaaaTb
set_option linter.unusedVariables false
namespace Go.Proofs.Ytomcfongmahjaaa.Am
open Go Go.RowKit
/-! laws.FnTimers (gates 0) -/
noncomputable def B3_1 (base : Nat) : Body := fun l h => lay s3_1 l fun s => exCode (Et base) (run (Et base)) loopL a3_1 (subC [1, 1, 1, 1, 1, 1, 1, 1, 1, 0, 1, 0, 0] (bodyC Try.f3)) s h (keepK s3_1 e3_1)
noncomputable def B3_0 (base : Nat) : Body := fun l h => lay s3_0 l fun s => exCode (Et base) (run (Et base)) loopL a3_0 (subC [1, 1, 1, 1, 1, 1, 1, 0, 0, 0] (bodyC Try.f3)) s h (keepK s3_0 e3_0)
theorem B3_1_eq (base : Nat) (v3 : Option Addr) (v3n : Nat) (v5 : Option Addr) (v5n : Nat) (v9 : Int) (v10 : Int) (h : AH) : B3_1 base [some (.slice v3 v3n v3n), some (.slice v5 v5n v5n), some (.int .i64 v9), some (.int .i64 v10)] h =
((if (decide (v10 < ((v3n : Nat) : Int))) = true then
((if (decide (v10 ≥ v9)) = true then
some (.inl ([some (.slice v3 v3n v3n), some (.slice v5 v5n v5n), some (.int .i64 v9), some (.int .i64 v10), some (.int .i64 (IntKind.wrap .i64 (v10 + (1 : Int))))], h))
else
some (.inl ([some (.slice v3 v3n v3n), some (.slice v5 v5n v5n), some (.int .i64 v9), some (.int .i64 v10), some (.int .i64 v10)], h)))).bind fun j1 => joinK j1 fun j1 =>
((sget j1.1 0).bind getS).bind fun l2 =>
((sget (j1.1.tail) 0).bind getS).bind fun l3 =>
((sget (j1.1.tail.tail) 0).bind (getI .i64)).bind fun n4 =>
((sget (j1.1.tail.tail.tail) 0).bind (getI .i64)).bind fun n5 =>
((sget (j1.1.tail.tail.tail.tail) 0).bind (getI .i64)).bind fun n6 =>
((if 0 ≤ n6 ∧ n6 < ((l3.2 : Nat) : Int) then
((l3.1 : Option Addr)).bind fun a8 =>
((cell j1.2 a8.block ((a8.off + Int.toNat n6 * 6) + 0)).bind (getI .i64)).bind fun n9 =>
(if 0 ≤ n5 ∧ n5 < ((l2.2 : Nat) : Int) then
((l2.1 : Option Addr)).bind fun a10 =>
((cell j1.2 a10.block ((a10.off + Int.toNat n5 * 6) + 0)).bind (getI .i64)).bind fun n11 =>
(if (n9 != n11) = true then
some (.inl ([some (.slice l2.1 l2.2 l2.2), some (.slice l3.1 l3.2 l3.2), some (.int .i64 n4), some (.int .i64 n5), some (.bool true)], j1.2))
else
(if 0 ≤ n6 ∧ n6 < ((l3.2 : Nat) : Int) then
((l3.1 : Option Addr)).bind fun a12 =>
((cell j1.2 a12.block ((a12.off + Int.toNat n6 * 6) + 1)).bind (getI .i64)).bind fun n13 =>
(if 0 ≤ n5 ∧ n5 < ((l2.2 : Nat) : Int) then
((l2.1 : Option Addr)).bind fun a14 =>
((cell j1.2 a14.block ((a14.off + Int.toNat n5 * 6) + 1)).bind (getI .i64)).bind fun n15 =>
(if (n13 != n15) = true then
some (.inl ([some (.slice l2.1 l2.2 l2.2), some (.slice l3.1 l3.2 l3.2), some (.int .i64 n4), some (.int .i64 n5), some (.bool true)], j1.2))
else
(if 0 ≤ n6 ∧ n6 < ((l3.2 : Nat) : Int) then
((l3.1 : Option Addr)).bind fun a16 =>
((cell j1.2 a16.block ((a16.off + Int.toNat n6 * 6) + 2)).bind (getI .i64)).bind fun n17 =>
((cell j1.2 a16.block (((a16.off + Int.toNat n6 * 6) + 2) + 1)).bind (getI .i64)).bind fun n18 =>
((cell j1.2 a16.block ((((a16.off + Int.toNat n6 * 6) + 2) + 1) + 1)).bind getStr).bind fun s19 =>
((cell j1.2 a16.block (((((a16.off + Int.toNat n6 * 6) + 2) + 1) + 1) + 1)).bind getS).bind fun l20 =>
(if 0 ≤ n5 ∧ n5 < ((l2.2 : Nat) : Int) then
((l2.1 : Option Addr)).bind fun a21 =>
((cell j1.2 a21.block ((a21.off + Int.toNat n5 * 6) + 2)).bind (getI .i64)).bind fun n22 =>
((cell j1.2 a21.block (((a21.off + Int.toNat n5 * 6) + 2) + 1)).bind (getI .i64)).bind fun n23 =>
((cell j1.2 a21.block ((((a21.off + Int.toNat n5 * 6) + 2) + 1) + 1)).bind getStr).bind fun s24 =>
((cell j1.2 a21.block (((((a21.off + Int.toNat n5 * 6) + 2) + 1) + 1) + 1)).bind getS).bind fun l25 =>
(run (Et base) 9 [(.agg #[(.int .i64 n17), (.int .i64 n18), (.string s19), (.slice l20.1 l20.2 l20.2)]), (.agg #[(.int .i64 n22), (.int .i64 n23), (.string s24), (.slice l25.1 l25.2 l25.2)])] j1.2).bind fun r26 =>
((some r26.1).bind getB).bind fun b27 =>
some (.inl ([some (.slice l2.1 l2.2 l2.2), some (.slice l3.1 l3.2 l3.2), some (.int .i64 n4), some (.int .i64 n5), some (.bool (!b27))], r26.2))
else none)
else none))
else none)
else none))
else none)
else none)).bind fun j7 => joinK j7 fun j7 =>
((sget j7.1 0).bind getS).bind fun l28 =>
((sget (j7.1.tail) 0).bind getS).bind fun l29 =>
((sget (j7.1.tail.tail) 0).bind (getI .i64)).bind fun n30 =>
((sget (j7.1.tail.tail.tail) 0).bind (getI .i64)).bind fun n31 =>
((sget (j7.1.tail.tail.tail.tail) 0).bind getB).bind fun b32 =>
(if b32 = true then
some (1, [some (.bool false)], j7.2)
else
some (0, [some (.slice l28.1 l28.2 l28.2), some (.slice l29.1 l29.2 l29.2), some (.int .i64 n30), some (.int .i64 (IntKind.wrap .i64 (n31 + (1 : Int))))], j7.2))
else
some (4, [], h)) : Option (Nat × Slots × AH)) := by kernel_rfl
theorem B3_0_eq (base : Nat) (v3 : Option Addr) (v3n : Nat) (v4 : Addr) (v5 : Option Addr) (v5n : Nat) (v9 : Int) (h : AH) : B3_0 base [some (.slice v3 v3n v3n), some (.pointer (some v4)), some (.slice v5 v5n v5n), some (.int .i64 v9)] h =
(((if (decide (v9 < ((v3n : Nat) : Int))) = true then
(if 0 ≤ v9 ∧ v9 < ((v3n : Nat) : Int) then
((v3 : Option Addr)).bind fun a2 =>
((cell h a2.block ((a2.off + Int.toNat v9 * 6) + 0)).bind (getI .i64)).bind fun n3 =>
((cell h v4.block (v4.off + 0)).bind (getI .i64)).bind fun n4 =>
some (.inl ([some (.slice v3 v3n v3n), some (.pointer (some v4)), some (.slice v5 v5n v5n), some (.int .i64 v9), some (.bool (decide (n3 ≤ n4)))], h))
else none)
else
some (.inl ([some (.slice v3 v3n v3n), some (.pointer (some v4)), some (.slice v5 v5n v5n), some (.int .i64 v9), some (.bool false)], h)))).bind fun j1 => joinK j1 fun j1 =>
((sget j1.1 0).bind getS).bind fun l5 =>
((sget (j1.1.tail) 0).bind getA).bind fun d6 =>
((sget (j1.1.tail.tail) 0).bind getS).bind fun l7 =>
((sget (j1.1.tail.tail.tail) 0).bind (getI .i64)).bind fun n8 =>
((sget (j1.1.tail.tail.tail.tail) 0).bind getB).bind fun b9 =>
(if b9 = true then
some (0, [some (.slice l5.1 l5.2 l5.2), some (.pointer (some d6)), some (.slice l7.1 l7.2 l7.2), some (.int .i64 (IntKind.wrap .i64 (n8 + (1 : Int))))], j1.2)
else
some (2, [some (.slice l5.1 l5.2 l5.2), some (.pointer (some d6)), some (.slice l7.1 l7.2 l7.2), some (.int .i64 n8)], j1.2)) : Option (Nat × Slots × AH)) := by kernel_rfl
theorem f3_eq (base : Nat) (v0 : Option Addr) (v0n : Nat) (h : AH) : exFun (Et base) (run (Et base)) loopL a3 Try.f3 [(.slice v0 v0n v0n)] h =
((run (Et base) 5 [(.slice v0 v0n v0n)] h).bind fun r1 =>
((some r1.1).bind getB).bind fun b2 =>
(if b2 = true then
some ((.bool true), r1.2)
else
(run (Et base) 6 [(.slice v0 v0n v0n)] r1.2).bind fun r3 =>
(getTup 2 r3.1).bind fun l4 =>
((l4[0]?).bind getS).bind fun l5 =>
((l4[1]?).bind (getAgg 6)).bind fun l6 =>
((l6[0]?).bind (getI .i64)).bind fun n7 =>
((l6[1]?).bind (getI .i64)).bind fun n8 =>
((l6[2]?).bind (getI .i64)).bind fun n9 =>
((l6[3]?).bind (getI .i64)).bind fun n10 =>
((l6[4]?).bind getStr).bind fun s11 =>
((l6[5]?).bind getS).bind fun l12 =>
(some (r3.2 ++ [some ⟨[(.int .i64 0), (.int .i64 0), (.int .i64 0), (.int .i64 0), (.string ⟨#[]⟩), (.slice none 0 0)], 29⟩])).bind fun h13 =>
(wr base h13 (List.length r3.2) 0 [(.int .i64 n7), (.int .i64 n8), (.int .i64 n9), (.int .i64 n10), (.string s11), (.slice l12.1 l12.2 l12.2)]).bind fun h14 =>
((cell h14 (List.length r3.2) 0).bind (getI .i64)).bind fun n15 =>
((cell h14 (List.length r3.2) 1).bind (getI .i64)).bind fun n16 =>
((cell h14 (List.length r3.2) 2).bind (getI .i64)).bind fun n17 =>
((cell h14 (List.length r3.2) 3).bind (getI .i64)).bind fun n18 =>
((cell h14 (List.length r3.2) 4).bind getStr).bind fun s19 =>
((cell h14 (List.length r3.2) 5).bind getS).bind fun l20 =>
(run (Et base) 7 [(.slice l5.1 l5.2 l5.2), (.agg #[(.int .i64 n15), (.int .i64 n16), (.int .i64 n17), (.int .i64 n18), (.string s19), (.slice l20.1 l20.2 l20.2)])] h14).bind fun r21 =>
(getTup 2 r21.1).bind fun l22 =>
((l22[0]?).bind getS).bind fun l23 =>
((l22[1]?).bind getB).bind fun b24 =>
((cell r21.2 (List.length r3.2) 0).bind (getI .i64)).bind fun n25 =>
((cell r21.2 (List.length r3.2) 1).bind (getI .i64)).bind fun n26 =>
((cell r21.2 (List.length r3.2) 2).bind (getI .i64)).bind fun n27 =>
((cell r21.2 (List.length r3.2) 3).bind (getI .i64)).bind fun n28 =>
((cell r21.2 (List.length r3.2) 4).bind getStr).bind fun s29 =>
((cell r21.2 (List.length r3.2) 5).bind getS).bind fun l30 =>
(run (Et base) 8 [(.slice l5.1 l5.2 l5.2), (.agg #[(.int .i64 n25), (.int .i64 n26), (.int .i64 n27), (.int .i64 n28), (.string s29), (.slice l30.1 l30.2 l30.2)])] r21.2).bind fun r31 =>
(getTup 2 r31.1).bind fun l32 =>
((l32[0]?).bind getS).bind fun l33 =>
((l32[1]?).bind getB).bind fun b34 =>
((if (!(b24 == b34)) = true then
some (.inl ([some (.slice l5.1 l5.2 l5.2), some (.pointer (some ⟨(List.length r3.2), 0, none⟩)), some (.slice l23.1 l23.2 l23.2), some (.bool b24), some (.bool b34), some (.bool true)], r31.2))
else
some (.inl ([some (.slice l5.1 l5.2 l5.2), some (.pointer (some ⟨(List.length r3.2), 0, none⟩)), some (.slice l23.1 l23.2 l23.2), some (.bool b24), some (.bool b34), some (.bool (!b24))], r31.2)))).bind fun j35 => joinK j35 fun j35 =>
((sget j35.1 0).bind getS).bind fun l36 =>
((sget (j35.1.tail) 0).bind getA).bind fun d37 =>
((sget (j35.1.tail.tail) 0).bind getS).bind fun l38 =>
((sget (j35.1.tail.tail.tail) 0).bind getB).bind fun b39 =>
((sget (j35.1.tail.tail.tail.tail) 0).bind getB).bind fun b40 =>
((sget (j35.1.tail.tail.tail.tail.tail) 0).bind getB).bind fun b41 =>
(if b41 = true then
(if (b39 == b40) = true then
some ((.bool (((l38.2 : Nat) : Int) == ((l36.2 : Nat) : Int))), j35.2)
else
some ((.bool false), j35.2))
else
(loopL (B3_0 base) [some (.slice l36.1 l36.2 l36.2), some (.pointer (some d37)), some (.slice l38.1 l38.2 l38.2), some (.int .i64 (0 : Int))] j35.2).bind fun q42 =>
(if q42.1 = 2 then
((sget q42.2.1 0).bind getS).bind fun l43 =>
((sget (q42.2.1.tail) 0).bind getA).bind fun d44 =>
((sget (q42.2.1.tail.tail) 0).bind getS).bind fun l45 =>
((sget (q42.2.1.tail.tail.tail) 0).bind (getI .i64)).bind fun n46 =>
((if (((l45.2 : Nat) : Int) != (IntKind.wrap .i64 (((l43.2 : Nat) : Int) + (1 : Int)))) = true then
some (.inl ([some (.slice l43.1 l43.2 l43.2), some (.slice l45.1 l45.2 l45.2), some (.int .i64 n46), some (.bool true)], q42.2.2))
else
(if 0 ≤ n46 ∧ n46 < ((l45.2 : Nat) : Int) then
((l45.1 : Option Addr)).bind fun a48 =>
((cell q42.2.2 a48.block ((a48.off + Int.toNat n46 * 6) + 0)).bind (getI .i64)).bind fun n49 =>
((cell q42.2.2 d44.block (d44.off + 0)).bind (getI .i64)).bind fun n50 =>
(if (n49 != n50) = true then
some (.inl ([some (.slice l43.1 l43.2 l43.2), some (.slice l45.1 l45.2 l45.2), some (.int .i64 n46), some (.bool true)], q42.2.2))
else
(if 0 ≤ n46 ∧ n46 < ((l45.2 : Nat) : Int) then
((l45.1 : Option Addr)).bind fun a51 =>
((cell q42.2.2 a51.block ((a51.off + Int.toNat n46 * 6) + 1)).bind (getI .i64)).bind fun n52 =>
((cell q42.2.2 d44.block (d44.off + 1)).bind (getI .i64)).bind fun n53 =>
(if (n52 != n53) = true then
some (.inl ([some (.slice l43.1 l43.2 l43.2), some (.slice l45.1 l45.2 l45.2), some (.int .i64 n46), some (.bool true)], q42.2.2))
else
(if 0 ≤ n46 ∧ n46 < ((l45.2 : Nat) : Int) then
((l45.1 : Option Addr)).bind fun a54 =>
((cell q42.2.2 a54.block ((a54.off + Int.toNat n46 * 6) + 2)).bind (getI .i64)).bind fun n55 =>
((cell q42.2.2 a54.block (((a54.off + Int.toNat n46 * 6) + 2) + 1)).bind (getI .i64)).bind fun n56 =>
((cell q42.2.2 a54.block ((((a54.off + Int.toNat n46 * 6) + 2) + 1) + 1)).bind getStr).bind fun s57 =>
((cell q42.2.2 a54.block (((((a54.off + Int.toNat n46 * 6) + 2) + 1) + 1) + 1)).bind getS).bind fun l58 =>
((cell q42.2.2 d44.block (d44.off + 2)).bind (getI .i64)).bind fun n59 =>
((cell q42.2.2 d44.block ((d44.off + 2) + 1)).bind (getI .i64)).bind fun n60 =>
((cell q42.2.2 d44.block (((d44.off + 2) + 1) + 1)).bind getStr).bind fun s61 =>
((cell q42.2.2 d44.block ((((d44.off + 2) + 1) + 1) + 1)).bind getS).bind fun l62 =>
(run (Et base) 9 [(.agg #[(.int .i64 n55), (.int .i64 n56), (.string s57), (.slice l58.1 l58.2 l58.2)]), (.agg #[(.int .i64 n59), (.int .i64 n60), (.string s61), (.slice l62.1 l62.2 l62.2)])] q42.2.2).bind fun r63 =>
((some r63.1).bind getB).bind fun b64 =>
(if (!b64) = true then
some (.inl ([some (.slice l43.1 l43.2 l43.2), some (.slice l45.1 l45.2 l45.2), some (.int .i64 n46), some (.bool true)], r63.2))
else
(run (Et base) 10 [(.slice l45.1 l45.2 l45.2)] r63.2).bind fun r65 =>
((some r65.1).bind getB).bind fun b66 =>
some (.inl ([some (.slice l43.1 l43.2 l43.2), some (.slice l45.1 l45.2 l45.2), some (.int .i64 n46), some (.bool (!b66))], r65.2)))
else none))
else none))
else none))).bind fun j47 => joinK j47 fun j47 =>
((sget j47.1 0).bind getS).bind fun l67 =>
((sget (j47.1.tail) 0).bind getS).bind fun l68 =>
((sget (j47.1.tail.tail) 0).bind (getI .i64)).bind fun n69 =>
((sget (j47.1.tail.tail.tail) 0).bind getB).bind fun b70 =>
(if b70 = true then
some ((.bool false), j47.2)
else
(loopL (B3_1 base) [some (.slice l67.1 l67.2 l67.2), some (.slice l68.1 l68.2 l68.2), some (.int .i64 n69), some (.int .i64 (0 : Int))] j47.2).bind fun q71 =>
(if q71.1 = 1 then
((sget q71.2.1 0).bind getB).bind fun b72 =>
some ((.bool b72), q71.2.2)
else
(if q71.1 = 4 then
some ((.bool true), q71.2.2)
else
none)))
else
none))) : Option (Value × AH)) := by kernel_rfl
theorem r3 {base : Nat} {v0 : Option Addr} {v0n : Nat} {h : AH} {r : Value × AH} (hx :
((run (Et base) 5 [(.slice v0 v0n v0n)] h).bind fun r1 =>
((some r1.1).bind getB).bind fun b2 =>
(if b2 = true then
some ((.bool true), r1.2)
else
(run (Et base) 6 [(.slice v0 v0n v0n)] r1.2).bind fun r3 =>
(getTup 2 r3.1).bind fun l4 =>
((l4[0]?).bind getS).bind fun l5 =>
((l4[1]?).bind (getAgg 6)).bind fun l6 =>
((l6[0]?).bind (getI .i64)).bind fun n7 =>
((l6[1]?).bind (getI .i64)).bind fun n8 =>
((l6[2]?).bind (getI .i64)).bind fun n9 =>
((l6[3]?).bind (getI .i64)).bind fun n10 =>
((l6[4]?).bind getStr).bind fun s11 =>
((l6[5]?).bind getS).bind fun l12 =>
(some (r3.2 ++ [some ⟨[(.int .i64 0), (.int .i64 0), (.int .i64 0), (.int .i64 0), (.string ⟨#[]⟩), (.slice none 0 0)], 29⟩])).bind fun h13 =>
(wr base h13 (List.length r3.2) 0 [(.int .i64 n7), (.int .i64 n8), (.int .i64 n9), (.int .i64 n10), (.string s11), (.slice l12.1 l12.2 l12.2)]).bind fun h14 =>
((cell h14 (List.length r3.2) 0).bind (getI .i64)).bind fun n15 =>
((cell h14 (List.length r3.2) 1).bind (getI .i64)).bind fun n16 =>
((cell h14 (List.length r3.2) 2).bind (getI .i64)).bind fun n17 =>
((cell h14 (List.length r3.2) 3).bind (getI .i64)).bind fun n18 =>
((cell h14 (List.length r3.2) 4).bind getStr).bind fun s19 =>
((cell h14 (List.length r3.2) 5).bind getS).bind fun l20 =>
(run (Et base) 7 [(.slice l5.1 l5.2 l5.2), (.agg #[(.int .i64 n15), (.int .i64 n16), (.int .i64 n17), (.int .i64 n18), (.string s19), (.slice l20.1 l20.2 l20.2)])] h14).bind fun r21 =>
(getTup 2 r21.1).bind fun l22 =>
((l22[0]?).bind getS).bind fun l23 =>
((l22[1]?).bind getB).bind fun b24 =>
((cell r21.2 (List.length r3.2) 0).bind (getI .i64)).bind fun n25 =>
((cell r21.2 (List.length r3.2) 1).bind (getI .i64)).bind fun n26 =>
((cell r21.2 (List.length r3.2) 2).bind (getI .i64)).bind fun n27 =>
((cell r21.2 (List.length r3.2) 3).bind (getI .i64)).bind fun n28 =>
((cell r21.2 (List.length r3.2) 4).bind getStr).bind fun s29 =>
((cell r21.2 (List.length r3.2) 5).bind getS).bind fun l30 =>
(run (Et base) 8 [(.slice l5.1 l5.2 l5.2), (.agg #[(.int .i64 n25), (.int .i64 n26), (.int .i64 n27), (.int .i64 n28), (.string s29), (.slice l30.1 l30.2 l30.2)])] r21.2).bind fun r31 =>
(getTup 2 r31.1).bind fun l32 =>
((l32[0]?).bind getS).bind fun l33 =>
((l32[1]?).bind getB).bind fun b34 =>
((if (!(b24 == b34)) = true then
some (.inl ([some (.slice l5.1 l5.2 l5.2), some (.pointer (some ⟨(List.length r3.2), 0, none⟩)), some (.slice l23.1 l23.2 l23.2), some (.bool b24), some (.bool b34), some (.bool true)], r31.2))
else
some (.inl ([some (.slice l5.1 l5.2 l5.2), some (.pointer (some ⟨(List.length r3.2), 0, none⟩)), some (.slice l23.1 l23.2 l23.2), some (.bool b24), some (.bool b34), some (.bool (!b24))], r31.2)))).bind fun j35 => joinK j35 fun j35 =>
((sget j35.1 0).bind getS).bind fun l36 =>
((sget (j35.1.tail) 0).bind getA).bind fun d37 =>
((sget (j35.1.tail.tail) 0).bind getS).bind fun l38 =>
((sget (j35.1.tail.tail.tail) 0).bind getB).bind fun b39 =>
((sget (j35.1.tail.tail.tail.tail) 0).bind getB).bind fun b40 =>
((sget (j35.1.tail.tail.tail.tail.tail) 0).bind getB).bind fun b41 =>
(if b41 = true then
(if (b39 == b40) = true then
some ((.bool (((l38.2 : Nat) : Int) == ((l36.2 : Nat) : Int))), j35.2)
else
some ((.bool false), j35.2))
else
(loopL (B3_0 base) [some (.slice l36.1 l36.2 l36.2), some (.pointer (some d37)), some (.slice l38.1 l38.2 l38.2), some (.int .i64 (0 : Int))] j35.2).bind fun q42 =>
(if q42.1 = 2 then
((sget q42.2.1 0).bind getS).bind fun l43 =>
((sget (q42.2.1.tail) 0).bind getA).bind fun d44 =>
((sget (q42.2.1.tail.tail) 0).bind getS).bind fun l45 =>
((sget (q42.2.1.tail.tail.tail) 0).bind (getI .i64)).bind fun n46 =>
((if (((l45.2 : Nat) : Int) != (IntKind.wrap .i64 (((l43.2 : Nat) : Int) + (1 : Int)))) = true then
some (.inl ([some (.slice l43.1 l43.2 l43.2), some (.slice l45.1 l45.2 l45.2), some (.int .i64 n46), some (.bool true)], q42.2.2))
else
(if 0 ≤ n46 ∧ n46 < ((l45.2 : Nat) : Int) then
((l45.1 : Option Addr)).bind fun a48 =>
((cell q42.2.2 a48.block ((a48.off + Int.toNat n46 * 6) + 0)).bind (getI .i64)).bind fun n49 =>
((cell q42.2.2 d44.block (d44.off + 0)).bind (getI .i64)).bind fun n50 =>
(if (n49 != n50) = true then
some (.inl ([some (.slice l43.1 l43.2 l43.2), some (.slice l45.1 l45.2 l45.2), some (.int .i64 n46), some (.bool true)], q42.2.2))
else
(if 0 ≤ n46 ∧ n46 < ((l45.2 : Nat) : Int) then
((l45.1 : Option Addr)).bind fun a51 =>
((cell q42.2.2 a51.block ((a51.off + Int.toNat n46 * 6) + 1)).bind (getI .i64)).bind fun n52 =>
((cell q42.2.2 d44.block (d44.off + 1)).bind (getI .i64)).bind fun n53 =>
(if (n52 != n53) = true then
some (.inl ([some (.slice l43.1 l43.2 l43.2), some (.slice l45.1 l45.2 l45.2), some (.int .i64 n46), some (.bool true)], q42.2.2))
else
(if 0 ≤ n46 ∧ n46 < ((l45.2 : Nat) : Int) then
((l45.1 : Option Addr)).bind fun a54 =>
((cell q42.2.2 a54.block ((a54.off + Int.toNat n46 * 6) + 2)).bind (getI .i64)).bind fun n55 =>
((cell q42.2.2 a54.block (((a54.off + Int.toNat n46 * 6) + 2) + 1)).bind (getI .i64)).bind fun n56 =>
((cell q42.2.2 a54.block ((((a54.off + Int.toNat n46 * 6) + 2) + 1) + 1)).bind getStr).bind fun s57 =>
((cell q42.2.2 a54.block (((((a54.off + Int.toNat n46 * 6) + 2) + 1) + 1) + 1)).bind getS).bind fun l58 =>
((cell q42.2.2 d44.block (d44.off + 2)).bind (getI .i64)).bind fun n59 =>
((cell q42.2.2 d44.block ((d44.off + 2) + 1)).bind (getI .i64)).bind fun n60 =>
((cell q42.2.2 d44.block (((d44.off + 2) + 1) + 1)).bind getStr).bind fun s61 =>
((cell q42.2.2 d44.block ((((d44.off + 2) + 1) + 1) + 1)).bind getS).bind fun l62 =>
(run (Et base) 9 [(.agg #[(.int .i64 n55), (.int .i64 n56), (.string s57), (.slice l58.1 l58.2 l58.2)]), (.agg #[(.int .i64 n59), (.int .i64 n60), (.string s61), (.slice l62.1 l62.2 l62.2)])] q42.2.2).bind fun r63 =>
((some r63.1).bind getB).bind fun b64 =>
(if (!b64) = true then
some (.inl ([some (.slice l43.1 l43.2 l43.2), some (.slice l45.1 l45.2 l45.2), some (.int .i64 n46), some (.bool true)], r63.2))
else
(run (Et base) 10 [(.slice l45.1 l45.2 l45.2)] r63.2).bind fun r65 =>
((some r65.1).bind getB).bind fun b66 =>
some (.inl ([some (.slice l43.1 l43.2 l43.2), some (.slice l45.1 l45.2 l45.2), some (.int .i64 n46), some (.bool (!b66))], r65.2)))
else none))
else none))
else none))).bind fun j47 => joinK j47 fun j47 =>
((sget j47.1 0).bind getS).bind fun l67 =>
((sget (j47.1.tail) 0).bind getS).bind fun l68 =>
((sget (j47.1.tail.tail) 0).bind (getI .i64)).bind fun n69 =>
((sget (j47.1.tail.tail.tail) 0).bind getB).bind fun b70 =>
(if b70 = true then
some ((.bool false), j47.2)
else
(loopL (B3_1 base) [some (.slice l67.1 l67.2 l67.2), some (.slice l68.1 l68.2 l68.2), some (.int .i64 n69), some (.int .i64 (0 : Int))] j47.2).bind fun q71 =>
(if q71.1 = 1 then
((sget q71.2.1 0).bind getB).bind fun b72 =>
some ((.bool b72), q71.2.2)
else
(if q71.1 = 4 then
some ((.bool true), q71.2.2)
else
none)))
else
none)))) = some r) : run (Et base) 3 [(.slice v0 v0n v0n)] h = some r := run_i Try.func3 (by kernel_rfl) ((f3_eq base v0 v0n h).trans hx)
/-! laws.FnExactAddTimer (gates 3) -/
theorem f4_eq (base : Nat) (v0 : Option Addr) (v0n : Nat) (v1_0 : Int) (v1_1 : Int) (v1_2 : Int) (v1_3 : Int) (v1_4 : ByteArray) (v1_5 : Option Addr) (v1_5n : Nat) (h : AH) : exFun (Et base) (run (Et base)) loopL a4 Try.f4 [(.slice v0 v0n v0n), (.agg #[(.int .i64 v1_0), (.int .i64 v1_1), (.int .i64 v1_2), (.int .i64 v1_3), (.string v1_4), (.slice v1_5 v1_5n v1_5n)])] h =
((some (h ++ [some ⟨[(.int .i64 v1_0), (.int .i64 v1_1), (.int .i64 v1_2), (.int .i64 v1_3), (.string v1_4), (.slice v1_5 v1_5n v1_5n)], 41⟩])).bind fun h1 =>
(run (Et base) 11 [(.slice v0 v0n v0n), (.int .i64 (1048576 : Int))] h1).bind fun r2 =>
((some r2.1).bind (getI .i64)).bind fun n3 =>
(if (decide (n3 < (0 : Int))) = true then
some ((.bool true), r2.2)
else
((cell r2.2 (List.length h) 0).bind (getI .i64)).bind fun n4 =>
((cell r2.2 (List.length h) 1).bind (getI .i64)).bind fun n5 =>
((cell r2.2 (List.length h) 2).bind (getI .i64)).bind fun n6 =>
((cell r2.2 (List.length h) 3).bind (getI .i64)).bind fun n7 =>
((cell r2.2 (List.length h) 4).bind getStr).bind fun s8 =>
((cell r2.2 (List.length h) 5).bind getS).bind fun l9 =>
(run (Et base) 12 [(.agg #[(.int .i64 n4), (.int .i64 n5), (.int .i64 n6), (.int .i64 n7), (.string s8), (.slice l9.1 l9.2 l9.2)]), (.int .i64 n3)] r2.2).bind fun r10 =>
((some r10.1).bind (getI .i64)).bind fun n11 =>
(if (decide (n11 < (0 : Int))) = true then
some ((.bool true), r10.2)
else
(run (Et base) 13 [(.slice v0 v0n v0n)] r10.2).bind fun r12 =>
((some r12.1).bind getS).bind fun l13 =>
(gate (sameA r10.2 r12.2 (some ⟨(List.length h), 0, none⟩) 6)
(((cell r12.2 (List.length h) 0).bind (getI .i64)).bind fun n14 =>
((cell r12.2 (List.length h) 1).bind (getI .i64)).bind fun n15 =>
((cell r12.2 (List.length h) 2).bind (getI .i64)).bind fun n16 =>
((cell r12.2 (List.length h) 3).bind (getI .i64)).bind fun n17 =>
((cell r12.2 (List.length h) 4).bind getStr).bind fun s18 =>
((cell r12.2 (List.length h) 5).bind getS).bind fun l19 =>
(run (Et base) 14 [(.agg #[(.int .i64 n14), (.int .i64 n15), (.int .i64 n16), (.int .i64 n17), (.string s18), (.slice l19.1 l19.2 l19.2)])] r12.2).bind fun r20 =>
((some r20.1).bind (getAgg 6)).bind fun l21 =>
((l21[0]?).bind (getI .i64)).bind fun n22 =>
((l21[1]?).bind (getI .i64)).bind fun n23 =>
((l21[2]?).bind (getI .i64)).bind fun n24 =>
((l21[3]?).bind (getI .i64)).bind fun n25 =>
((l21[4]?).bind getStr).bind fun s26 =>
((l21[5]?).bind getS).bind fun l27 =>
(run (Et base) 8 [(.slice l13.1 l13.2 l13.2), (.agg #[(.int .i64 n22), (.int .i64 n23), (.int .i64 n24), (.int .i64 n25), (.string s26), (.slice l27.1 l27.2 l27.2)])] r20.2).bind fun r28 =>
(getTup 2 r28.1).bind fun l29 =>
((l29[0]?).bind getS).bind fun l30 =>
((l29[1]?).bind getB).bind fun b31 =>
(run (Et base) 13 [(.slice v0 v0n v0n)] r28.2).bind fun r32 =>
((some r32.1).bind getS).bind fun l33 =>
((cell r32.2 (List.length h) 0).bind (getI .i64)).bind fun n34 =>
((cell r32.2 (List.length h) 1).bind (getI .i64)).bind fun n35 =>
((cell r32.2 (List.length h) 2).bind (getI .i64)).bind fun n36 =>
((cell r32.2 (List.length h) 3).bind (getI .i64)).bind fun n37 =>
((cell r32.2 (List.length h) 4).bind getStr).bind fun s38 =>
((cell r32.2 (List.length h) 5).bind getS).bind fun l39 =>
(run (Et base) 14 [(.agg #[(.int .i64 n34), (.int .i64 n35), (.int .i64 n36), (.int .i64 n37), (.string s38), (.slice l39.1 l39.2 l39.2)])] r32.2).bind fun r40 =>
((some r40.1).bind (getAgg 6)).bind fun l41 =>
((l41[0]?).bind (getI .i64)).bind fun n42 =>
((l41[1]?).bind (getI .i64)).bind fun n43 =>
((l41[2]?).bind (getI .i64)).bind fun n44 =>
((l41[3]?).bind (getI .i64)).bind fun n45 =>
((l41[4]?).bind getStr).bind fun s46 =>
((l41[5]?).bind getS).bind fun l47 =>
(some (r40.2 ++ [some ⟨[(.int .i64 0), (.int .i64 0), (.int .i64 0), (.int .i64 0), (.string ⟨#[]⟩), (.slice none 0 0)], 29⟩])).bind fun h48 =>
(wr base h48 (List.length r40.2) 0 [(.int .i64 n42), (.int .i64 n43), (.int .i64 n44), (.int .i64 n45), (.string s46), (.slice l47.1 l47.2 l47.2)]).bind fun h49 =>
((cell h49 (List.length r40.2) 0).bind (getI .i64)).bind fun n50 =>
((cell h49 (List.length r40.2) 1).bind (getI .i64)).bind fun n51 =>
((cell h49 (List.length r40.2) 2).bind (getI .i64)).bind fun n52 =>
((cell h49 (List.length r40.2) 3).bind (getI .i64)).bind fun n53 =>
((cell h49 (List.length r40.2) 4).bind getStr).bind fun s54 =>
((cell h49 (List.length r40.2) 5).bind getS).bind fun l55 =>
(run (Et base) 7 [(.slice l33.1 l33.2 l33.2), (.agg #[(.int .i64 n50), (.int .i64 n51), (.int .i64 n52), (.int .i64 n53), (.string s54), (.slice l55.1 l55.2 l55.2)])] h49).bind fun r56 =>
(getTup 2 r56.1).bind fun l57 =>
((l57[0]?).bind getS).bind fun l58 =>
((l57[1]?).bind getB).bind fun b59 =>
((run (Et base) 15 [(.slice l58.1 l58.2 l58.2), (.slice l30.1 l30.2 l30.2)] r56.2).bind fun r61 =>
((some r61.1).bind getB).bind fun b62 =>
(if (!b62) = true then
some (.inl ([some (.slice v0 v0n v0n), some (.pointer (some ⟨(List.length h), 0, none⟩)), some (.slice l30.1 l30.2 l30.2), some (.bool b31), some (.slice l33.1 l33.2 l33.2), some (.pointer (some ⟨(List.length r40.2), 0, none⟩)), some (.slice l58.1 l58.2 l58.2), some (.bool b59), some (.bool true)], r61.2))
else
some (.inl ([some (.slice v0 v0n v0n), some (.pointer (some ⟨(List.length h), 0, none⟩)), some (.slice l30.1 l30.2 l30.2), some (.bool b31), some (.slice l33.1 l33.2 l33.2), some (.pointer (some ⟨(List.length r40.2), 0, none⟩)), some (.slice l58.1 l58.2 l58.2), some (.bool b59), some (.bool (!(b59 == b31)))], r61.2)))).bind fun j60 => joinK j60 fun j60 =>
((sget j60.1 0).bind getS).bind fun l63 =>
((sget (j60.1.tail) 0).bind getA).bind fun d64 =>
((sget (j60.1.tail.tail) 0).bind getS).bind fun l65 =>
((sget (j60.1.tail.tail.tail) 0).bind getB).bind fun b66 =>
((sget (j60.1.tail.tail.tail.tail) 0).bind getS).bind fun l67 =>
((sget (j60.1.tail.tail.tail.tail.tail) 0).bind getA).bind fun d68 =>
((sget (j60.1.tail.tail.tail.tail.tail.tail) 0).bind getS).bind fun l69 =>
((sget (j60.1.tail.tail.tail.tail.tail.tail.tail) 0).bind getB).bind fun b70 =>
((sget (j60.1.tail.tail.tail.tail.tail.tail.tail.tail) 0).bind getB).bind fun b71 =>
(if b71 = true then
some ((.bool false), j60.2)
else
(run (Et base) 13 [(.slice l63.1 l63.2 l63.2)] j60.2).bind fun r72 =>
((some r72.1).bind getS).bind fun l73 =>
(run (Et base) 15 [(.slice l67.1 l67.2 l67.2), (.slice l73.1 l73.2 l73.2)] r72.2).bind fun r74 =>
((some r74.1).bind getB).bind fun b75 =>
(if (!b75) = true then
some ((.bool false), r74.2)
else
((cell r74.2 d68.block d68.off).bind (getI .i64)).bind fun n76 =>
((cell r74.2 d68.block (d68.off + 1)).bind (getI .i64)).bind fun n77 =>
((cell r74.2 d68.block ((d68.off + 1) + 1)).bind (getI .i64)).bind fun n78 =>
((cell r74.2 d68.block (((d68.off + 1) + 1) + 1)).bind (getI .i64)).bind fun n79 =>
((cell r74.2 d68.block ((((d68.off + 1) + 1) + 1) + 1)).bind getStr).bind fun s80 =>
((cell r74.2 d68.block (((((d68.off + 1) + 1) + 1) + 1) + 1)).bind getS).bind fun l81 =>
((cell r74.2 d64.block d64.off).bind (getI .i64)).bind fun n82 =>
((cell r74.2 d64.block (d64.off + 1)).bind (getI .i64)).bind fun n83 =>
((cell r74.2 d64.block ((d64.off + 1) + 1)).bind (getI .i64)).bind fun n84 =>
((cell r74.2 d64.block (((d64.off + 1) + 1) + 1)).bind (getI .i64)).bind fun n85 =>
((cell r74.2 d64.block ((((d64.off + 1) + 1) + 1) + 1)).bind getStr).bind fun s86 =>
((cell r74.2 d64.block (((((d64.off + 1) + 1) + 1) + 1) + 1)).bind getS).bind fun l87 =>
(run (Et base) 14 [(.agg #[(.int .i64 n82), (.int .i64 n83), (.int .i64 n84), (.int .i64 n85), (.string s86), (.slice l87.1 l87.2 l87.2)])] r74.2).bind fun r88 =>
((some r88.1).bind (getAgg 6)).bind fun l89 =>
((l89[0]?).bind (getI .i64)).bind fun n90 =>
((l89[1]?).bind (getI .i64)).bind fun n91 =>
((l89[2]?).bind (getI .i64)).bind fun n92 =>
((l89[3]?).bind (getI .i64)).bind fun n93 =>
((l89[4]?).bind getStr).bind fun s94 =>
((l89[5]?).bind getS).bind fun l95 =>
(gate (sameA r74.2 r88.2 (some d68) 6)
((run (Et base) 16 [(.agg #[(.int .i64 n76), (.int .i64 n77), (.int .i64 n78), (.int .i64 n79), (.string s80), (.slice l81.1 l81.2 l81.2)]), (.agg #[(.int .i64 n90), (.int .i64 n91), (.int .i64 n92), (.int .i64 n93), (.string s94), (.slice l95.1 l95.2 l95.2)])] r88.2).bind fun r96 =>
((some r96.1).bind getB).bind fun b97 =>
(if (!b97) = true then
some ((.bool false), r96.2)
else
(run (Et base) 17 [(.slice l67.1 l67.2 l67.2), (.int .i64 (1 : Int))] r96.2).bind fun r98 =>
((some r98.1).bind (getI .i64)).bind fun n99 =>
((cell r98.2 d68.block d68.off).bind (getI .i64)).bind fun n100 =>
((cell r98.2 d68.block (d68.off + 1)).bind (getI .i64)).bind fun n101 =>
((cell r98.2 d68.block ((d68.off + 1) + 1)).bind (getI .i64)).bind fun n102 =>
((cell r98.2 d68.block (((d68.off + 1) + 1) + 1)).bind (getI .i64)).bind fun n103 =>
((cell r98.2 d68.block ((((d68.off + 1) + 1) + 1) + 1)).bind getStr).bind fun s104 =>
((cell r98.2 d68.block (((((d68.off + 1) + 1) + 1) + 1) + 1)).bind getS).bind fun l105 =>
(run (Et base) 18 [(.agg #[(.int .i64 n100), (.int .i64 n101), (.int .i64 n102), (.int .i64 n103), (.string s104), (.slice l105.1 l105.2 l105.2)]), (.int .i64 n99)] r98.2).bind fun r106 =>
((some r106.1).bind (getI .i64)).bind fun n107 =>
((if (decide (n107 < (0 : Int))) = true then
some (.inl ([some (.slice l63.1 l63.2 l63.2), some (.pointer (some d64)), some (.slice l65.1 l65.2 l65.2), some (.bool b66), some (.slice l69.1 l69.2 l69.2), some (.bool true)], r106.2))
else
(run (Et base) 15 [(.slice l69.1 l69.2 l69.2), (.slice l65.1 l65.2 l65.2)] r106.2).bind fun r109 =>
((some r109.1).bind getB).bind fun b110 =>
(if (!b110) = true then
some (.inl ([some (.slice l63.1 l63.2 l63.2), some (.pointer (some d64)), some (.slice l65.1 l65.2 l65.2), some (.bool b66), some (.slice l69.1 l69.2 l69.2), some (.bool true)], r109.2))
else
some (.inl ([some (.slice l63.1 l63.2 l63.2), some (.pointer (some d64)), some (.slice l65.1 l65.2 l65.2), some (.bool b66), some (.slice l69.1 l69.2 l69.2), some (.bool (!(b70 == b66)))], r109.2))))).bind fun j108 => joinK j108 fun j108 =>
((sget j108.1 0).bind getS).bind fun l111 =>
((sget (j108.1.tail) 0).bind getA).bind fun d112 =>
((sget (j108.1.tail.tail) 0).bind getS).bind fun l113 =>
((sget (j108.1.tail.tail.tail) 0).bind getB).bind fun b114 =>
((sget (j108.1.tail.tail.tail.tail) 0).bind getS).bind fun l115 =>
((sget (j108.1.tail.tail.tail.tail.tail) 0).bind getB).bind fun b116 =>
(if b116 = true then
some ((.bool false), j108.2)
else
(run (Et base) 17 [(.slice l115.1 l115.2 l115.2), (.int .i64 (1 : Int))] j108.2).bind fun r117 =>
((some r117.1).bind (getI .i64)).bind fun n118 =>
(run (Et base) 19 [(.slice l115.1 l115.2 l115.2), (.int .i64 (1 : Int))] r117.2).bind fun r119 =>
((some r119.1).bind (getI .i64)).bind fun n120 =>
(if (decide (n120 < (0 : Int))) = true then
some ((.bool false), r119.2)
else
(if (n120 != n118) = true then
some ((.bool false), r119.2)
else
(run (Et base) 13 [(.slice l111.1 l111.2 l111.2)] r119.2).bind fun r121 =>
((some r121.1).bind getS).bind fun l122 =>
(gate (sameA r119.2 r121.2 (some d112) 6)
(((cell r121.2 d112.block d112.off).bind (getI .i64)).bind fun n123 =>
((cell r121.2 d112.block (d112.off + 1)).bind (getI .i64)).bind fun n124 =>
((cell r121.2 d112.block ((d112.off + 1) + 1)).bind (getI .i64)).bind fun n125 =>
((cell r121.2 d112.block (((d112.off + 1) + 1) + 1)).bind (getI .i64)).bind fun n126 =>
((cell r121.2 d112.block ((((d112.off + 1) + 1) + 1) + 1)).bind getStr).bind fun s127 =>
((cell r121.2 d112.block (((((d112.off + 1) + 1) + 1) + 1) + 1)).bind getS).bind fun l128 =>
(run (Et base) 14 [(.agg #[(.int .i64 n123), (.int .i64 n124), (.int .i64 n125), (.int .i64 n126), (.string s127), (.slice l128.1 l128.2 l128.2)])] r121.2).bind fun r129 =>
((some r129.1).bind (getAgg 6)).bind fun l130 =>
((l130[0]?).bind (getI .i64)).bind fun n131 =>
((l130[1]?).bind (getI .i64)).bind fun n132 =>
((l130[2]?).bind (getI .i64)).bind fun n133 =>
((l130[3]?).bind (getI .i64)).bind fun n134 =>
((l130[4]?).bind getStr).bind fun s135 =>
((l130[5]?).bind getS).bind fun l136 =>
(run (Et base) 7 [(.slice l122.1 l122.2 l122.2), (.agg #[(.int .i64 n131), (.int .i64 n132), (.int .i64 n133), (.int .i64 n134), (.string s135), (.slice l136.1 l136.2 l136.2)])] r129.2).bind fun r137 =>
(getTup 2 r137.1).bind fun l138 =>
((l138[0]?).bind getS).bind fun l139 =>
((l138[1]?).bind getB).bind fun b140 =>
((run (Et base) 15 [(.slice l139.1 l139.2 l139.2), (.slice l113.1 l113.2 l113.2)] r137.2).bind fun r142 =>
((some r142.1).bind getB).bind fun b143 =>
(if (!b143) = true then
some (.inl ([some (.slice l115.1 l115.2 l115.2), some (.int .i64 n118), some (.bool true)], r142.2))
else
some (.inl ([some (.slice l115.1 l115.2 l115.2), some (.int .i64 n118), some (.bool (!(b140 == b114)))], r142.2)))).bind fun j141 => joinK j141 fun j141 =>
((sget j141.1 0).bind getS).bind fun l144 =>
((sget (j141.1.tail) 0).bind (getI .i64)).bind fun n145 =>
((sget (j141.1.tail.tail) 0).bind getB).bind fun b146 =>
(if b146 = true then
some ((.bool false), j141.2)
else
(run (Et base) 19 [(.slice l144.1 l144.2 l144.2), (.int .i64 (1 : Int))] j141.2).bind fun r147 =>
((some r147.1).bind (getI .i64)).bind fun n148 =>
(if (decide (n148 < (0 : Int))) = true then
some ((.bool false), r147.2)
else
(if (n148 != n145) = true then
some ((.bool false), r147.2)
else
some ((.bool true), r147.2)))))))))))))))))) : Option (Value × AH)) := by kernel_rfl
theorem r4 {base : Nat} {v0 : Option Addr} {v0n : Nat} {v1_0 : Int} {v1_1 : Int} {v1_2 : Int} {v1_3 : Int} {v1_4 : ByteArray} {v1_5 : Option Addr} {v1_5n : Nat} {h : AH} {r : Value × AH} (hx :
((some (h ++ [some ⟨[(.int .i64 v1_0), (.int .i64 v1_1), (.int .i64 v1_2), (.int .i64 v1_3), (.string v1_4), (.slice v1_5 v1_5n v1_5n)], 41⟩])).bind fun h1 =>
(run (Et base) 11 [(.slice v0 v0n v0n), (.int .i64 (1048576 : Int))] h1).bind fun r2 =>
((some r2.1).bind (getI .i64)).bind fun n3 =>
(if (decide (n3 < (0 : Int))) = true then
some ((.bool true), r2.2)
else
((cell r2.2 (List.length h) 0).bind (getI .i64)).bind fun n4 =>
((cell r2.2 (List.length h) 1).bind (getI .i64)).bind fun n5 =>
((cell r2.2 (List.length h) 2).bind (getI .i64)).bind fun n6 =>
((cell r2.2 (List.length h) 3).bind (getI .i64)).bind fun n7 =>
((cell r2.2 (List.length h) 4).bind getStr).bind fun s8 =>
((cell r2.2 (List.length h) 5).bind getS).bind fun l9 =>
(run (Et base) 12 [(.agg #[(.int .i64 n4), (.int .i64 n5), (.int .i64 n6), (.int .i64 n7), (.string s8), (.slice l9.1 l9.2 l9.2)]), (.int .i64 n3)] r2.2).bind fun r10 =>
((some r10.1).bind (getI .i64)).bind fun n11 =>
(if (decide (n11 < (0 : Int))) = true then
some ((.bool true), r10.2)
else
(run (Et base) 13 [(.slice v0 v0n v0n)] r10.2).bind fun r12 =>
((some r12.1).bind getS).bind fun l13 =>
(gate (sameA r10.2 r12.2 (some ⟨(List.length h), 0, none⟩) 6)
(((cell r12.2 (List.length h) 0).bind (getI .i64)).bind fun n14 =>
((cell r12.2 (List.length h) 1).bind (getI .i64)).bind fun n15 =>
((cell r12.2 (List.length h) 2).bind (getI .i64)).bind fun n16 =>
((cell r12.2 (List.length h) 3).bind (getI .i64)).bind fun n17 =>
((cell r12.2 (List.length h) 4).bind getStr).bind fun s18 =>
((cell r12.2 (List.length h) 5).bind getS).bind fun l19 =>
(run (Et base) 14 [(.agg #[(.int .i64 n14), (.int .i64 n15), (.int .i64 n16), (.int .i64 n17), (.string s18), (.slice l19.1 l19.2 l19.2)])] r12.2).bind fun r20 =>
((some r20.1).bind (getAgg 6)).bind fun l21 =>
((l21[0]?).bind (getI .i64)).bind fun n22 =>
((l21[1]?).bind (getI .i64)).bind fun n23 =>
((l21[2]?).bind (getI .i64)).bind fun n24 =>
((l21[3]?).bind (getI .i64)).bind fun n25 =>
((l21[4]?).bind getStr).bind fun s26 =>
((l21[5]?).bind getS).bind fun l27 =>
(run (Et base) 8 [(.slice l13.1 l13.2 l13.2), (.agg #[(.int .i64 n22), (.int .i64 n23), (.int .i64 n24), (.int .i64 n25), (.string s26), (.slice l27.1 l27.2 l27.2)])] r20.2).bind fun r28 =>
(getTup 2 r28.1).bind fun l29 =>
((l29[0]?).bind getS).bind fun l30 =>
((l29[1]?).bind getB).bind fun b31 =>
(run (Et base) 13 [(.slice v0 v0n v0n)] r28.2).bind fun r32 =>
((some r32.1).bind getS).bind fun l33 =>
((cell r32.2 (List.length h) 0).bind (getI .i64)).bind fun n34 =>
((cell r32.2 (List.length h) 1).bind (getI .i64)).bind fun n35 =>
((cell r32.2 (List.length h) 2).bind (getI .i64)).bind fun n36 =>
((cell r32.2 (List.length h) 3).bind (getI .i64)).bind fun n37 =>
((cell r32.2 (List.length h) 4).bind getStr).bind fun s38 =>
((cell r32.2 (List.length h) 5).bind getS).bind fun l39 =>
(run (Et base) 14 [(.agg #[(.int .i64 n34), (.int .i64 n35), (.int .i64 n36), (.int .i64 n37), (.string s38), (.slice l39.1 l39.2 l39.2)])] r32.2).bind fun r40 =>
((some r40.1).bind (getAgg 6)).bind fun l41 =>
((l41[0]?).bind (getI .i64)).bind fun n42 =>
((l41[1]?).bind (getI .i64)).bind fun n43 =>
((l41[2]?).bind (getI .i64)).bind fun n44 =>
((l41[3]?).bind (getI .i64)).bind fun n45 =>
((l41[4]?).bind getStr).bind fun s46 =>
((l41[5]?).bind getS).bind fun l47 =>
(some (r40.2 ++ [some ⟨[(.int .i64 0), (.int .i64 0), (.int .i64 0), (.int .i64 0), (.string ⟨#[]⟩), (.slice none 0 0)], 29⟩])).bind fun h48 =>
(wr base h48 (List.length r40.2) 0 [(.int .i64 n42), (.int .i64 n43), (.int .i64 n44), (.int .i64 n45), (.string s46), (.slice l47.1 l47.2 l47.2)]).bind fun h49 =>
((cell h49 (List.length r40.2) 0).bind (getI .i64)).bind fun n50 =>
((cell h49 (List.length r40.2) 1).bind (getI .i64)).bind fun n51 =>
((cell h49 (List.length r40.2) 2).bind (getI .i64)).bind fun n52 =>
((cell h49 (List.length r40.2) 3).bind (getI .i64)).bind fun n53 =>
((cell h49 (List.length r40.2) 4).bind getStr).bind fun s54 =>
((cell h49 (List.length r40.2) 5).bind getS).bind fun l55 =>
(run (Et base) 7 [(.slice l33.1 l33.2 l33.2), (.agg #[(.int .i64 n50), (.int .i64 n51), (.int .i64 n52), (.int .i64 n53), (.string s54), (.slice l55.1 l55.2 l55.2)])] h49).bind fun r56 =>
(getTup 2 r56.1).bind fun l57 =>
((l57[0]?).bind getS).bind fun l58 =>
((l57[1]?).bind getB).bind fun b59 =>
((run (Et base) 15 [(.slice l58.1 l58.2 l58.2), (.slice l30.1 l30.2 l30.2)] r56.2).bind fun r61 =>
((some r61.1).bind getB).bind fun b62 =>
(if (!b62) = true then
some (.inl ([some (.slice v0 v0n v0n), some (.pointer (some ⟨(List.length h), 0, none⟩)), some (.slice l30.1 l30.2 l30.2), some (.bool b31), some (.slice l33.1 l33.2 l33.2), some (.pointer (some ⟨(List.length r40.2), 0, none⟩)), some (.slice l58.1 l58.2 l58.2), some (.bool b59), some (.bool true)], r61.2))
else
some (.inl ([some (.slice v0 v0n v0n), some (.pointer (some ⟨(List.length h), 0, none⟩)), some (.slice l30.1 l30.2 l30.2), some (.bool b31), some (.slice l33.1 l33.2 l33.2), some (.pointer (some ⟨(List.length r40.2), 0, none⟩)), some (.slice l58.1 l58.2 l58.2), some (.bool b59), some (.bool (!(b59 == b31)))], r61.2)))).bind fun j60 => joinK j60 fun j60 =>
((sget j60.1 0).bind getS).bind fun l63 =>
((sget (j60.1.tail) 0).bind getA).bind fun d64 =>
((sget (j60.1.tail.tail) 0).bind getS).bind fun l65 =>
((sget (j60.1.tail.tail.tail) 0).bind getB).bind fun b66 =>
((sget (j60.1.tail.tail.tail.tail) 0).bind getS).bind fun l67 =>
((sget (j60.1.tail.tail.tail.tail.tail) 0).bind getA).bind fun d68 =>
((sget (j60.1.tail.tail.tail.tail.tail.tail) 0).bind getS).bind fun l69 =>
((sget (j60.1.tail.tail.tail.tail.tail.tail.tail) 0).bind getB).bind fun b70 =>
((sget (j60.1.tail.tail.tail.tail.tail.tail.tail.tail) 0).bind getB).bind fun b71 =>
(if b71 = true then
some ((.bool false), j60.2)
else
(run (Et base) 13 [(.slice l63.1 l63.2 l63.2)] j60.2).bind fun r72 =>
((some r72.1).bind getS).bind fun l73 =>
(run (Et base) 15 [(.slice l67.1 l67.2 l67.2), (.slice l73.1 l73.2 l73.2)] r72.2).bind fun r74 =>
((some r74.1).bind getB).bind fun b75 =>
(if (!b75) = true then
some ((.bool false), r74.2)
else
((cell r74.2 d68.block d68.off).bind (getI .i64)).bind fun n76 =>
((cell r74.2 d68.block (d68.off + 1)).bind (getI .i64)).bind fun n77 =>
((cell r74.2 d68.block ((d68.off + 1) + 1)).bind (getI .i64)).bind fun n78 =>
((cell r74.2 d68.block (((d68.off + 1) + 1) + 1)).bind (getI .i64)).bind fun n79 =>
((cell r74.2 d68.block ((((d68.off + 1) + 1) + 1) + 1)).bind getStr).bind fun s80 =>
((cell r74.2 d68.block (((((d68.off + 1) + 1) + 1) + 1) + 1)).bind getS).bind fun l81 =>
((cell r74.2 d64.block d64.off).bind (getI .i64)).bind fun n82 =>
((cell r74.2 d64.block (d64.off + 1)).bind (getI .i64)).bind fun n83 =>
((cell r74.2 d64.block ((d64.off + 1) + 1)).bind (getI .i64)).bind fun n84 =>
((cell r74.2 d64.block (((d64.off + 1) + 1) + 1)).bind (getI .i64)).bind fun n85 =>
((cell r74.2 d64.block ((((d64.off + 1) + 1) + 1) + 1)).bind getStr).bind fun s86 =>
((cell r74.2 d64.block (((((d64.off + 1) + 1) + 1) + 1) + 1)).bind getS).bind fun l87 =>
(run (Et base) 14 [(.agg #[(.int .i64 n82), (.int .i64 n83), (.int .i64 n84), (.int .i64 n85), (.string s86), (.slice l87.1 l87.2 l87.2)])] r74.2).bind fun r88 =>
((some r88.1).bind (getAgg 6)).bind fun l89 =>
((l89[0]?).bind (getI .i64)).bind fun n90 =>
((l89[1]?).bind (getI .i64)).bind fun n91 =>
((l89[2]?).bind (getI .i64)).bind fun n92 =>
((l89[3]?).bind (getI .i64)).bind fun n93 =>
((l89[4]?).bind getStr).bind fun s94 =>
((l89[5]?).bind getS).bind fun l95 =>
(gate (sameA r74.2 r88.2 (some d68) 6)
((run (Et base) 16 [(.agg #[(.int .i64 n76), (.int .i64 n77), (.int .i64 n78), (.int .i64 n79), (.string s80), (.slice l81.1 l81.2 l81.2)]), (.agg #[(.int .i64 n90), (.int .i64 n91), (.int .i64 n92), (.int .i64 n93), (.string s94), (.slice l95.1 l95.2 l95.2)])] r88.2).bind fun r96 =>
((some r96.1).bind getB).bind fun b97 =>
(if (!b97) = true then
some ((.bool false), r96.2)
else
(run (Et base) 17 [(.slice l67.1 l67.2 l67.2), (.int .i64 (1 : Int))] r96.2).bind fun r98 =>
((some r98.1).bind (getI .i64)).bind fun n99 =>
((cell r98.2 d68.block d68.off).bind (getI .i64)).bind fun n100 =>
((cell r98.2 d68.block (d68.off + 1)).bind (getI .i64)).bind fun n101 =>
((cell r98.2 d68.block ((d68.off + 1) + 1)).bind (getI .i64)).bind fun n102 =>
((cell r98.2 d68.block (((d68.off + 1) + 1) + 1)).bind (getI .i64)).bind fun n103 =>
((cell r98.2 d68.block ((((d68.off + 1) + 1) + 1) + 1)).bind getStr).bind fun s104 =>
((cell r98.2 d68.block (((((d68.off + 1) + 1) + 1) + 1) + 1)).bind getS).bind fun l105 =>
(run (Et base) 18 [(.agg #[(.int .i64 n100), (.int .i64 n101), (.int .i64 n102), (.int .i64 n103), (.string s104), (.slice l105.1 l105.2 l105.2)]), (.int .i64 n99)] r98.2).bind fun r106 =>
((some r106.1).bind (getI .i64)).bind fun n107 =>
((if (decide (n107 < (0 : Int))) = true then
some (.inl ([some (.slice l63.1 l63.2 l63.2), some (.pointer (some d64)), some (.slice l65.1 l65.2 l65.2), some (.bool b66), some (.slice l69.1 l69.2 l69.2), some (.bool true)], r106.2))
else
(run (Et base) 15 [(.slice l69.1 l69.2 l69.2), (.slice l65.1 l65.2 l65.2)] r106.2).bind fun r109 =>
((some r109.1).bind getB).bind fun b110 =>
(if (!b110) = true then
some (.inl ([some (.slice l63.1 l63.2 l63.2), some (.pointer (some d64)), some (.slice l65.1 l65.2 l65.2), some (.bool b66), some (.slice l69.1 l69.2 l69.2), some (.bool true)], r109.2))
else
some (.inl ([some (.slice l63.1 l63.2 l63.2), some (.pointer (some d64)), some (.slice l65.1 l65.2 l65.2), some (.bool b66), some (.slice l69.1 l69.2 l69.2), some (.bool (!(b70 == b66)))], r109.2))))).bind fun j108 => joinK j108 fun j108 =>
((sget j108.1 0).bind getS).bind fun l111 =>
((sget (j108.1.tail) 0).bind getA).bind fun d112 =>
((sget (j108.1.tail.tail) 0).bind getS).bind fun l113 =>
((sget (j108.1.tail.tail.tail) 0).bind getB).bind fun b114 =>
((sget (j108.1.tail.tail.tail.tail) 0).bind getS).bind fun l115 =>
((sget (j108.1.tail.tail.tail.tail.tail) 0).bind getB).bind fun b116 =>
(if b116 = true then
some ((.bool false), j108.2)
else
(run (Et base) 17 [(.slice l115.1 l115.2 l115.2), (.int .i64 (1 : Int))] j108.2).bind fun r117 =>
((some r117.1).bind (getI .i64)).bind fun n118 =>
(run (Et base) 19 [(.slice l115.1 l115.2 l115.2), (.int .i64 (1 : Int))] r117.2).bind fun r119 =>
((some r119.1).bind (getI .i64)).bind fun n120 =>
(if (decide (n120 < (0 : Int))) = true then
some ((.bool false), r119.2)
else
(if (n120 != n118) = true then
some ((.bool false), r119.2)
else
(run (Et base) 13 [(.slice l111.1 l111.2 l111.2)] r119.2).bind fun r121 =>
((some r121.1).bind getS).bind fun l122 =>
(gate (sameA r119.2 r121.2 (some d112) 6)
(((cell r121.2 d112.block d112.off).bind (getI .i64)).bind fun n123 =>
((cell r121.2 d112.block (d112.off + 1)).bind (getI .i64)).bind fun n124 =>
((cell r121.2 d112.block ((d112.off + 1) + 1)).bind (getI .i64)).bind fun n125 =>
((cell r121.2 d112.block (((d112.off + 1) + 1) + 1)).bind (getI .i64)).bind fun n126 =>
((cell r121.2 d112.block ((((d112.off + 1) + 1) + 1) + 1)).bind getStr).bind fun s127 =>
((cell r121.2 d112.block (((((d112.off + 1) + 1) + 1) + 1) + 1)).bind getS).bind fun l128 =>
(run (Et base) 14 [(.agg #[(.int .i64 n123), (.int .i64 n124), (.int .i64 n125), (.int .i64 n126), (.string s127), (.slice l128.1 l128.2 l128.2)])] r121.2).bind fun r129 =>
((some r129.1).bind (getAgg 6)).bind fun l130 =>
((l130[0]?).bind (getI .i64)).bind fun n131 =>
((l130[1]?).bind (getI .i64)).bind fun n132 =>
((l130[2]?).bind (getI .i64)).bind fun n133 =>
((l130[3]?).bind (getI .i64)).bind fun n134 =>
((l130[4]?).bind getStr).bind fun s135 =>
((l130[5]?).bind getS).bind fun l136 =>
(run (Et base) 7 [(.slice l122.1 l122.2 l122.2), (.agg #[(.int .i64 n131), (.int .i64 n132), (.int .i64 n133), (.int .i64 n134), (.string s135), (.slice l136.1 l136.2 l136.2)])] r129.2).bind fun r137 =>
(getTup 2 r137.1).bind fun l138 =>
((l138[0]?).bind getS).bind fun l139 =>
((l138[1]?).bind getB).bind fun b140 =>
((run (Et base) 15 [(.slice l139.1 l139.2 l139.2), (.slice l113.1 l113.2 l113.2)] r137.2).bind fun r142 =>
((some r142.1).bind getB).bind fun b143 =>
(if (!b143) = true then
some (.inl ([some (.slice l115.1 l115.2 l115.2), some (.int .i64 n118), some (.bool true)], r142.2))
else
some (.inl ([some (.slice l115.1 l115.2 l115.2), some (.int .i64 n118), some (.bool (!(b140 == b114)))], r142.2)))).bind fun j141 => joinK j141 fun j141 =>
((sget j141.1 0).bind getS).bind fun l144 =>
((sget (j141.1.tail) 0).bind (getI .i64)).bind fun n145 =>
((sget (j141.1.tail.tail) 0).bind getB).bind fun b146 =>
(if b146 = true then
some ((.bool false), j141.2)
else
(run (Et base) 19 [(.slice l144.1 l144.2 l144.2), (.int .i64 (1 : Int))] j141.2).bind fun r147 =>
((some r147.1).bind (getI .i64)).bind fun n148 =>
(if (decide (n148 < (0 : Int))) = true then
some ((.bool false), r147.2)
else
(if (n148 != n145) = true then
some ((.bool false), r147.2)
else
some ((.bool true), r147.2))))))))))))))))))) = some r) : run (Et base) 4 [(.slice v0 v0n v0n), (.agg #[(.int .i64 v1_0), (.int .i64 v1_1), (.int .i64 v1_2), (.int .i64 v1_3), (.string v1_4), (.slice v1_5 v1_5n v1_5n)])] h = some r := run_i Try.func4 (by kernel_rfl) ((f4_eq base v0 v0n v1_0 v1_1 v1_2 v1_3 v1_4 v1_5 v1_5n h).trans hx)
/-! laws.big (gates 0) -/
theorem f5_eq (base : Nat) (v0 : Option Addr) (v0n : Nat) (h : AH) : exFun (Et base) (run (Et base)) loopL a5 Try.f5 [(.slice v0 v0n v0n)] h =
(some ((.bool (decide (((v0n : Nat) : Int) > (1048576 : Int)))), h) : Option (Value × AH)) := by kernel_rfl
theorem r5 {base : Nat} {v0 : Option Addr} {v0n : Nat} {h : AH} {r : Value × AH} (hx :
(some ((.bool (decide (((v0n : Nat) : Int) > (1048576 : Int)))), h)) = some r) : run (Et base) 5 [(.slice v0 v0n v0n)] h = some r := run_i Try.func5 (by kernel_rfl) ((f5_eq base v0 v0n h).trans hx)
/-! spec.DrawAddTimer (gates 0) -/
theorem f6_eq (base : Nat) (v0 : Option Addr) (v0n : Nat) (h : AH) : exFun (Et base) (run (Et base)) loopL a6 Try.f6 [(.slice v0 v0n v0n)] h =
((some (h ++ [some ⟨[(.int .i64 0), (.int .i64 0), (.int .i64 0), (.int .i64 0), (.string ⟨#[]⟩), (.slice none 0 0)], 29⟩])).bind fun h1 =>
(run (Et base) 20 [(.slice v0 v0n v0n)] h1).bind fun r2 =>
((some r2.1).bind getP).bind fun p3 =>
(run (Et base) 21 [(.pointer p3)] r2.2).bind fun r4 =>
((some r4.1).bind getS).bind fun l5 =>
(run (Et base) 22 [(.pointer p3)] r4.2).bind fun r6 =>
((some r6.1).bind (getAgg 6)).bind fun l7 =>
((l7[0]?).bind (getI .i64)).bind fun n8 =>
((l7[1]?).bind (getI .i64)).bind fun n9 =>
((l7[2]?).bind (getI .i64)).bind fun n10 =>
((l7[3]?).bind (getI .i64)).bind fun n11 =>
((l7[4]?).bind getStr).bind fun s12 =>
((l7[5]?).bind getS).bind fun l13 =>
(wr base r6.2 (List.length h) 0 [(.int .i64 n8), (.int .i64 n9), (.int .i64 n10), (.int .i64 n11), (.string s12), (.slice l13.1 l13.2 l13.2)]).bind fun h14 =>
((cell h14 (List.length h) 0).bind (getI .i64)).bind fun n15 =>
((cell h14 (List.length h) 1).bind (getI .i64)).bind fun n16 =>
((cell h14 (List.length h) 2).bind (getI .i64)).bind fun n17 =>
((cell h14 (List.length h) 3).bind (getI .i64)).bind fun n18 =>
((cell h14 (List.length h) 4).bind getStr).bind fun s19 =>
((cell h14 (List.length h) 5).bind getS).bind fun l20 =>
some ((.tuple #[(.slice l5.1 l5.2 l5.2), (.agg #[(.int .i64 n15), (.int .i64 n16), (.int .i64 n17), (.int .i64 n18), (.string s19), (.slice l20.1 l20.2 l20.2)])]), h14) : Option (Value × AH)) := by kernel_rfl
theorem r6 {base : Nat} {v0 : Option Addr} {v0n : Nat} {h : AH} {r : Value × AH} (hx :
((some (h ++ [some ⟨[(.int .i64 0), (.int .i64 0), (.int .i64 0), (.int .i64 0), (.string ⟨#[]⟩), (.slice none 0 0)], 29⟩])).bind fun h1 =>
(run (Et base) 20 [(.slice v0 v0n v0n)] h1).bind fun r2 =>
((some r2.1).bind getP).bind fun p3 =>
(run (Et base) 21 [(.pointer p3)] r2.2).bind fun r4 =>
((some r4.1).bind getS).bind fun l5 =>
(run (Et base) 22 [(.pointer p3)] r4.2).bind fun r6 =>
((some r6.1).bind (getAgg 6)).bind fun l7 =>
((l7[0]?).bind (getI .i64)).bind fun n8 =>
((l7[1]?).bind (getI .i64)).bind fun n9 =>
((l7[2]?).bind (getI .i64)).bind fun n10 =>
((l7[3]?).bind (getI .i64)).bind fun n11 =>
((l7[4]?).bind getStr).bind fun s12 =>
((l7[5]?).bind getS).bind fun l13 =>
(wr base r6.2 (List.length h) 0 [(.int .i64 n8), (.int .i64 n9), (.int .i64 n10), (.int .i64 n11), (.string s12), (.slice l13.1 l13.2 l13.2)]).bind fun h14 =>
((cell h14 (List.length h) 0).bind (getI .i64)).bind fun n15 =>
((cell h14 (List.length h) 1).bind (getI .i64)).bind fun n16 =>
((cell h14 (List.length h) 2).bind (getI .i64)).bind fun n17 =>
((cell h14 (List.length h) 3).bind (getI .i64)).bind fun n18 =>
((cell h14 (List.length h) 4).bind getStr).bind fun s19 =>
((cell h14 (List.length h) 5).bind getS).bind fun l20 =>
some ((.tuple #[(.slice l5.1 l5.2 l5.2), (.agg #[(.int .i64 n15), (.int .i64 n16), (.int .i64 n17), (.int .i64 n18), (.string s19), (.slice l20.1 l20.2 l20.2)])]), h14)) = some r) : run (Et base) 6 [(.slice v0 v0n v0n)] h = some r := run_i Try.func6 (by kernel_rfl) ((f6_eq base v0 v0n h).trans hx)
/-! impl.AddTimer (gates 4) -/
noncomputable def B7_0 (base : Nat) : Body := fun l h => lay s7_0 l fun s => exCode (Et base) (run (Et base)) loopL a7_0 (subC [1, 1, 1, 0, 0, 0] (bodyC Try.f7)) s h (keepK s7_0 e7_0)
theorem B7_0_eq (base : Nat) (v0 : Option Addr) (v0n : Nat) (v3 : Addr) (v6 : Int) (h : AH) : B7_0 base [some (.slice v0 v0n v0n), some (.pointer (some v3)), some (.int .i64 v6)] h =
(((if (decide (v6 < ((v0n : Nat) : Int))) = true then
(if 0 ≤ v6 ∧ v6 < ((v0n : Nat) : Int) then
((v0 : Option Addr)).bind fun a2 =>
((cell h a2.block ((a2.off + Int.toNat v6 * 6) + 0)).bind (getI .i64)).bind fun n3 =>
((cell h v3.block (v3.off + 0)).bind (getI .i64)).bind fun n4 =>
some (.inl ([some (.slice v0 v0n v0n), some (.pointer (some v3)), some (.int .i64 v6), some (.bool (decide (n3 ≤ n4)))], h))
else none)
else
some (.inl ([some (.slice v0 v0n v0n), some (.pointer (some v3)), some (.int .i64 v6), some (.bool false)], h)))).bind fun j1 => joinK j1 fun j1 =>
((sget j1.1 0).bind getS).bind fun l5 =>
((sget (j1.1.tail) 0).bind getA).bind fun d6 =>
((sget (j1.1.tail.tail) 0).bind (getI .i64)).bind fun n7 =>
((sget (j1.1.tail.tail.tail) 0).bind getB).bind fun b8 =>
(if b8 = true then
some (0, [some (.slice l5.1 l5.2 l5.2), some (.pointer (some d6)), some (.int .i64 (IntKind.wrap .i64 (n7 + (1 : Int))))], j1.2)
else
some (2, [some (.slice l5.1 l5.2 l5.2), some (.pointer (some d6)), some (.int .i64 n7)], j1.2)) : Option (Nat × Slots × AH)) := by kernel_rfl
theorem f7_eq (base : Nat) (v0 : Option Addr) (v0n : Nat) (v1_0 : Int) (v1_1 : Int) (v1_2 : Int) (v1_3 : Int) (v1_4 : ByteArray) (v1_5 : Option Addr) (v1_5n : Nat) (h : AH) : exFun (Et base) (run (Et base)) loopL a7 Try.f7 [(.slice v0 v0n v0n), (.agg #[(.int .i64 v1_0), (.int .i64 v1_1), (.int .i64 v1_2), (.int .i64 v1_3), (.string v1_4), (.slice v1_5 v1_5n v1_5n)])] h =
((some (h ++ [some ⟨[(.int .i64 v1_0), (.int .i64 v1_1), (.int .i64 v1_2), (.int .i64 v1_3), (.string v1_4), (.slice v1_5 v1_5n v1_5n)], 29⟩])).bind fun h1 =>
((run (Et base) 10 [(.slice v0 v0n v0n)] h1).bind fun r3 =>
((some r3.1).bind getB).bind fun b4 =>
(if (!b4) = true then
some (.inl ([some (.slice v0 v0n v0n), some (.pointer (some ⟨(List.length h), 0, none⟩)), some (.bool true)], r3.2))
else
((cell r3.2 (List.length h) 0).bind (getI .i64)).bind fun n5 =>
((cell r3.2 (List.length h) 1).bind (getI .i64)).bind fun n6 =>
((cell r3.2 (List.length h) 2).bind (getI .i64)).bind fun n7 =>
((cell r3.2 (List.length h) 3).bind (getI .i64)).bind fun n8 =>
((cell r3.2 (List.length h) 4).bind getStr).bind fun s9 =>
((cell r3.2 (List.length h) 5).bind getS).bind fun l10 =>
(run (Et base) 23 [(.agg #[(.int .i64 n5), (.int .i64 n6), (.int .i64 n7), (.int .i64 n8), (.string s9), (.slice l10.1 l10.2 l10.2)])] r3.2).bind fun r11 =>
((some r11.1).bind getB).bind fun b12 =>
(if (!b12) = true then
some (.inl ([some (.slice v0 v0n v0n), some (.pointer (some ⟨(List.length h), 0, none⟩)), some (.bool true)], r11.2))
else
some (.inl ([some (.slice v0 v0n v0n), some (.pointer (some ⟨(List.length h), 0, none⟩)), some (.bool (decide (((v0n : Nat) : Int) ≥ (50 : Int))))], r11.2))))).bind fun j2 => joinK j2 fun j2 =>
((sget j2.1 0).bind getS).bind fun l13 =>
((sget (j2.1.tail) 0).bind getA).bind fun d14 =>
((sget (j2.1.tail.tail) 0).bind getB).bind fun b15 =>
(if b15 = true then
(run (Et base) 24 [(.slice l13.1 l13.2 l13.2), (.func (.func 25) #[] #[])] j2.2).bind fun r16 =>
((some r16.1).bind getS).bind fun l17 =>
some ((.tuple #[(.slice l17.1 l17.2 l17.2), (.bool false)]), r16.2)
else
(loopL (B7_0 base) [some (.slice l13.1 l13.2 l13.2), some (.pointer (some d14)), some (.int .i64 (0 : Int))] j2.2).bind fun q18 =>
(if q18.1 = 2 then
((sget q18.2.1 0).bind getS).bind fun l19 =>
((sget (q18.2.1.tail) 0).bind getA).bind fun d20 =>
((sget (q18.2.1.tail.tail) 0).bind (getI .i64)).bind fun n21 =>
(if 0 ≤ (0 : Int) ∧ (0 : Int) ≤ n21 ∧ n21 ≤ ((l19.2 : Nat) : Int) ∧ okTy base q18.2.2 l19.1 29 (Int.toNat (0 : Int)) = true then
(app base q18.2.2 29 6 72 none 0 (rawAt q18.2.2 (shiftA l19.1 (Int.toNat (0 : Int) * 6)) ((Int.toNat n21 - Int.toNat (0 : Int)) * 6)) (Int.toNat n21 - Int.toNat (0 : Int))).bind fun p22 =>
((some p22.1).bind getS).bind fun l23 =>
(gate (sameA q18.2.2 p22.2 (some d20) 6)
(((cell p22.2 d20.block d20.off).bind (getI .i64)).bind fun n24 =>
((cell p22.2 d20.block (d20.off + 1)).bind (getI .i64)).bind fun n25 =>
((cell p22.2 d20.block ((d20.off + 1) + 1)).bind (getI .i64)).bind fun n26 =>
((cell p22.2 d20.block (((d20.off + 1) + 1) + 1)).bind (getI .i64)).bind fun n27 =>
((cell p22.2 d20.block ((((d20.off + 1) + 1) + 1) + 1)).bind getStr).bind fun s28 =>
((cell p22.2 d20.block (((((d20.off + 1) + 1) + 1) + 1) + 1)).bind getS).bind fun l29 =>
(some (p22.2 ++ [some ⟨[(.int .i64 n24), (.int .i64 n25), (.int .i64 n26), (.int .i64 n27), (.string s28), (.slice l29.1 l29.2 l29.2)], 29⟩])).bind fun h30 =>
(app base h30 29 6 72 l23.1 l23.2 (rawAt h30 (some ⟨(List.length p22.2), 0, none⟩) (1 * 6)) 1).bind fun p31 =>
((some p31.1).bind getS).bind fun l32 =>
(gate (neA l19.1 (List.length p22.2))
((gate (sameA h30 p31.2 l19.1 0)
((gate (sameA q18.2.2 p31.2 l19.1 0)
((if 0 ≤ n21 ∧ n21 ≤ ((l19.2 : Nat) : Int) ∧ ((l19.2 : Nat) : Int) ≤ ((l19.2 : Nat) : Int) ∧ okTy base p31.2 l19.1 29 (Int.toNat n21) = true then
(app base p31.2 29 6 72 l32.1 l32.2 (rawAt p31.2 (shiftA l19.1 (Int.toNat n21 * 6)) ((Int.toNat ((l19.2 : Nat) : Int) - Int.toNat n21) * 6)) (Int.toNat ((l19.2 : Nat) : Int) - Int.toNat n21)).bind fun p33 =>
((some p33.1).bind getS).bind fun l34 =>
(run (Et base) 24 [(.slice l34.1 l34.2 l34.2), (.func (.func 25) #[] #[])] p33.2).bind fun r35 =>
((some r35.1).bind getS).bind fun l36 =>
some ((.tuple #[(.slice l36.1 l36.2 l36.2), (.bool true)]), r35.2)
else none)))))))))
else none)
else
none)) : Option (Value × AH)) := by kernel_rfl
theorem r7 {base : Nat} {v0 : Option Addr} {v0n : Nat} {v1_0 : Int} {v1_1 : Int} {v1_2 : Int} {v1_3 : Int} {v1_4 : ByteArray} {v1_5 : Option Addr} {v1_5n : Nat} {h : AH} {r : Value × AH} (hx :
((some (h ++ [some ⟨[(.int .i64 v1_0), (.int .i64 v1_1), (.int .i64 v1_2), (.int .i64 v1_3), (.string v1_4), (.slice v1_5 v1_5n v1_5n)], 29⟩])).bind fun h1 =>
((run (Et base) 10 [(.slice v0 v0n v0n)] h1).bind fun r3 =>
((some r3.1).bind getB).bind fun b4 =>
(if (!b4) = true then
some (.inl ([some (.slice v0 v0n v0n), some (.pointer (some ⟨(List.length h), 0, none⟩)), some (.bool true)], r3.2))
else
((cell r3.2 (List.length h) 0).bind (getI .i64)).bind fun n5 =>
((cell r3.2 (List.length h) 1).bind (getI .i64)).bind fun n6 =>
((cell r3.2 (List.length h) 2).bind (getI .i64)).bind fun n7 =>
((cell r3.2 (List.length h) 3).bind (getI .i64)).bind fun n8 =>
((cell r3.2 (List.length h) 4).bind getStr).bind fun s9 =>
((cell r3.2 (List.length h) 5).bind getS).bind fun l10 =>
(run (Et base) 23 [(.agg #[(.int .i64 n5), (.int .i64 n6), (.int .i64 n7), (.int .i64 n8), (.string s9), (.slice l10.1 l10.2 l10.2)])] r3.2).bind fun r11 =>
((some r11.1).bind getB).bind fun b12 =>
(if (!b12) = true then
some (.inl ([some (.slice v0 v0n v0n), some (.pointer (some ⟨(List.length h), 0, none⟩)), some (.bool true)], r11.2))
else
some (.inl ([some (.slice v0 v0n v0n), some (.pointer (some ⟨(List.length h), 0, none⟩)), some (.bool (decide (((v0n : Nat) : Int) ≥ (50 : Int))))], r11.2))))).bind fun j2 => joinK j2 fun j2 =>
((sget j2.1 0).bind getS).bind fun l13 =>
((sget (j2.1.tail) 0).bind getA).bind fun d14 =>
((sget (j2.1.tail.tail) 0).bind getB).bind fun b15 =>
(if b15 = true then
(run (Et base) 24 [(.slice l13.1 l13.2 l13.2), (.func (.func 25) #[] #[])] j2.2).bind fun r16 =>
((some r16.1).bind getS).bind fun l17 =>
some ((.tuple #[(.slice l17.1 l17.2 l17.2), (.bool false)]), r16.2)
else
(loopL (B7_0 base) [some (.slice l13.1 l13.2 l13.2), some (.pointer (some d14)), some (.int .i64 (0 : Int))] j2.2).bind fun q18 =>
(if q18.1 = 2 then
((sget q18.2.1 0).bind getS).bind fun l19 =>
((sget (q18.2.1.tail) 0).bind getA).bind fun d20 =>
((sget (q18.2.1.tail.tail) 0).bind (getI .i64)).bind fun n21 =>
(if 0 ≤ (0 : Int) ∧ (0 : Int) ≤ n21 ∧ n21 ≤ ((l19.2 : Nat) : Int) ∧ okTy base q18.2.2 l19.1 29 (Int.toNat (0 : Int)) = true then
(app base q18.2.2 29 6 72 none 0 (rawAt q18.2.2 (shiftA l19.1 (Int.toNat (0 : Int) * 6)) ((Int.toNat n21 - Int.toNat (0 : Int)) * 6)) (Int.toNat n21 - Int.toNat (0 : Int))).bind fun p22 =>
((some p22.1).bind getS).bind fun l23 =>
(gate (sameA q18.2.2 p22.2 (some d20) 6)
(((cell p22.2 d20.block d20.off).bind (getI .i64)).bind fun n24 =>
((cell p22.2 d20.block (d20.off + 1)).bind (getI .i64)).bind fun n25 =>
((cell p22.2 d20.block ((d20.off + 1) + 1)).bind (getI .i64)).bind fun n26 =>
((cell p22.2 d20.block (((d20.off + 1) + 1) + 1)).bind (getI .i64)).bind fun n27 =>
((cell p22.2 d20.block ((((d20.off + 1) + 1) + 1) + 1)).bind getStr).bind fun s28 =>
((cell p22.2 d20.block (((((d20.off + 1) + 1) + 1) + 1) + 1)).bind getS).bind fun l29 =>
(some (p22.2 ++ [some ⟨[(.int .i64 n24), (.int .i64 n25), (.int .i64 n26), (.int .i64 n27), (.string s28), (.slice l29.1 l29.2 l29.2)], 29⟩])).bind fun h30 =>
(app base h30 29 6 72 l23.1 l23.2 (rawAt h30 (some ⟨(List.length p22.2), 0, none⟩) (1 * 6)) 1).bind fun p31 =>
((some p31.1).bind getS).bind fun l32 =>
(gate (neA l19.1 (List.length p22.2))
((gate (sameA h30 p31.2 l19.1 0)
((gate (sameA q18.2.2 p31.2 l19.1 0)
((if 0 ≤ n21 ∧ n21 ≤ ((l19.2 : Nat) : Int) ∧ ((l19.2 : Nat) : Int) ≤ ((l19.2 : Nat) : Int) ∧ okTy base p31.2 l19.1 29 (Int.toNat n21) = true then
(app base p31.2 29 6 72 l32.1 l32.2 (rawAt p31.2 (shiftA l19.1 (Int.toNat n21 * 6)) ((Int.toNat ((l19.2 : Nat) : Int) - Int.toNat n21) * 6)) (Int.toNat ((l19.2 : Nat) : Int) - Int.toNat n21)).bind fun p33 =>
((some p33.1).bind getS).bind fun l34 =>
(run (Et base) 24 [(.slice l34.1 l34.2 l34.2), (.func (.func 25) #[] #[])] p33.2).bind fun r35 =>
((some r35.1).bind getS).bind fun l36 =>
some ((.tuple #[(.slice l36.1 l36.2 l36.2), (.bool true)]), r35.2)
else none)))))))))
else none)
else
none))) = some r) : run (Et base) 7 [(.slice v0 v0n v0n), (.agg #[(.int .i64 v1_0), (.int .i64 v1_1), (.int .i64 v1_2), (.int .i64 v1_3), (.string v1_4), (.slice v1_5 v1_5n v1_5n)])] h = some r := run_i Try.func7 (by kernel_rfl) ((f7_eq base v0 v0n v1_0 v1_1 v1_2 v1_3 v1_4 v1_5 v1_5n h).trans hx)
/-! spec.AddTimer (gates 0) -/
noncomputable def B8_0 (base : Nat) : Body := fun l h => lay s8_0 l fun s => exCode (Et base) (run (Et base)) loopL a8_0 (subC [1, 1, 1, 1, 1, 1, 0, 0, 0] (bodyC Try.f8)) s h (keepK s8_0 e8_0)
theorem B8_0_eq (base : Nat) (v3 : Addr) (v6 : Option Addr) (v6n : Nat) (v7 : Int) (h : AH) : B8_0 base [some (.pointer (some v3)), some (.slice v6 v6n v6n), some (.int .i64 v7)] h =
(((if (decide (v7 > (0 : Int))) = true then
(if 0 ≤ (IntKind.wrap .i64 (v7 - (1 : Int))) ∧ (IntKind.wrap .i64 (v7 - (1 : Int))) < ((v6n : Nat) : Int) then
((v6 : Option Addr)).bind fun a2 =>
((cell h a2.block ((a2.off + Int.toNat (IntKind.wrap .i64 (v7 - (1 : Int))) * 6) + 0)).bind (getI .i64)).bind fun n3 =>
((cell h v3.block (v3.off + 0)).bind (getI .i64)).bind fun n4 =>
some (.inl ([some (.pointer (some v3)), some (.slice v6 v6n v6n), some (.int .i64 v7), some (.bool (decide (n3 > n4)))], h))
else none)
else
some (.inl ([some (.pointer (some v3)), some (.slice v6 v6n v6n), some (.int .i64 v7), some (.bool false)], h)))).bind fun j1 => joinK j1 fun j1 =>
((sget j1.1 0).bind getA).bind fun d5 =>
((sget (j1.1.tail) 0).bind getS).bind fun l6 =>
((sget (j1.1.tail.tail) 0).bind (getI .i64)).bind fun n7 =>
((sget (j1.1.tail.tail.tail) 0).bind getB).bind fun b8 =>
(if b8 = true then
(if 0 ≤ (IntKind.wrap .i64 (n7 - (1 : Int))) ∧ (IntKind.wrap .i64 (n7 - (1 : Int))) < ((l6.2 : Nat) : Int) then
((l6.1 : Option Addr)).bind fun a9 =>
((cell j1.2 a9.block (a9.off + Int.toNat (IntKind.wrap .i64 (n7 - (1 : Int))) * 6)).bind (getI .i64)).bind fun n10 =>
((cell j1.2 a9.block ((a9.off + Int.toNat (IntKind.wrap .i64 (n7 - (1 : Int))) * 6) + 1)).bind (getI .i64)).bind fun n11 =>
((cell j1.2 a9.block (((a9.off + Int.toNat (IntKind.wrap .i64 (n7 - (1 : Int))) * 6) + 1) + 1)).bind (getI .i64)).bind fun n12 =>
((cell j1.2 a9.block ((((a9.off + Int.toNat (IntKind.wrap .i64 (n7 - (1 : Int))) * 6) + 1) + 1) + 1)).bind (getI .i64)).bind fun n13 =>
((cell j1.2 a9.block (((((a9.off + Int.toNat (IntKind.wrap .i64 (n7 - (1 : Int))) * 6) + 1) + 1) + 1) + 1)).bind getStr).bind fun s14 =>
((cell j1.2 a9.block ((((((a9.off + Int.toNat (IntKind.wrap .i64 (n7 - (1 : Int))) * 6) + 1) + 1) + 1) + 1) + 1)).bind getS).bind fun l15 =>
(if 0 ≤ n7 ∧ n7 < ((l6.2 : Nat) : Int) then
((l6.1 : Option Addr)).bind fun a16 =>
(wr base j1.2 a16.block (a16.off + Int.toNat n7 * 6) [(.int .i64 n10), (.int .i64 n11), (.int .i64 n12), (.int .i64 n13), (.string s14), (.slice l15.1 l15.2 l15.2)]).bind fun h17 =>
some (0, [some (.pointer (some d5)), some (.slice l6.1 l6.2 l6.2), some (.int .i64 (IntKind.wrap .i64 (n7 - (1 : Int))))], h17)
else none)
else none)
else
some (2, [some (.pointer (some d5)), some (.slice l6.1 l6.2 l6.2), some (.int .i64 n7)], j1.2)) : Option (Nat × Slots × AH)) := by kernel_rfl
theorem f8_eq (base : Nat) (v0 : Option Addr) (v0n : Nat) (v1_0 : Int) (v1_1 : Int) (v1_2 : Int) (v1_3 : Int) (v1_4 : ByteArray) (v1_5 : Option Addr) (v1_5n : Nat) (h : AH) : exFun (Et base) (run (Et base)) loopL a8 Try.f8 [(.slice v0 v0n v0n), (.agg #[(.int .i64 v1_0), (.int .i64 v1_1), (.int .i64 v1_2), (.int .i64 v1_3), (.string v1_4), (.slice v1_5 v1_5n v1_5n)])] h =
((some (h ++ [some ⟨[(.int .i64 v1_0), (.int .i64 v1_1), (.int .i64 v1_2), (.int .i64 v1_3), (.string v1_4), (.slice v1_5 v1_5n v1_5n)], 29⟩])).bind fun h1 =>
(run (Et base) 26 [(.slice v0 v0n v0n)] h1).bind fun r2 =>
((some r2.1).bind getS).bind fun l3 =>
((run (Et base) 27 [(.slice v0 v0n v0n)] r2.2).bind fun r5 =>
((some r5.1).bind getB).bind fun b6 =>
(if (!b6) = true then
some (.inl ([some (.pointer (some ⟨(List.length h), 0, none⟩)), some (.slice l3.1 l3.2 l3.2), some (.bool true)], r5.2))
else
((cell r5.2 (List.length h) 0).bind (getI .i64)).bind fun n7 =>
((cell r5.2 (List.length h) 1).bind (getI .i64)).bind fun n8 =>
((cell r5.2 (List.length h) 2).bind (getI .i64)).bind fun n9 =>
((cell r5.2 (List.length h) 3).bind (getI .i64)).bind fun n10 =>
((cell r5.2 (List.length h) 4).bind getStr).bind fun s11 =>
((cell r5.2 (List.length h) 5).bind getS).bind fun l12 =>
(run (Et base) 28 [(.agg #[(.int .i64 n7), (.int .i64 n8), (.int .i64 n9), (.int .i64 n10), (.string s11), (.slice l12.1 l12.2 l12.2)])] r5.2).bind fun r13 =>
((some r13.1).bind getB).bind fun b14 =>
(if (!b14) = true then
some (.inl ([some (.pointer (some ⟨(List.length h), 0, none⟩)), some (.slice l3.1 l3.2 l3.2), some (.bool true)], r13.2))
else
some (.inl ([some (.pointer (some ⟨(List.length h), 0, none⟩)), some (.slice l3.1 l3.2 l3.2), some (.bool (((v0n : Nat) : Int) == (50 : Int)))], r13.2))))).bind fun j4 => joinK j4 fun j4 =>
((sget j4.1 0).bind getA).bind fun d15 =>
((sget (j4.1.tail) 0).bind getS).bind fun l16 =>
((sget (j4.1.tail.tail) 0).bind getB).bind fun b17 =>
(if b17 = true then
some ((.tuple #[(.slice l16.1 l16.2 l16.2), (.bool false)]), j4.2)
else
((cell j4.2 d15.block (d15.off + 2)).bind (getI .i64)).bind fun n18 =>
((cell j4.2 d15.block ((d15.off + 2) + 1)).bind (getI .i64)).bind fun n19 =>
((cell j4.2 d15.block (((d15.off + 2) + 1) + 1)).bind getStr).bind fun s20 =>
((cell j4.2 d15.block ((((d15.off + 2) + 1) + 1) + 1)).bind getS).bind fun l21 =>
(run (Et base) 29 [(.agg #[(.int .i64 n18), (.int .i64 n19), (.string s20), (.slice l21.1 l21.2 l21.2)])] j4.2).bind fun r22 =>
((some r22.1).bind (getAgg 4)).bind fun l23 =>
((l23[0]?).bind (getI .i64)).bind fun n24 =>
((l23[1]?).bind (getI .i64)).bind fun n25 =>
((l23[2]?).bind getStr).bind fun s26 =>
((l23[3]?).bind getS).bind fun l27 =>
(wr base r22.2 d15.block (d15.off + 2) [(.int .i64 n24), (.int .i64 n25), (.string s26), (.slice l27.1 l27.2 l27.2)]).bind fun h28 =>
((cell h28 d15.block d15.off).bind (getI .i64)).bind fun n29 =>
((cell h28 d15.block (d15.off + 1)).bind (getI .i64)).bind fun n30 =>
((cell h28 d15.block ((d15.off + 1) + 1)).bind (getI .i64)).bind fun n31 =>
((cell h28 d15.block (((d15.off + 1) + 1) + 1)).bind (getI .i64)).bind fun n32 =>
((cell h28 d15.block ((((d15.off + 1) + 1) + 1) + 1)).bind getStr).bind fun s33 =>
((cell h28 d15.block (((((d15.off + 1) + 1) + 1) + 1) + 1)).bind getS).bind fun l34 =>
(some (h28 ++ [some ⟨[(.int .i64 n29), (.int .i64 n30), (.int .i64 n31), (.int .i64 n32), (.string s33), (.slice l34.1 l34.2 l34.2)], 29⟩])).bind fun h35 =>
(app base h35 29 6 72 l16.1 l16.2 (rawAt h35 (some ⟨(List.length h28), 0, none⟩) (1 * 6)) 1).bind fun p36 =>
((some p36.1).bind getS).bind fun l37 =>
(loopL (B8_0 base) [some (.pointer (some d15)), some (.slice l37.1 l37.2 l37.2), some (.int .i64 ((l16.2 : Nat) : Int))] p36.2).bind fun q38 =>
(if q38.1 = 2 then
((sget q38.2.1 0).bind getA).bind fun d39 =>
((sget (q38.2.1.tail) 0).bind getS).bind fun l40 =>
((sget (q38.2.1.tail.tail) 0).bind (getI .i64)).bind fun n41 =>
((cell q38.2.2 d39.block d39.off).bind (getI .i64)).bind fun n42 =>
((cell q38.2.2 d39.block (d39.off + 1)).bind (getI .i64)).bind fun n43 =>
((cell q38.2.2 d39.block ((d39.off + 1) + 1)).bind (getI .i64)).bind fun n44 =>
((cell q38.2.2 d39.block (((d39.off + 1) + 1) + 1)).bind (getI .i64)).bind fun n45 =>
((cell q38.2.2 d39.block ((((d39.off + 1) + 1) + 1) + 1)).bind getStr).bind fun s46 =>
((cell q38.2.2 d39.block (((((d39.off + 1) + 1) + 1) + 1) + 1)).bind getS).bind fun l47 =>
(if 0 ≤ n41 ∧ n41 < ((l40.2 : Nat) : Int) then
((l40.1 : Option Addr)).bind fun a48 =>
(wr base q38.2.2 a48.block (a48.off + Int.toNat n41 * 6) [(.int .i64 n42), (.int .i64 n43), (.int .i64 n44), (.int .i64 n45), (.string s46), (.slice l47.1 l47.2 l47.2)]).bind fun h49 =>
some ((.tuple #[(.slice l40.1 l40.2 l40.2), (.bool true)]), h49)
else none)
else
none)) : Option (Value × AH)) := by kernel_rfl
theorem r8 {base : Nat} {v0 : Option Addr} {v0n : Nat} {v1_0 : Int} {v1_1 : Int} {v1_2 : Int} {v1_3 : Int} {v1_4 : ByteArray} {v1_5 : Option Addr} {v1_5n : Nat} {h : AH} {r : Value × AH} (hx :
((some (h ++ [some ⟨[(.int .i64 v1_0), (.int .i64 v1_1), (.int .i64 v1_2), (.int .i64 v1_3), (.string v1_4), (.slice v1_5 v1_5n v1_5n)], 29⟩])).bind fun h1 =>
(run (Et base) 26 [(.slice v0 v0n v0n)] h1).bind fun r2 =>
((some r2.1).bind getS).bind fun l3 =>
((run (Et base) 27 [(.slice v0 v0n v0n)] r2.2).bind fun r5 =>
((some r5.1).bind getB).bind fun b6 =>
(if (!b6) = true then
some (.inl ([some (.pointer (some ⟨(List.length h), 0, none⟩)), some (.slice l3.1 l3.2 l3.2), some (.bool true)], r5.2))
else
((cell r5.2 (List.length h) 0).bind (getI .i64)).bind fun n7 =>
((cell r5.2 (List.length h) 1).bind (getI .i64)).bind fun n8 =>
((cell r5.2 (List.length h) 2).bind (getI .i64)).bind fun n9 =>
((cell r5.2 (List.length h) 3).bind (getI .i64)).bind fun n10 =>
((cell r5.2 (List.length h) 4).bind getStr).bind fun s11 =>
((cell r5.2 (List.length h) 5).bind getS).bind fun l12 =>
(run (Et base) 28 [(.agg #[(.int .i64 n7), (.int .i64 n8), (.int .i64 n9), (.int .i64 n10), (.string s11), (.slice l12.1 l12.2 l12.2)])] r5.2).bind fun r13 =>
((some r13.1).bind getB).bind fun b14 =>
(if (!b14) = true then
some (.inl ([some (.pointer (some ⟨(List.length h), 0, none⟩)), some (.slice l3.1 l3.2 l3.2), some (.bool true)], r13.2))
else
some (.inl ([some (.pointer (some ⟨(List.length h), 0, none⟩)), some (.slice l3.1 l3.2 l3.2), some (.bool (((v0n : Nat) : Int) == (50 : Int)))], r13.2))))).bind fun j4 => joinK j4 fun j4 =>
((sget j4.1 0).bind getA).bind fun d15 =>
((sget (j4.1.tail) 0).bind getS).bind fun l16 =>
((sget (j4.1.tail.tail) 0).bind getB).bind fun b17 =>
(if b17 = true then
some ((.tuple #[(.slice l16.1 l16.2 l16.2), (.bool false)]), j4.2)
else
((cell j4.2 d15.block (d15.off + 2)).bind (getI .i64)).bind fun n18 =>
((cell j4.2 d15.block ((d15.off + 2) + 1)).bind (getI .i64)).bind fun n19 =>
((cell j4.2 d15.block (((d15.off + 2) + 1) + 1)).bind getStr).bind fun s20 =>
((cell j4.2 d15.block ((((d15.off + 2) + 1) + 1) + 1)).bind getS).bind fun l21 =>
(run (Et base) 29 [(.agg #[(.int .i64 n18), (.int .i64 n19), (.string s20), (.slice l21.1 l21.2 l21.2)])] j4.2).bind fun r22 =>
((some r22.1).bind (getAgg 4)).bind fun l23 =>
((l23[0]?).bind (getI .i64)).bind fun n24 =>
((l23[1]?).bind (getI .i64)).bind fun n25 =>
((l23[2]?).bind getStr).bind fun s26 =>
((l23[3]?).bind getS).bind fun l27 =>
(wr base r22.2 d15.block (d15.off + 2) [(.int .i64 n24), (.int .i64 n25), (.string s26), (.slice l27.1 l27.2 l27.2)]).bind fun h28 =>
((cell h28 d15.block d15.off).bind (getI .i64)).bind fun n29 =>
((cell h28 d15.block (d15.off + 1)).bind (getI .i64)).bind fun n30 =>
((cell h28 d15.block ((d15.off + 1) + 1)).bind (getI .i64)).bind fun n31 =>
((cell h28 d15.block (((d15.off + 1) + 1) + 1)).bind (getI .i64)).bind fun n32 =>
((cell h28 d15.block ((((d15.off + 1) + 1) + 1) + 1)).bind getStr).bind fun s33 =>
((cell h28 d15.block (((((d15.off + 1) + 1) + 1) + 1) + 1)).bind getS).bind fun l34 =>
(some (h28 ++ [some ⟨[(.int .i64 n29), (.int .i64 n30), (.int .i64 n31), (.int .i64 n32), (.string s33), (.slice l34.1 l34.2 l34.2)], 29⟩])).bind fun h35 =>
(app base h35 29 6 72 l16.1 l16.2 (rawAt h35 (some ⟨(List.length h28), 0, none⟩) (1 * 6)) 1).bind fun p36 =>
((some p36.1).bind getS).bind fun l37 =>
(loopL (B8_0 base) [some (.pointer (some d15)), some (.slice l37.1 l37.2 l37.2), some (.int .i64 ((l16.2 : Nat) : Int))] p36.2).bind fun q38 =>
(if q38.1 = 2 then
((sget q38.2.1 0).bind getA).bind fun d39 =>
((sget (q38.2.1.tail) 0).bind getS).bind fun l40 =>
((sget (q38.2.1.tail.tail) 0).bind (getI .i64)).bind fun n41 =>
((cell q38.2.2 d39.block d39.off).bind (getI .i64)).bind fun n42 =>
((cell q38.2.2 d39.block (d39.off + 1)).bind (getI .i64)).bind fun n43 =>
((cell q38.2.2 d39.block ((d39.off + 1) + 1)).bind (getI .i64)).bind fun n44 =>
((cell q38.2.2 d39.block (((d39.off + 1) + 1) + 1)).bind (getI .i64)).bind fun n45 =>
((cell q38.2.2 d39.block ((((d39.off + 1) + 1) + 1) + 1)).bind getStr).bind fun s46 =>
((cell q38.2.2 d39.block (((((d39.off + 1) + 1) + 1) + 1) + 1)).bind getS).bind fun l47 =>
(if 0 ≤ n41 ∧ n41 < ((l40.2 : Nat) : Int) then
((l40.1 : Option Addr)).bind fun a48 =>
(wr base q38.2.2 a48.block (a48.off + Int.toNat n41 * 6) [(.int .i64 n42), (.int .i64 n43), (.int .i64 n44), (.int .i64 n45), (.string s46), (.slice l47.1 l47.2 l47.2)]).bind fun h49 =>
some ((.tuple #[(.slice l40.1 l40.2 l40.2), (.bool true)]), h49)
else none)
else
none))) = some r) : run (Et base) 8 [(.slice v0 v0n v0n), (.agg #[(.int .i64 v1_0), (.int .i64 v1_1), (.int .i64 v1_2), (.int .i64 v1_3), (.string v1_4), (.slice v1_5 v1_5n v1_5n)])] h = some r := run_i Try.func8 (by kernel_rfl) ((f8_eq base v0 v0n v1_0 v1_1 v1_2 v1_3 v1_4 v1_5 v1_5n h).trans hx)
/-! impl.SameTerm (gates 0) -/
noncomputable def B9_0 (base : Nat) : Body := fun l h => lay s9_0 l fun s => exCode (Et base) (run (Et base)) loopL a9_0 (subC [1, 1, 0, 1, 0, 0] (bodyC Try.f9)) s h (keepK s9_0 e9_0)
theorem B9_0_eq (base : Nat) (v2 : Addr) (v3 : Addr) (v36 : Int) (v37 : Int) (h : AH) : B9_0 base [some (.pointer (some v2)), some (.pointer (some v3)), some (.int .i64 v36), some (.int .i64 v37)] h =
((if (decide (v37 < v36)) = true then
((cell h v2.block (v2.off + 3)).bind getS).bind fun l1 =>
(if 0 ≤ v37 ∧ v37 < ((l1.2 : Nat) : Int) then
((l1.1 : Option Addr)).bind fun a2 =>
((cell h a2.block (a2.off + Int.toNat v37 * 4)).bind (getI .i64)).bind fun n3 =>
((cell h a2.block ((a2.off + Int.toNat v37 * 4) + 1)).bind (getI .i64)).bind fun n4 =>
((cell h a2.block (((a2.off + Int.toNat v37 * 4) + 1) + 1)).bind getStr).bind fun s5 =>
((cell h a2.block ((((a2.off + Int.toNat v37 * 4) + 1) + 1) + 1)).bind getS).bind fun l6 =>
((cell h v3.block (v3.off + 3)).bind getS).bind fun l7 =>
(if 0 ≤ v37 ∧ v37 < ((l7.2 : Nat) : Int) then
((l7.1 : Option Addr)).bind fun a8 =>
((cell h a8.block (a8.off + Int.toNat v37 * 4)).bind (getI .i64)).bind fun n9 =>
((cell h a8.block ((a8.off + Int.toNat v37 * 4) + 1)).bind (getI .i64)).bind fun n10 =>
((cell h a8.block (((a8.off + Int.toNat v37 * 4) + 1) + 1)).bind getStr).bind fun s11 =>
((cell h a8.block ((((a8.off + Int.toNat v37 * 4) + 1) + 1) + 1)).bind getS).bind fun l12 =>
(run (Et base) 9 [(.agg #[(.int .i64 n3), (.int .i64 n4), (.string s5), (.slice l6.1 l6.2 l6.2)]), (.agg #[(.int .i64 n9), (.int .i64 n10), (.string s11), (.slice l12.1 l12.2 l12.2)])] h).bind fun r13 =>
((some r13.1).bind getB).bind fun b14 =>
(if (!b14) = true then
some (1, [some (.bool false)], r13.2)
else
some (0, [some (.pointer (some v2)), some (.pointer (some v3)), some (.int .i64 v36), some (.int .i64 (IntKind.wrap .i64 (v37 + (1 : Int))))], r13.2))
else none)
else none)
else
some (2, [], h)) : Option (Nat × Slots × AH)) := by kernel_rfl
theorem f9_eq (base : Nat) (v0_0 : Int) (v0_1 : Int) (v0_2 : ByteArray) (v0_3 : Option Addr) (v0_3n : Nat) (v1_0 : Int) (v1_1 : Int) (v1_2 : ByteArray) (v1_3 : Option Addr) (v1_3n : Nat) (h : AH) : exFun (Et base) (run (Et base)) loopL a9 Try.f9 [(.agg #[(.int .i64 v0_0), (.int .i64 v0_1), (.string v0_2), (.slice v0_3 v0_3n v0_3n)]), (.agg #[(.int .i64 v1_0), (.int .i64 v1_1), (.string v1_2), (.slice v1_3 v1_3n v1_3n)])] h =
((some (h ++ [some ⟨[(.int .i64 v0_0), (.int .i64 v0_1), (.string v0_2), (.slice v0_3 v0_3n v0_3n)], 27⟩])).bind fun h1 =>
(some (h1 ++ [some ⟨[(.int .i64 v1_0), (.int .i64 v1_1), (.string v1_2), (.slice v1_3 v1_3n v1_3n)], 27⟩])).bind fun h2 =>
(((cell h2 (List.length h) 0).bind (getI .i64)).bind fun n4 =>
((cell h2 (List.length h1) 0).bind (getI .i64)).bind fun n5 =>
(if (n4 != n5) = true then
some (.inl ([some (.pointer (some ⟨(List.length h), 0, none⟩)), some (.pointer (some ⟨(List.length h1), 0, none⟩)), some (.bool true)], h2))
else
((cell h2 (List.length h) 1).bind (getI .i64)).bind fun n6 =>
((cell h2 (List.length h1) 1).bind (getI .i64)).bind fun n7 =>
(if (n6 != n7) = true then
some (.inl ([some (.pointer (some ⟨(List.length h), 0, none⟩)), some (.pointer (some ⟨(List.length h1), 0, none⟩)), some (.bool true)], h2))
else
((cell h2 (List.length h) 2).bind getStr).bind fun s8 =>
((cell h2 (List.length h1) 2).bind getStr).bind fun s9 =>
(if (!(s8.toList == s9.toList)) = true then
some (.inl ([some (.pointer (some ⟨(List.length h), 0, none⟩)), some (.pointer (some ⟨(List.length h1), 0, none⟩)), some (.bool true)], h2))
else
((cell h2 (List.length h) 3).bind getS).bind fun l10 =>
((cell h2 (List.length h1) 3).bind getS).bind fun l11 =>
some (.inl ([some (.pointer (some ⟨(List.length h), 0, none⟩)), some (.pointer (some ⟨(List.length h1), 0, none⟩)), some (.bool (((l10.2 : Nat) : Int) != ((l11.2 : Nat) : Int)))], h2)))))).bind fun j3 => joinK j3 fun j3 =>
((sget j3.1 0).bind getA).bind fun d12 =>
((sget (j3.1.tail) 0).bind getA).bind fun d13 =>
((sget (j3.1.tail.tail) 0).bind getB).bind fun b14 =>
(if b14 = true then
some ((.bool false), j3.2)
else
((cell j3.2 d12.block (d12.off + 3)).bind getS).bind fun l15 =>
(loopL (B9_0 base) [some (.pointer (some d12)), some (.pointer (some d13)), some (.int .i64 ((l15.2 : Nat) : Int)), some (.int .i64 (0 : Int))] j3.2).bind fun q16 =>
(if q16.1 = 1 then
((sget q16.2.1 0).bind getB).bind fun b17 =>
some ((.bool b17), q16.2.2)
else
(if q16.1 = 2 then
some ((.bool true), q16.2.2)
else
none))) : Option (Value × AH)) := by kernel_rfl
theorem r9 {base : Nat} {v0_0 : Int} {v0_1 : Int} {v0_2 : ByteArray} {v0_3 : Option Addr} {v0_3n : Nat} {v1_0 : Int} {v1_1 : Int} {v1_2 : ByteArray} {v1_3 : Option Addr} {v1_3n : Nat} {h : AH} {r : Value × AH} (hx :
((some (h ++ [some ⟨[(.int .i64 v0_0), (.int .i64 v0_1), (.string v0_2), (.slice v0_3 v0_3n v0_3n)], 27⟩])).bind fun h1 =>
(some (h1 ++ [some ⟨[(.int .i64 v1_0), (.int .i64 v1_1), (.string v1_2), (.slice v1_3 v1_3n v1_3n)], 27⟩])).bind fun h2 =>
(((cell h2 (List.length h) 0).bind (getI .i64)).bind fun n4 =>
((cell h2 (List.length h1) 0).bind (getI .i64)).bind fun n5 =>
(if (n4 != n5) = true then
some (.inl ([some (.pointer (some ⟨(List.length h), 0, none⟩)), some (.pointer (some ⟨(List.length h1), 0, none⟩)), some (.bool true)], h2))
else
((cell h2 (List.length h) 1).bind (getI .i64)).bind fun n6 =>
((cell h2 (List.length h1) 1).bind (getI .i64)).bind fun n7 =>
(if (n6 != n7) = true then
some (.inl ([some (.pointer (some ⟨(List.length h), 0, none⟩)), some (.pointer (some ⟨(List.length h1), 0, none⟩)), some (.bool true)], h2))
else
((cell h2 (List.length h) 2).bind getStr).bind fun s8 =>
((cell h2 (List.length h1) 2).bind getStr).bind fun s9 =>
(if (!(s8.toList == s9.toList)) = true then
some (.inl ([some (.pointer (some ⟨(List.length h), 0, none⟩)), some (.pointer (some ⟨(List.length h1), 0, none⟩)), some (.bool true)], h2))
else
((cell h2 (List.length h) 3).bind getS).bind fun l10 =>
((cell h2 (List.length h1) 3).bind getS).bind fun l11 =>
some (.inl ([some (.pointer (some ⟨(List.length h), 0, none⟩)), some (.pointer (some ⟨(List.length h1), 0, none⟩)), some (.bool (((l10.2 : Nat) : Int) != ((l11.2 : Nat) : Int)))], h2)))))).bind fun j3 => joinK j3 fun j3 =>
((sget j3.1 0).bind getA).bind fun d12 =>
((sget (j3.1.tail) 0).bind getA).bind fun d13 =>
((sget (j3.1.tail.tail) 0).bind getB).bind fun b14 =>
(if b14 = true then
some ((.bool false), j3.2)
else
((cell j3.2 d12.block (d12.off + 3)).bind getS).bind fun l15 =>
(loopL (B9_0 base) [some (.pointer (some d12)), some (.pointer (some d13)), some (.int .i64 ((l15.2 : Nat) : Int)), some (.int .i64 (0 : Int))] j3.2).bind fun q16 =>
(if q16.1 = 1 then
((sget q16.2.1 0).bind getB).bind fun b17 =>
some ((.bool b17), q16.2.2)
else
(if q16.1 = 2 then
some ((.bool true), q16.2.2)
else
none)))) = some r) : run (Et base) 9 [(.agg #[(.int .i64 v0_0), (.int .i64 v0_1), (.string v0_2), (.slice v0_3 v0_3n v0_3n)]), (.agg #[(.int .i64 v1_0), (.int .i64 v1_1), (.string v1_2), (.slice v1_3 v1_3n v1_3n)])] h = some r := run_i Try.func9 (by kernel_rfl) ((f9_eq base v0_0 v0_1 v0_2 v0_3 v0_3n v1_0 v1_1 v1_2 v1_3 v1_3n h).trans hx)
/-! impl.TimersOk (gates 0) -/
noncomputable def B10_0 (base : Nat) : Body := fun l h => lay s10_0 l fun s => exCode (Et base) (run (Et base)) loopL a10_0 (subC [1, 0, 1, 0, 0] (bodyC Try.f10)) s h (keepK s10_0 e10_0)
theorem B10_0_eq (base : Nat) (v0 : Option Addr) (v0n : Nat) (v5 : Option Addr) (v5n : Nat) (v6 : Int) (v7 : Int) (h : AH) : B10_0 base [some (.slice v0 v0n v0n), some (.slice v5 v5n v5n), some (.int .i64 v6), some (.int .i64 v7)] h =
((if (decide (v7 < v6)) = true then
(if 0 ≤ v7 ∧ v7 < ((v5n : Nat) : Int) then
((v5 : Option Addr)).bind fun a1 =>
((cell h a1.block (a1.off + Int.toNat v7 * 6)).bind (getI .i64)).bind fun n2 =>
((cell h a1.block ((a1.off + Int.toNat v7 * 6) + 1)).bind (getI .i64)).bind fun n3 =>
((cell h a1.block (((a1.off + Int.toNat v7 * 6) + 1) + 1)).bind (getI .i64)).bind fun n4 =>
((cell h a1.block ((((a1.off + Int.toNat v7 * 6) + 1) + 1) + 1)).bind (getI .i64)).bind fun n5 =>
((cell h a1.block (((((a1.off + Int.toNat v7 * 6) + 1) + 1) + 1) + 1)).bind getStr).bind fun s6 =>
((cell h a1.block ((((((a1.off + Int.toNat v7 * 6) + 1) + 1) + 1) + 1) + 1)).bind getS).bind fun l7 =>
(some (h ++ [some ⟨[(.int .i64 0), (.int .i64 0), (.int .i64 0), (.int .i64 0), (.string ⟨#[]⟩), (.slice none 0 0)], 29⟩])).bind fun h8 =>
(wr base h8 (List.length h) 0 [(.int .i64 n2), (.int .i64 n3), (.int .i64 n4), (.int .i64 n5), (.string s6), (.slice l7.1 l7.2 l7.2)]).bind fun h9 =>
(((cell h9 (List.length h) 0).bind (getI .i64)).bind fun n11 =>
((cell h9 (List.length h) 1).bind (getI .i64)).bind fun n12 =>
((cell h9 (List.length h) 2).bind (getI .i64)).bind fun n13 =>
((cell h9 (List.length h) 3).bind (getI .i64)).bind fun n14 =>
((cell h9 (List.length h) 4).bind getStr).bind fun s15 =>
((cell h9 (List.length h) 5).bind getS).bind fun l16 =>
(run (Et base) 23 [(.agg #[(.int .i64 n11), (.int .i64 n12), (.int .i64 n13), (.int .i64 n14), (.string s15), (.slice l16.1 l16.2 l16.2)])] h9).bind fun r17 =>
((some r17.1).bind getB).bind fun b18 =>
(if (!b18) = true then
some (.inl ([some (.slice v0 v0n v0n), some (.slice v5 v5n v5n), some (.int .i64 v6), some (.int .i64 v7), some (.bool true)], r17.2))
else
(if (decide (v7 > (0 : Int))) = true then
(if 0 ≤ (IntKind.wrap .i64 (v7 - (1 : Int))) ∧ (IntKind.wrap .i64 (v7 - (1 : Int))) < ((v0n : Nat) : Int) then
((v0 : Option Addr)).bind fun a19 =>
((cell r17.2 a19.block ((a19.off + Int.toNat (IntKind.wrap .i64 (v7 - (1 : Int))) * 6) + 0)).bind (getI .i64)).bind fun n20 =>
((cell r17.2 (List.length h) 0).bind (getI .i64)).bind fun n21 =>
some (.inl ([some (.slice v0 v0n v0n), some (.slice v5 v5n v5n), some (.int .i64 v6), some (.int .i64 v7), some (.bool (decide (n20 > n21)))], r17.2))
else none)
else
some (.inl ([some (.slice v0 v0n v0n), some (.slice v5 v5n v5n), some (.int .i64 v6), some (.int .i64 v7), some (.bool false)], r17.2))))).bind fun j10 => joinK j10 fun j10 =>
((sget j10.1 0).bind getS).bind fun l22 =>
((sget (j10.1.tail) 0).bind getS).bind fun l23 =>
((sget (j10.1.tail.tail) 0).bind (getI .i64)).bind fun n24 =>
((sget (j10.1.tail.tail.tail) 0).bind (getI .i64)).bind fun n25 =>
((sget (j10.1.tail.tail.tail.tail) 0).bind getB).bind fun b26 =>
(if b26 = true then
some (1, [some (.bool false)], j10.2)
else
some (0, [some (.slice l22.1 l22.2 l22.2), some (.slice l23.1 l23.2 l23.2), some (.int .i64 n24), some (.int .i64 (IntKind.wrap .i64 (n25 + (1 : Int))))], j10.2))
else none)
else
some (2, [some (.slice v0 v0n v0n)], h)) : Option (Nat × Slots × AH)) := by kernel_rfl
theorem f10_eq (base : Nat) (v0 : Option Addr) (v0n : Nat) (h : AH) : exFun (Et base) (run (Et base)) loopL a10 Try.f10 [(.slice v0 v0n v0n)] h =
((loopL (B10_0 base) [some (.slice v0 v0n v0n), some (.slice v0 v0n v0n), some (.int .i64 ((v0n : Nat) : Int)), some (.int .i64 (0 : Int))] h).bind fun q1 =>
(if q1.1 = 1 then
((sget q1.2.1 0).bind getB).bind fun b2 =>
some ((.bool b2), q1.2.2)
else
(if q1.1 = 2 then
((sget q1.2.1 0).bind getS).bind fun l3 =>
some ((.bool (decide (((l3.2 : Nat) : Int) ≤ (50 : Int)))), q1.2.2)
else
none)) : Option (Value × AH)) := by kernel_rfl
theorem r10 {base : Nat} {v0 : Option Addr} {v0n : Nat} {h : AH} {r : Value × AH} (hx :
((loopL (B10_0 base) [some (.slice v0 v0n v0n), some (.slice v0 v0n v0n), some (.int .i64 ((v0n : Nat) : Int)), some (.int .i64 (0 : Int))] h).bind fun q1 =>
(if q1.1 = 1 then
((sget q1.2.1 0).bind getB).bind fun b2 =>
some ((.bool b2), q1.2.2)
else
(if q1.1 = 2 then
((sget q1.2.1 0).bind getS).bind fun l3 =>
some ((.bool (decide (((l3.2 : Nat) : Int) ≤ (50 : Int)))), q1.2.2)
else
none))) = some r) : run (Et base) 10 [(.slice v0 v0n v0n)] h = some r := run_i Try.func10 (by kernel_rfl) ((f10_eq base v0 v0n h).trans hx)
/-! laws.szTimerS (gates 0) -/
noncomputable def B11_0 (base : Nat) : Body := fun l h => lay s11_0 l fun s => exCode (Et base) (run (Et base)) loopL a11_0 (subC [1, 1, 1, 0, 1, 0, 0] (bodyC Try.f11)) s h (keepK s11_0 e11_0)
theorem B11_0_eq (base : Nat) (v0 : Option Addr) (v0n : Nat) (v1 : Int) (v5 : Int) (h : AH) : B11_0 base [some (.slice v0 v0n v0n), some (.int .i64 v1), some (.int .i64 v5)] h =
((if (decide (v5 < ((v0n : Nat) : Int))) = true then
(if 0 ≤ v5 ∧ v5 < ((v0n : Nat) : Int) then
((v0 : Option Addr)).bind fun a1 =>
((cell h a1.block (a1.off + Int.toNat v5 * 6)).bind (getI .i64)).bind fun n2 =>
((cell h a1.block ((a1.off + Int.toNat v5 * 6) + 1)).bind (getI .i64)).bind fun n3 =>
((cell h a1.block (((a1.off + Int.toNat v5 * 6) + 1) + 1)).bind (getI .i64)).bind fun n4 =>
((cell h a1.block ((((a1.off + Int.toNat v5 * 6) + 1) + 1) + 1)).bind (getI .i64)).bind fun n5 =>
((cell h a1.block (((((a1.off + Int.toNat v5 * 6) + 1) + 1) + 1) + 1)).bind getStr).bind fun s6 =>
((cell h a1.block ((((((a1.off + Int.toNat v5 * 6) + 1) + 1) + 1) + 1) + 1)).bind getS).bind fun l7 =>
(run (Et base) 12 [(.agg #[(.int .i64 n2), (.int .i64 n3), (.int .i64 n4), (.int .i64 n5), (.string s6), (.slice l7.1 l7.2 l7.2)]), (.int .i64 v1)] h).bind fun r8 =>
((some r8.1).bind (getI .i64)).bind fun n9 =>
(if (decide (n9 < (0 : Int))) = true then
some (1, [some (.int .i64 (-1 : Int))], r8.2)
else
some (0, [some (.slice v0 v0n v0n), some (.int .i64 n9), some (.int .i64 (IntKind.wrap .i64 (v5 + (1 : Int))))], r8.2))
else none)
else
some (2, [some (.int .i64 v1)], h)) : Option (Nat × Slots × AH)) := by kernel_rfl
theorem f11_eq (base : Nat) (v0 : Option Addr) (v0n : Nat) (v1 : Int) (h : AH) : exFun (Et base) (run (Et base)) loopL a11 Try.f11 [(.slice v0 v0n v0n), (.int .i64 v1)] h =
((if (decide ((IntKind.wrap .i64 (v1 - ((v0n : Nat) : Int))) < (0 : Int))) = true then
some ((.int .i64 (-1 : Int)), h)
else
(loopL (B11_0 base) [some (.slice v0 v0n v0n), some (.int .i64 (IntKind.wrap .i64 (v1 - ((v0n : Nat) : Int)))), some (.int .i64 (0 : Int))] h).bind fun q1 =>
(if q1.1 = 1 then
((sget q1.2.1 0).bind (getI .i64)).bind fun n2 =>
some ((.int .i64 n2), q1.2.2)
else
(if q1.1 = 2 then
((sget q1.2.1 0).bind (getI .i64)).bind fun n3 =>
some ((.int .i64 n3), q1.2.2)
else
none))) : Option (Value × AH)) := by kernel_rfl
theorem r11 {base : Nat} {v0 : Option Addr} {v0n : Nat} {v1 : Int} {h : AH} {r : Value × AH} (hx :
((if (decide ((IntKind.wrap .i64 (v1 - ((v0n : Nat) : Int))) < (0 : Int))) = true then
some ((.int .i64 (-1 : Int)), h)
else
(loopL (B11_0 base) [some (.slice v0 v0n v0n), some (.int .i64 (IntKind.wrap .i64 (v1 - ((v0n : Nat) : Int)))), some (.int .i64 (0 : Int))] h).bind fun q1 =>
(if q1.1 = 1 then
((sget q1.2.1 0).bind (getI .i64)).bind fun n2 =>
some ((.int .i64 n2), q1.2.2)
else
(if q1.1 = 2 then
((sget q1.2.1 0).bind (getI .i64)).bind fun n3 =>
some ((.int .i64 n3), q1.2.2)
else
none)))) = some r) : run (Et base) 11 [(.slice v0 v0n v0n), (.int .i64 v1)] h = some r := run_i Try.func11 (by kernel_rfl) ((f11_eq base v0 v0n v1 h).trans hx)
end Go.Proofs.Ytomcfongmahjaaa.Am
