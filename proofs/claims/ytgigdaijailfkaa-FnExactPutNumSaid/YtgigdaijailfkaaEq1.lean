/- Equations. Conditions: none. -/
import Derived.Test.YtgigdaijailfkaaTb
namespace Go.Proofs.Ytgigdaijailfkaa.Am
open Go Go.RowKit
/-! laws.toByteS (gates 0) -/
noncomputable def B16_0 (base : Nat) : Body := fun l h => lay s16_0 l fun s => exCode (Et base) (run (Et base)) loopL a16_0 (subC [1, 1, 0, 1, 0, 0] (bodyC Try.f16)) s h (keepK s16_0 e16_0)
theorem B16_0_eq (base : Nat) (v0 : Option Addr) (v0n : Nat) (v3 : Option Addr) (v3n : Nat) (v4 : Int) (h : AH) : B16_0 base [some (.slice v0 v0n v0n), some (.slice v3 v3n v3n), some (.int .i64 v4)] h =
((if (decide (v4 < ((v0n : Nat) : Int))) = true then
(if 0 ≤ v4 ∧ v4 < ((v0n : Nat) : Int) then
((v0 : Option Addr)).bind fun a1 =>
((cell h a1.block (a1.off + Int.toNat v4 * 1)).bind (getI .u8)).bind fun n2 =>
(if 0 ≤ v4 ∧ v4 < ((v3n : Nat) : Int) then
((v3 : Option Addr)).bind fun a3 =>
(wr base h a3.block (a3.off + Int.toNat v4 * 1) [(.int .u8 n2)]).bind fun h4 =>
some (0, [some (.slice v0 v0n v0n), some (.slice v3 v3n v3n), some (.int .i64 (IntKind.wrap .i64 (v4 + (1 : Int))))], h4)
else none)
else none)
else
some (2, [some (.slice v3 v3n v3n)], h)) : Option (Nat × Slots × AH)) := by kernel_rfl
theorem f16_eq (base : Nat) (v0 : Option Addr) (v0n : Nat) (h : AH) : exFun (Et base) (run (Et base)) loopL a16 Try.f16 [(.slice v0 v0n v0n)] h =
((if ((v0n : Nat) : Int) = ((v0n : Nat) : Int) ∧ 0 ≤ ((v0n : Nat) : Int) ∧ ((v0n : Nat) : Int) * 1 ≤ 140737488355328 ∧ ((v0n : Nat) : Int) ≤ 140737488355328 then
(loopL (B16_0 base) [some (.slice v0 v0n v0n), some (.slice (some ⟨(List.length h), 0, none⟩) (Int.toNat ((v0n : Nat) : Int)) (Int.toNat ((v0n : Nat) : Int))), some (.int .i64 (0 : Int))] (h ++ [some ⟨rep [(.int .u8 0)] (Int.toNat ((v0n : Nat) : Int)), 5⟩])).bind fun q1 =>
(if q1.1 = 2 then
((sget q1.2.1 0).bind getS).bind fun l2 =>
some ((.slice l2.1 l2.2 l2.2), q1.2.2)
else
none)
else none) : Option (Value × AH)) := by kernel_rfl
theorem r16 {base : Nat} {v0 : Option Addr} {v0n : Nat} {h : AH} {r : Value × AH} (hx :
((if ((v0n : Nat) : Int) = ((v0n : Nat) : Int) ∧ 0 ≤ ((v0n : Nat) : Int) ∧ ((v0n : Nat) : Int) * 1 ≤ 140737488355328 ∧ ((v0n : Nat) : Int) ≤ 140737488355328 then
(loopL (B16_0 base) [some (.slice v0 v0n v0n), some (.slice (some ⟨(List.length h), 0, none⟩) (Int.toNat ((v0n : Nat) : Int)) (Int.toNat ((v0n : Nat) : Int))), some (.int .i64 (0 : Int))] (h ++ [some ⟨rep [(.int .u8 0)] (Int.toNat ((v0n : Nat) : Int)), 5⟩])).bind fun q1 =>
(if q1.1 = 2 then
((sget q1.2.1 0).bind getS).bind fun l2 =>
some ((.slice l2.1 l2.2 l2.2), q1.2.2)
else
none)
else none)) = some r) : run (Et base) 16 [(.slice v0 v0n v0n)] h = some r := run_i Try.func16 (by kernel_rfl) ((f16_eq base v0 v0n h).trans hx)
/-! laws.eqByteS (gates 0) -/
noncomputable def B18_0 (base : Nat) : Body := fun l h => lay s18_0 l fun s => exCode (Et base) (run (Et base)) loopL a18_0 (subC [1, 1, 0, 1, 0, 0] (bodyC Try.f18)) s h (keepK s18_0 e18_0)
theorem B18_0_eq (base : Nat) (v0 : Option Addr) (v0n : Nat) (v1 : Option Addr) (v1n : Nat) (v5 : Int) (h : AH) : B18_0 base [some (.slice v0 v0n v0n), some (.slice v1 v1n v1n), some (.int .i64 v5)] h =
((if (decide (v5 < ((v0n : Nat) : Int))) = true then
(if 0 ≤ v5 ∧ v5 < ((v0n : Nat) : Int) then
((v0 : Option Addr)).bind fun a1 =>
((cell h a1.block (a1.off + Int.toNat v5 * 1)).bind (getI .u8)).bind fun n2 =>
(if 0 ≤ v5 ∧ v5 < ((v1n : Nat) : Int) then
((v1 : Option Addr)).bind fun a3 =>
((cell h a3.block (a3.off + Int.toNat v5 * 1)).bind (getI .u8)).bind fun n4 =>
(if (n2 != n4) = true then
some (1, [some (.bool false)], h)
else
some (0, [some (.slice v0 v0n v0n), some (.slice v1 v1n v1n), some (.int .i64 (IntKind.wrap .i64 (v5 + (1 : Int))))], h))
else none)
else none)
else
some (2, [], h)) : Option (Nat × Slots × AH)) := by kernel_rfl
theorem f18_eq (base : Nat) (v0 : Option Addr) (v0n : Nat) (v1 : Option Addr) (v1n : Nat) (h : AH) : exFun (Et base) (run (Et base)) loopL a18 Try.f18 [(.slice v0 v0n v0n), (.slice v1 v1n v1n)] h =
((if (((v0n : Nat) : Int) != ((v1n : Nat) : Int)) = true then
some ((.bool false), h)
else
(loopL (B18_0 base) [some (.slice v0 v0n v0n), some (.slice v1 v1n v1n), some (.int .i64 (0 : Int))] h).bind fun q1 =>
(if q1.1 = 1 then
((sget q1.2.1 0).bind getB).bind fun b2 =>
some ((.bool b2), q1.2.2)
else
(if q1.1 = 2 then
some ((.bool true), q1.2.2)
else
none))) : Option (Value × AH)) := by kernel_rfl
theorem r18 {base : Nat} {v0 : Option Addr} {v0n : Nat} {v1 : Option Addr} {v1n : Nat} {h : AH} {r : Value × AH} (hx :
((if (((v0n : Nat) : Int) != ((v1n : Nat) : Int)) = true then
some ((.bool false), h)
else
(loopL (B18_0 base) [some (.slice v0 v0n v0n), some (.slice v1 v1n v1n), some (.int .i64 (0 : Int))] h).bind fun q1 =>
(if q1.1 = 1 then
((sget q1.2.1 0).bind getB).bind fun b2 =>
some ((.bool b2), q1.2.2)
else
(if q1.1 = 2 then
some ((.bool true), q1.2.2)
else
none)))) = some r) : run (Et base) 18 [(.slice v0 v0n v0n), (.slice v1 v1n v1n)] h = some r := run_i Try.func18 (by kernel_rfl) ((f18_eq base v0 v0n v1 v1n h).trans hx)
/-! spec.PutNum (gates 0) -/
noncomputable def B19_0 (base : Nat) : Body := fun l h => lay s19_0 l fun s => exCode (Et base) (run (Et base)) loopL a19_0 (subC [1, 1, 1, 1, 1, 1, 0, 0, 0] (bodyC Try.f19)) s h (keepK s19_0 e19_0)
theorem B19_0_eq (base : Nat) (v5 : Option Addr) (v5n : Nat) (v6 : Int) (h : AH) : B19_0 base [some (.slice v5 v5n v5n), some (.int .i64 v6)] h =
((if (decide (v6 > (127 : Int))) = true then
(app base (h ++ [some ⟨[(.int .u8 (IntKind.wrap .u8 (Go.bits .or .i64 (Go.bits .and .i64 v6 (127 : Int)) (128 : Int))))], 5⟩]) 5 1 1 v5 v5n (rawAt (h ++ [some ⟨[(.int .u8 (IntKind.wrap .u8 (Go.bits .or .i64 (Go.bits .and .i64 v6 (127 : Int)) (128 : Int))))], 5⟩]) (some ⟨(List.length h), 0, none⟩) (1 * 1)) 1).bind fun p1 =>
((some p1.1).bind getS).bind fun l2 =>
some (0, [some (.slice l2.1 l2.2 l2.2), some (.int .i64 (Int.fdiv v6 (2 ^ min ((7 : Int)).toNat 64)))], p1.2)
else
some (2, [some (.slice v5 v5n v5n), some (.int .i64 v6)], h)) : Option (Nat × Slots × AH)) := by kernel_rfl
theorem f19_eq (base : Nat) (v0 : Option Addr) (v0n : Nat) (v1 : Int) (h : AH) : exFun (Et base) (run (Et base)) loopL a19 Try.f19 [(.slice v0 v0n v0n), (.int .i64 v1)] h =
((app base (h ++ [some ⟨[], 5⟩]) 5 1 1 (some ⟨(List.length h), 0, none⟩) 0 (rawAt (h ++ [some ⟨[], 5⟩]) v0 (v0n * 1)) v0n).bind fun p1 =>
((some p1.1).bind getS).bind fun l2 =>
((if (decide (v1 > (1000000 : Int))) = true then
some (.inl ([some (.int .i64 (1000000 : Int)), some (.slice l2.1 l2.2 l2.2)], p1.2))
else
some (.inl ([some (.int .i64 v1), some (.slice l2.1 l2.2 l2.2)], p1.2)))).bind fun j3 => joinK j3 fun j3 =>
((sget j3.1 0).bind (getI .i64)).bind fun n4 =>
((sget (j3.1.tail) 0).bind getS).bind fun l5 =>
((if (decide (n4 < (-1000000 : Int))) = true then
some (.inl ([some (.int .i64 (-1000000 : Int)), some (.slice l5.1 l5.2 l5.2)], j3.2))
else
some (.inl ([some (.int .i64 n4), some (.slice l5.1 l5.2 l5.2)], j3.2)))).bind fun j6 => joinK j6 fun j6 =>
((sget j6.1 0).bind (getI .i64)).bind fun n7 =>
((sget (j6.1.tail) 0).bind getS).bind fun l8 =>
((if (decide (n7 < (0 : Int))) = true then
some (.inl ([some (.slice l8.1 l8.2 l8.2), some (.int .i64 (IntKind.wrap .i64 ((IntKind.wrap .i64 ((-2 : Int) * n7)) - (1 : Int))))], j6.2))
else
some (.inl ([some (.slice l8.1 l8.2 l8.2), some (.int .i64 (IntKind.wrap .i64 ((2 : Int) * n7)))], j6.2)))).bind fun j9 => joinK j9 fun j9 =>
((sget j9.1 0).bind getS).bind fun l10 =>
((sget (j9.1.tail) 0).bind (getI .i64)).bind fun n11 =>
(loopL (B19_0 base) [some (.slice l10.1 l10.2 l10.2), some (.int .i64 n11)] j9.2).bind fun q12 =>
(if q12.1 = 2 then
((sget q12.2.1 0).bind getS).bind fun l13 =>
((sget (q12.2.1.tail) 0).bind (getI .i64)).bind fun n14 =>
(app base (q12.2.2 ++ [some ⟨[(.int .u8 (IntKind.wrap .u8 n14))], 5⟩]) 5 1 1 l13.1 l13.2 (rawAt (q12.2.2 ++ [some ⟨[(.int .u8 (IntKind.wrap .u8 n14))], 5⟩]) (some ⟨(List.length q12.2.2), 0, none⟩) (1 * 1)) 1).bind fun p15 =>
((some p15.1).bind getS).bind fun l16 =>
some ((.slice l16.1 l16.2 l16.2), p15.2)
else
none) : Option (Value × AH)) := by kernel_rfl
theorem r19 {base : Nat} {v0 : Option Addr} {v0n : Nat} {v1 : Int} {h : AH} {r : Value × AH} (hx :
((app base (h ++ [some ⟨[], 5⟩]) 5 1 1 (some ⟨(List.length h), 0, none⟩) 0 (rawAt (h ++ [some ⟨[], 5⟩]) v0 (v0n * 1)) v0n).bind fun p1 =>
((some p1.1).bind getS).bind fun l2 =>
((if (decide (v1 > (1000000 : Int))) = true then
some (.inl ([some (.int .i64 (1000000 : Int)), some (.slice l2.1 l2.2 l2.2)], p1.2))
else
some (.inl ([some (.int .i64 v1), some (.slice l2.1 l2.2 l2.2)], p1.2)))).bind fun j3 => joinK j3 fun j3 =>
((sget j3.1 0).bind (getI .i64)).bind fun n4 =>
((sget (j3.1.tail) 0).bind getS).bind fun l5 =>
((if (decide (n4 < (-1000000 : Int))) = true then
some (.inl ([some (.int .i64 (-1000000 : Int)), some (.slice l5.1 l5.2 l5.2)], j3.2))
else
some (.inl ([some (.int .i64 n4), some (.slice l5.1 l5.2 l5.2)], j3.2)))).bind fun j6 => joinK j6 fun j6 =>
((sget j6.1 0).bind (getI .i64)).bind fun n7 =>
((sget (j6.1.tail) 0).bind getS).bind fun l8 =>
((if (decide (n7 < (0 : Int))) = true then
some (.inl ([some (.slice l8.1 l8.2 l8.2), some (.int .i64 (IntKind.wrap .i64 ((IntKind.wrap .i64 ((-2 : Int) * n7)) - (1 : Int))))], j6.2))
else
some (.inl ([some (.slice l8.1 l8.2 l8.2), some (.int .i64 (IntKind.wrap .i64 ((2 : Int) * n7)))], j6.2)))).bind fun j9 => joinK j9 fun j9 =>
((sget j9.1 0).bind getS).bind fun l10 =>
((sget (j9.1.tail) 0).bind (getI .i64)).bind fun n11 =>
(loopL (B19_0 base) [some (.slice l10.1 l10.2 l10.2), some (.int .i64 n11)] j9.2).bind fun q12 =>
(if q12.1 = 2 then
((sget q12.2.1 0).bind getS).bind fun l13 =>
((sget (q12.2.1.tail) 0).bind (getI .i64)).bind fun n14 =>
(app base (q12.2.2 ++ [some ⟨[(.int .u8 (IntKind.wrap .u8 n14))], 5⟩]) 5 1 1 l13.1 l13.2 (rawAt (q12.2.2 ++ [some ⟨[(.int .u8 (IntKind.wrap .u8 n14))], 5⟩]) (some ⟨(List.length q12.2.2), 0, none⟩) (1 * 1)) 1).bind fun p15 =>
((some p15.1).bind getS).bind fun l16 =>
some ((.slice l16.1 l16.2 l16.2), p15.2)
else
none)) = some r) : run (Et base) 19 [(.slice v0 v0n v0n), (.int .i64 v1)] h = some r := run_i Try.func19 (by kernel_rfl) ((f19_eq base v0 v0n v1 h).trans hx)
/-! impl.PutNum (gates 0) -/
theorem f20_eq (base : Nat) (v0 : Option Addr) (v0n : Nat) (v1 : Int) (h : AH) : exFun (Et base) (run (Et base)) loopL a20 Try.f20 [(.slice v0 v0n v0n), (.int .i64 v1)] h =
((app base h 5 1 1 none 0 (rawAt h v0 (v0n * 1)) v0n).bind fun p1 =>
((some p1.1).bind getS).bind fun l2 =>
(run (Et base) 62 [(.slice l2.1 l2.2 l2.2), (.int .i64 v1)] p1.2).bind fun r3 =>
((some r3.1).bind getS).bind fun l4 =>
some ((.slice l4.1 l4.2 l4.2), r3.2) : Option (Value × AH)) := by kernel_rfl
theorem r20 {base : Nat} {v0 : Option Addr} {v0n : Nat} {v1 : Int} {h : AH} {r : Value × AH} (hx :
((app base h 5 1 1 none 0 (rawAt h v0 (v0n * 1)) v0n).bind fun p1 =>
((some p1.1).bind getS).bind fun l2 =>
(run (Et base) 62 [(.slice l2.1 l2.2 l2.2), (.int .i64 v1)] p1.2).bind fun r3 =>
((some r3.1).bind getS).bind fun l4 =>
some ((.slice l4.1 l4.2 l4.2), r3.2)) = some r) : run (Et base) 20 [(.slice v0 v0n v0n), (.int .i64 v1)] h = some r := run_i Try.func20 (by kernel_rfl) ((f20_eq base v0 v0n v1 h).trans hx)
/-! laws.markByteS (gates 0) -/
noncomputable def B21_0 (base : Nat) : Body := fun l h => lay s21_0 l fun s => exCode (Et base) (run (Et base)) loopL a21_0 (subC [1, 0, 1, 0, 0] (bodyC Try.f21)) s h (keepK s21_0 e21_0)
theorem B21_0_eq (base : Nat) (v0 : Option Addr) (v0n : Nat) (v1 : Int) (v5 : Int) (h : AH) : B21_0 base [some (.slice v0 v0n v0n), some (.int .i64 v1), some (.int .i64 v5)] h =
((if (decide (v5 < ((v0n : Nat) : Int))) = true then
(if 0 ≤ v5 ∧ v5 < ((v0n : Nat) : Int) then
((v0 : Option Addr)).bind fun a1 =>
(wr base h a1.block (a1.off + Int.toNat v5 * 1) [(.int .u8 (IntKind.wrap .u8 v1))]).bind fun h2 =>
some (0, [some (.slice v0 v0n v0n), some (.int .i64 (IntKind.wrap .i64 (v1 + (1 : Int)))), some (.int .i64 (IntKind.wrap .i64 (v5 + (1 : Int))))], h2)
else none)
else
some (2, [some (.int .i64 v1)], h)) : Option (Nat × Slots × AH)) := by kernel_rfl
theorem f21_eq (base : Nat) (v0 : Option Addr) (v0n : Nat) (v1 : Int) (h : AH) : exFun (Et base) (run (Et base)) loopL a21 Try.f21 [(.slice v0 v0n v0n), (.int .i64 v1)] h =
((loopL (B21_0 base) [some (.slice v0 v0n v0n), some (.int .i64 v1), some (.int .i64 (0 : Int))] h).bind fun q1 =>
(if q1.1 = 2 then
((sget q1.2.1 0).bind (getI .i64)).bind fun n2 =>
some ((.int .i64 n2), q1.2.2)
else
none) : Option (Value × AH)) := by kernel_rfl
theorem r21 {base : Nat} {v0 : Option Addr} {v0n : Nat} {v1 : Int} {h : AH} {r : Value × AH} (hx :
((loopL (B21_0 base) [some (.slice v0 v0n v0n), some (.int .i64 v1), some (.int .i64 (0 : Int))] h).bind fun q1 =>
(if q1.1 = 2 then
((sget q1.2.1 0).bind (getI .i64)).bind fun n2 =>
some ((.int .i64 n2), q1.2.2)
else
none)) = some r) : run (Et base) 21 [(.slice v0 v0n v0n), (.int .i64 v1)] h = some r := run_i Try.func21 (by kernel_rfl) ((f21_eq base v0 v0n v1 h).trans hx)
/-! laws.heldByteS (gates 0) -/
noncomputable def B22_0 (base : Nat) : Body := fun l h => lay s22_0 l fun s => exCode (Et base) (run (Et base)) loopL a22_0 (subC [1, 0, 1, 0, 0] (bodyC Try.f22)) s h (keepK s22_0 e22_0)
theorem B22_0_eq (base : Nat) (v0 : Option Addr) (v0n : Nat) (v1 : Int) (v5 : Int) (h : AH) : B22_0 base [some (.slice v0 v0n v0n), some (.int .i64 v1), some (.int .i64 v5)] h =
((if (decide (v5 < ((v0n : Nat) : Int))) = true then
(if 0 ≤ v5 ∧ v5 < ((v0n : Nat) : Int) then
((v0 : Option Addr)).bind fun a1 =>
((cell h a1.block (a1.off + Int.toNat v5 * 1)).bind (getI .u8)).bind fun n2 =>
(if (n2 != (IntKind.wrap .u8 v1)) = true then
some (1, [some (.int .i64 (-1 : Int))], h)
else
some (0, [some (.slice v0 v0n v0n), some (.int .i64 (IntKind.wrap .i64 (v1 + (1 : Int)))), some (.int .i64 (IntKind.wrap .i64 (v5 + (1 : Int))))], h))
else none)
else
some (2, [some (.int .i64 v1)], h)) : Option (Nat × Slots × AH)) := by kernel_rfl
theorem f22_eq (base : Nat) (v0 : Option Addr) (v0n : Nat) (v1 : Int) (h : AH) : exFun (Et base) (run (Et base)) loopL a22 Try.f22 [(.slice v0 v0n v0n), (.int .i64 v1)] h =
((loopL (B22_0 base) [some (.slice v0 v0n v0n), some (.int .i64 v1), some (.int .i64 (0 : Int))] h).bind fun q1 =>
(if q1.1 = 1 then
((sget q1.2.1 0).bind (getI .i64)).bind fun n2 =>
some ((.int .i64 n2), q1.2.2)
else
(if q1.1 = 2 then
((sget q1.2.1 0).bind (getI .i64)).bind fun n3 =>
some ((.int .i64 n3), q1.2.2)
else
none)) : Option (Value × AH)) := by kernel_rfl
theorem r22 {base : Nat} {v0 : Option Addr} {v0n : Nat} {v1 : Int} {h : AH} {r : Value × AH} (hx :
((loopL (B22_0 base) [some (.slice v0 v0n v0n), some (.int .i64 v1), some (.int .i64 (0 : Int))] h).bind fun q1 =>
(if q1.1 = 1 then
((sget q1.2.1 0).bind (getI .i64)).bind fun n2 =>
some ((.int .i64 n2), q1.2.2)
else
(if q1.1 = 2 then
((sget q1.2.1 0).bind (getI .i64)).bind fun n3 =>
some ((.int .i64 n3), q1.2.2)
else
none))) = some r) : run (Et base) 22 [(.slice v0 v0n v0n), (.int .i64 v1)] h = some r := run_i Try.func22 (by kernel_rfl) ((f22_eq base v0 v0n v1 h).trans hx)
/-! impl.addNum (gates 0) -/
noncomputable def B62_0 (base : Nat) : Body := fun l h => lay s62_0 l fun s => exCode (Et base) (run (Et base)) loopL a62_0 (subC [1, 1, 1, 1, 0, 0, 0] (bodyC Try.f62)) s h (keepK s62_0 e62_0)
theorem B62_0_eq (base : Nat) (v0 : Option Addr) (v0n : Nat) (v5 : Int) (h : AH) : B62_0 base [some (.slice v0 v0n v0n), some (.int .i64 v5)] h =
((if (decide (v5 > (127 : Int))) = true then
(app base (h ++ [some ⟨[(.int .u8 (IntKind.wrap .u8 (IntKind.wrap .i64 ((Int.tmod v5 (128 : Int)) + (128 : Int)))))], 5⟩]) 5 1 1 v0 v0n (rawAt (h ++ [some ⟨[(.int .u8 (IntKind.wrap .u8 (IntKind.wrap .i64 ((Int.tmod v5 (128 : Int)) + (128 : Int)))))], 5⟩]) (some ⟨(List.length h), 0, none⟩) (1 * 1)) 1).bind fun p1 =>
((some p1.1).bind getS).bind fun l2 =>
some (0, [some (.slice l2.1 l2.2 l2.2), some (.int .i64 (IntKind.wrap .i64 (Int.tdiv v5 (128 : Int))))], p1.2)
else
some (2, [some (.slice v0 v0n v0n), some (.int .i64 v5)], h)) : Option (Nat × Slots × AH)) := by kernel_rfl
theorem f62_eq (base : Nat) (v0 : Option Addr) (v0n : Nat) (v1 : Int) (h : AH) : exFun (Et base) (run (Et base)) loopL a62 Try.f62 [(.slice v0 v0n v0n), (.int .i64 v1)] h =
(((if (decide ((if (if (1000000 : Int) < v1 then (1000000 : Int) else v1) > (-1000000 : Int) then (if (1000000 : Int) < v1 then (1000000 : Int) else v1) else (-1000000 : Int)) < (0 : Int))) = true then
some (.inl ([some (.slice v0 v0n v0n), some (.int .i64 (IntKind.wrap .i64 ((IntKind.wrap .i64 ((-2 : Int) * (if (if (1000000 : Int) < v1 then (1000000 : Int) else v1) > (-1000000 : Int) then (if (1000000 : Int) < v1 then (1000000 : Int) else v1) else (-1000000 : Int)))) - (1 : Int))))], h))
else
some (.inl ([some (.slice v0 v0n v0n), some (.int .i64 (IntKind.wrap .i64 ((2 : Int) * (if (if (1000000 : Int) < v1 then (1000000 : Int) else v1) > (-1000000 : Int) then (if (1000000 : Int) < v1 then (1000000 : Int) else v1) else (-1000000 : Int)))))], h)))).bind fun j1 => joinK j1 fun j1 =>
((sget j1.1 0).bind getS).bind fun l2 =>
((sget (j1.1.tail) 0).bind (getI .i64)).bind fun n3 =>
(loopL (B62_0 base) [some (.slice l2.1 l2.2 l2.2), some (.int .i64 n3)] j1.2).bind fun q4 =>
(if q4.1 = 2 then
((sget q4.2.1 0).bind getS).bind fun l5 =>
((sget (q4.2.1.tail) 0).bind (getI .i64)).bind fun n6 =>
(app base (q4.2.2 ++ [some ⟨[(.int .u8 (IntKind.wrap .u8 n6))], 5⟩]) 5 1 1 l5.1 l5.2 (rawAt (q4.2.2 ++ [some ⟨[(.int .u8 (IntKind.wrap .u8 n6))], 5⟩]) (some ⟨(List.length q4.2.2), 0, none⟩) (1 * 1)) 1).bind fun p7 =>
((some p7.1).bind getS).bind fun l8 =>
some ((.slice l8.1 l8.2 l8.2), p7.2)
else
none) : Option (Value × AH)) := by kernel_rfl
theorem r62 {base : Nat} {v0 : Option Addr} {v0n : Nat} {v1 : Int} {h : AH} {r : Value × AH} (hx :
(((if (decide ((if (if (1000000 : Int) < v1 then (1000000 : Int) else v1) > (-1000000 : Int) then (if (1000000 : Int) < v1 then (1000000 : Int) else v1) else (-1000000 : Int)) < (0 : Int))) = true then
some (.inl ([some (.slice v0 v0n v0n), some (.int .i64 (IntKind.wrap .i64 ((IntKind.wrap .i64 ((-2 : Int) * (if (if (1000000 : Int) < v1 then (1000000 : Int) else v1) > (-1000000 : Int) then (if (1000000 : Int) < v1 then (1000000 : Int) else v1) else (-1000000 : Int)))) - (1 : Int))))], h))
else
some (.inl ([some (.slice v0 v0n v0n), some (.int .i64 (IntKind.wrap .i64 ((2 : Int) * (if (if (1000000 : Int) < v1 then (1000000 : Int) else v1) > (-1000000 : Int) then (if (1000000 : Int) < v1 then (1000000 : Int) else v1) else (-1000000 : Int)))))], h)))).bind fun j1 => joinK j1 fun j1 =>
((sget j1.1 0).bind getS).bind fun l2 =>
((sget (j1.1.tail) 0).bind (getI .i64)).bind fun n3 =>
(loopL (B62_0 base) [some (.slice l2.1 l2.2 l2.2), some (.int .i64 n3)] j1.2).bind fun q4 =>
(if q4.1 = 2 then
((sget q4.2.1 0).bind getS).bind fun l5 =>
((sget (q4.2.1.tail) 0).bind (getI .i64)).bind fun n6 =>
(app base (q4.2.2 ++ [some ⟨[(.int .u8 (IntKind.wrap .u8 n6))], 5⟩]) 5 1 1 l5.1 l5.2 (rawAt (q4.2.2 ++ [some ⟨[(.int .u8 (IntKind.wrap .u8 n6))], 5⟩]) (some ⟨(List.length q4.2.2), 0, none⟩) (1 * 1)) 1).bind fun p7 =>
((some p7.1).bind getS).bind fun l8 =>
some ((.slice l8.1 l8.2 l8.2), p7.2)
else
none)) = some r) : run (Et base) 62 [(.slice v0 v0n v0n), (.int .i64 v1)] h = some r := run_i Try.func62 (by kernel_rfl) ((f62_eq base v0 v0n v1 h).trans hx)
/-! laws.FnExactPutNum (gates 0) -/
theorem f4_eq (base : Nat) (v0 : Option Addr) (v0n : Nat) (v1 : Int) (h : AH) : exFun (Et base) (run (Et base)) loopL a4 Try.f4 [(.slice v0 v0n v0n), (.int .i64 v1)] h =
((if (decide (((v0n : Nat) : Int) > (1048576 : Int))) = true then
some ((.bool true), h)
else
(run (Et base) 16 [(.slice v0 v0n v0n)] h).bind fun r1 =>
((some r1.1).bind getS).bind fun l2 =>
(run (Et base) 19 [(.slice l2.1 l2.2 l2.2), (.int .i64 v1)] r1.2).bind fun r3 =>
((some r3.1).bind getS).bind fun l4 =>
(run (Et base) 16 [(.slice v0 v0n v0n)] r3.2).bind fun r5 =>
((some r5.1).bind getS).bind fun l6 =>
(run (Et base) 20 [(.slice l6.1 l6.2 l6.2), (.int .i64 v1)] r5.2).bind fun r7 =>
((some r7.1).bind getS).bind fun l8 =>
(run (Et base) 18 [(.slice l8.1 l8.2 l8.2), (.slice l4.1 l4.2 l4.2)] r7.2).bind fun r9 =>
((some r9.1).bind getB).bind fun b10 =>
(if (!b10) = true then
some ((.bool false), r9.2)
else
(run (Et base) 16 [(.slice v0 v0n v0n)] r9.2).bind fun r11 =>
((some r11.1).bind getS).bind fun l12 =>
(run (Et base) 18 [(.slice l6.1 l6.2 l6.2), (.slice l12.1 l12.2 l12.2)] r11.2).bind fun r13 =>
((some r13.1).bind getB).bind fun b14 =>
(if (!b14) = true then
some ((.bool false), r13.2)
else
(run (Et base) 21 [(.slice l6.1 l6.2 l6.2), (.int .i64 (1 : Int))] r13.2).bind fun r15 =>
((some r15.1).bind (getI .i64)).bind fun n16 =>
((if (decide (n16 < (0 : Int))) = true then
some (.inl ([some (.slice v0 v0n v0n), some (.int .i64 v1), some (.slice l4.1 l4.2 l4.2), some (.slice l8.1 l8.2 l8.2), some (.bool true)], r15.2))
else
(run (Et base) 18 [(.slice l8.1 l8.2 l8.2), (.slice l4.1 l4.2 l4.2)] r15.2).bind fun r18 =>
((some r18.1).bind getB).bind fun b19 =>
some (.inl ([some (.slice v0 v0n v0n), some (.int .i64 v1), some (.slice l4.1 l4.2 l4.2), some (.slice l8.1 l8.2 l8.2), some (.bool (!b19))], r18.2)))).bind fun j17 => joinK j17 fun j17 =>
((sget j17.1 0).bind getS).bind fun l20 =>
((sget (j17.1.tail) 0).bind (getI .i64)).bind fun n21 =>
((sget (j17.1.tail.tail) 0).bind getS).bind fun l22 =>
((sget (j17.1.tail.tail.tail) 0).bind getS).bind fun l23 =>
((sget (j17.1.tail.tail.tail.tail) 0).bind getB).bind fun b24 =>
(if b24 = true then
some ((.bool false), j17.2)
else
(run (Et base) 21 [(.slice l23.1 l23.2 l23.2), (.int .i64 (1 : Int))] j17.2).bind fun r25 =>
((some r25.1).bind (getI .i64)).bind fun n26 =>
(run (Et base) 22 [(.slice l23.1 l23.2 l23.2), (.int .i64 (1 : Int))] r25.2).bind fun r27 =>
((some r27.1).bind (getI .i64)).bind fun n28 =>
(if (decide (n28 < (0 : Int))) = true then
some ((.bool false), r27.2)
else
(if (n28 != n26) = true then
some ((.bool false), r27.2)
else
(run (Et base) 16 [(.slice l20.1 l20.2 l20.2)] r27.2).bind fun r29 =>
((some r29.1).bind getS).bind fun l30 =>
(run (Et base) 20 [(.slice l30.1 l30.2 l30.2), (.int .i64 n21)] r29.2).bind fun r31 =>
((some r31.1).bind getS).bind fun l32 =>
(run (Et base) 18 [(.slice l32.1 l32.2 l32.2), (.slice l22.1 l22.2 l22.2)] r31.2).bind fun r33 =>
((some r33.1).bind getB).bind fun b34 =>
(if (!b34) = true then
some ((.bool false), r33.2)
else
(run (Et base) 22 [(.slice l23.1 l23.2 l23.2), (.int .i64 (1 : Int))] r33.2).bind fun r35 =>
((some r35.1).bind (getI .i64)).bind fun n36 =>
(if (decide (n36 < (0 : Int))) = true then
some ((.bool false), r35.2)
else
(if (n36 != n26) = true then
some ((.bool false), r35.2)
else
some ((.bool true), r35.2)))))))))) : Option (Value × AH)) := by kernel_rfl
theorem r4 {base : Nat} {v0 : Option Addr} {v0n : Nat} {v1 : Int} {h : AH} {r : Value × AH} (hx :
((if (decide (((v0n : Nat) : Int) > (1048576 : Int))) = true then
some ((.bool true), h)
else
(run (Et base) 16 [(.slice v0 v0n v0n)] h).bind fun r1 =>
((some r1.1).bind getS).bind fun l2 =>
(run (Et base) 19 [(.slice l2.1 l2.2 l2.2), (.int .i64 v1)] r1.2).bind fun r3 =>
((some r3.1).bind getS).bind fun l4 =>
(run (Et base) 16 [(.slice v0 v0n v0n)] r3.2).bind fun r5 =>
((some r5.1).bind getS).bind fun l6 =>
(run (Et base) 20 [(.slice l6.1 l6.2 l6.2), (.int .i64 v1)] r5.2).bind fun r7 =>
((some r7.1).bind getS).bind fun l8 =>
(run (Et base) 18 [(.slice l8.1 l8.2 l8.2), (.slice l4.1 l4.2 l4.2)] r7.2).bind fun r9 =>
((some r9.1).bind getB).bind fun b10 =>
(if (!b10) = true then
some ((.bool false), r9.2)
else
(run (Et base) 16 [(.slice v0 v0n v0n)] r9.2).bind fun r11 =>
((some r11.1).bind getS).bind fun l12 =>
(run (Et base) 18 [(.slice l6.1 l6.2 l6.2), (.slice l12.1 l12.2 l12.2)] r11.2).bind fun r13 =>
((some r13.1).bind getB).bind fun b14 =>
(if (!b14) = true then
some ((.bool false), r13.2)
else
(run (Et base) 21 [(.slice l6.1 l6.2 l6.2), (.int .i64 (1 : Int))] r13.2).bind fun r15 =>
((some r15.1).bind (getI .i64)).bind fun n16 =>
((if (decide (n16 < (0 : Int))) = true then
some (.inl ([some (.slice v0 v0n v0n), some (.int .i64 v1), some (.slice l4.1 l4.2 l4.2), some (.slice l8.1 l8.2 l8.2), some (.bool true)], r15.2))
else
(run (Et base) 18 [(.slice l8.1 l8.2 l8.2), (.slice l4.1 l4.2 l4.2)] r15.2).bind fun r18 =>
((some r18.1).bind getB).bind fun b19 =>
some (.inl ([some (.slice v0 v0n v0n), some (.int .i64 v1), some (.slice l4.1 l4.2 l4.2), some (.slice l8.1 l8.2 l8.2), some (.bool (!b19))], r18.2)))).bind fun j17 => joinK j17 fun j17 =>
((sget j17.1 0).bind getS).bind fun l20 =>
((sget (j17.1.tail) 0).bind (getI .i64)).bind fun n21 =>
((sget (j17.1.tail.tail) 0).bind getS).bind fun l22 =>
((sget (j17.1.tail.tail.tail) 0).bind getS).bind fun l23 =>
((sget (j17.1.tail.tail.tail.tail) 0).bind getB).bind fun b24 =>
(if b24 = true then
some ((.bool false), j17.2)
else
(run (Et base) 21 [(.slice l23.1 l23.2 l23.2), (.int .i64 (1 : Int))] j17.2).bind fun r25 =>
((some r25.1).bind (getI .i64)).bind fun n26 =>
(run (Et base) 22 [(.slice l23.1 l23.2 l23.2), (.int .i64 (1 : Int))] r25.2).bind fun r27 =>
((some r27.1).bind (getI .i64)).bind fun n28 =>
(if (decide (n28 < (0 : Int))) = true then
some ((.bool false), r27.2)
else
(if (n28 != n26) = true then
some ((.bool false), r27.2)
else
(run (Et base) 16 [(.slice l20.1 l20.2 l20.2)] r27.2).bind fun r29 =>
((some r29.1).bind getS).bind fun l30 =>
(run (Et base) 20 [(.slice l30.1 l30.2 l30.2), (.int .i64 n21)] r29.2).bind fun r31 =>
((some r31.1).bind getS).bind fun l32 =>
(run (Et base) 18 [(.slice l32.1 l32.2 l32.2), (.slice l22.1 l22.2 l22.2)] r31.2).bind fun r33 =>
((some r33.1).bind getB).bind fun b34 =>
(if (!b34) = true then
some ((.bool false), r33.2)
else
(run (Et base) 22 [(.slice l23.1 l23.2 l23.2), (.int .i64 (1 : Int))] r33.2).bind fun r35 =>
((some r35.1).bind (getI .i64)).bind fun n36 =>
(if (decide (n36 < (0 : Int))) = true then
some ((.bool false), r35.2)
else
(if (n36 != n26) = true then
some ((.bool false), r35.2)
else
some ((.bool true), r35.2))))))))))) = some r) : run (Et base) 4 [(.slice v0 v0n v0n), (.int .i64 v1)] h = some r := run_i Try.func4 (by kernel_rfl) ((f4_eq base v0 v0n v1 h).trans hx)
end Go.Proofs.Ytgigdaijailfkaa.Am
