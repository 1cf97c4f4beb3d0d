/- What each of these functions comes to on the abstract machine, one equation a function and one a loop.
Conditions: none. -/
import Derived.Test.YtnmjhhipbfngkaaTb
set_option linter.unusedVariables false
set_option maxRecDepth 100000
namespace Go.Proofs.Ytnmjhhipbfngkaa.Am
open Go Go.RowKit
/-! laws.FnExactGetCode (gates 0) -/
theorem f5_eq (base : Nat) (v0 : Option Addr) (v0n : Nat) (h : AH) : exFun (Et base) (run (Et base)) loopL a5 Try.f5 [(.slice v0 v0n v0n)] h =
((if (decide (((v0n : Nat) : Int) > (1048576 : Int))) = true then
some ((.bool true), h)
else
(run (Et base) 30 [(.slice v0 v0n v0n)] h).bind fun r1 =>
((some r1.1).bind getS).bind fun l2 =>
(run (Et base) 29 [(.slice l2.1 l2.2 l2.2)] r1.2).bind fun r3 =>
(getTup 2 r3.1).bind fun l4 =>
((l4[0]?).bind getS).bind fun l5 =>
((l4[1]?).bind getB).bind fun b6 =>
(run (Et base) 30 [(.slice v0 v0n v0n)] r3.2).bind fun r7 =>
((some r7.1).bind getS).bind fun l8 =>
(run (Et base) 31 [(.slice l8.1 l8.2 l8.2)] r7.2).bind fun r9 =>
(getTup 2 r9.1).bind fun l10 =>
((l10[0]?).bind getS).bind fun l11 =>
((l10[1]?).bind getB).bind fun b12 =>
((run (Et base) 25 [(.slice l11.1 l11.2 l11.2), (.slice l5.1 l5.2 l5.2)] r9.2).bind fun r14 =>
((some r14.1).bind getB).bind fun b15 =>
(if (!b15) = true then
some (.inl ([some (.slice v0 v0n v0n), some (.slice l5.1 l5.2 l5.2), some (.bool b6), some (.slice l8.1 l8.2 l8.2), some (.slice l11.1 l11.2 l11.2), some (.bool b12), some (.bool true)], r14.2))
else
some (.inl ([some (.slice v0 v0n v0n), some (.slice l5.1 l5.2 l5.2), some (.bool b6), some (.slice l8.1 l8.2 l8.2), some (.slice l11.1 l11.2 l11.2), some (.bool b12), some (.bool (!(b12 == b6)))], r14.2)))).bind fun j13 => joinK j13 fun j13 =>
((sget j13.1 0).bind getS).bind fun l16 =>
((sget (j13.1.tail) 0).bind getS).bind fun l17 =>
((sget (j13.1.tail.tail) 0).bind getB).bind fun b18 =>
((sget (j13.1.tail.tail.tail) 0).bind getS).bind fun l19 =>
((sget (j13.1.tail.tail.tail.tail) 0).bind getS).bind fun l20 =>
((sget (j13.1.tail.tail.tail.tail.tail) 0).bind getB).bind fun b21 =>
((sget (j13.1.tail.tail.tail.tail.tail.tail) 0).bind getB).bind fun b22 =>
(if b22 = true then
some ((.bool false), j13.2)
else
(run (Et base) 30 [(.slice l16.1 l16.2 l16.2)] j13.2).bind fun r23 =>
((some r23.1).bind getS).bind fun l24 =>
(run (Et base) 24 [(.slice l19.1 l19.2 l19.2), (.slice l24.1 l24.2 l24.2)] r23.2).bind fun r25 =>
((some r25.1).bind getB).bind fun b26 =>
(if (!b26) = true then
some ((.bool false), r25.2)
else
(run (Et base) 27 [(.slice l19.1 l19.2 l19.2), (.int .i64 (1 : Int))] r25.2).bind fun r27 =>
((some r27.1).bind (getI .i64)).bind fun n28 =>
((if (decide (n28 < (0 : Int))) = true then
some (.inl ([some (.slice l16.1 l16.2 l16.2), some (.slice l17.1 l17.2 l17.2), some (.bool b18), some (.slice l20.1 l20.2 l20.2), some (.bool true)], r27.2))
else
(run (Et base) 25 [(.slice l20.1 l20.2 l20.2), (.slice l17.1 l17.2 l17.2)] r27.2).bind fun r30 =>
((some r30.1).bind getB).bind fun b31 =>
(if (!b31) = true then
some (.inl ([some (.slice l16.1 l16.2 l16.2), some (.slice l17.1 l17.2 l17.2), some (.bool b18), some (.slice l20.1 l20.2 l20.2), some (.bool true)], r30.2))
else
some (.inl ([some (.slice l16.1 l16.2 l16.2), some (.slice l17.1 l17.2 l17.2), some (.bool b18), some (.slice l20.1 l20.2 l20.2), some (.bool (!(b21 == b18)))], r30.2))))).bind fun j29 => joinK j29 fun j29 =>
((sget j29.1 0).bind getS).bind fun l32 =>
((sget (j29.1.tail) 0).bind getS).bind fun l33 =>
((sget (j29.1.tail.tail) 0).bind getB).bind fun b34 =>
((sget (j29.1.tail.tail.tail) 0).bind getS).bind fun l35 =>
((sget (j29.1.tail.tail.tail.tail) 0).bind getB).bind fun b36 =>
(if b36 = true then
some ((.bool false), j29.2)
else
(run (Et base) 26 [(.slice l35.1 l35.2 l35.2), (.int .i64 (1 : Int))] j29.2).bind fun r37 =>
((some r37.1).bind (getI .i64)).bind fun n38 =>
(run (Et base) 32 [(.slice l35.1 l35.2 l35.2), (.int .i64 (1 : Int))] r37.2).bind fun r39 =>
((some r39.1).bind (getI .i64)).bind fun n40 =>
(if (decide (n40 < (0 : Int))) = true then
some ((.bool false), r39.2)
else
(if (n40 != n38) = true then
some ((.bool false), r39.2)
else
(run (Et base) 30 [(.slice l32.1 l32.2 l32.2)] r39.2).bind fun r41 =>
((some r41.1).bind getS).bind fun l42 =>
(run (Et base) 31 [(.slice l42.1 l42.2 l42.2)] r41.2).bind fun r43 =>
(getTup 2 r43.1).bind fun l44 =>
((l44[0]?).bind getS).bind fun l45 =>
((l44[1]?).bind getB).bind fun b46 =>
((run (Et base) 25 [(.slice l45.1 l45.2 l45.2), (.slice l33.1 l33.2 l33.2)] r43.2).bind fun r48 =>
((some r48.1).bind getB).bind fun b49 =>
(if (!b49) = true then
some (.inl ([some (.slice l35.1 l35.2 l35.2), some (.int .i64 n38), some (.bool true)], r48.2))
else
some (.inl ([some (.slice l35.1 l35.2 l35.2), some (.int .i64 n38), some (.bool (!(b46 == b34)))], r48.2)))).bind fun j47 => joinK j47 fun j47 =>
((sget j47.1 0).bind getS).bind fun l50 =>
((sget (j47.1.tail) 0).bind (getI .i64)).bind fun n51 =>
((sget (j47.1.tail.tail) 0).bind getB).bind fun b52 =>
(if b52 = true then
some ((.bool false), j47.2)
else
(run (Et base) 32 [(.slice l50.1 l50.2 l50.2), (.int .i64 (1 : Int))] j47.2).bind fun r53 =>
((some r53.1).bind (getI .i64)).bind fun n54 =>
(if (decide (n54 < (0 : Int))) = true then
some ((.bool false), r53.2)
else
(if (n54 != n51) = true then
some ((.bool false), r53.2)
else
some ((.bool true), r53.2)))))))))) : Option (Value × AH)) := by kernel_rfl
theorem r5 {base : Nat} {v0 : Option Addr} {v0n : Nat} {h : AH} {r : Value × AH} (hx :
((if (decide (((v0n : Nat) : Int) > (1048576 : Int))) = true then
some ((.bool true), h)
else
(run (Et base) 30 [(.slice v0 v0n v0n)] h).bind fun r1 =>
((some r1.1).bind getS).bind fun l2 =>
(run (Et base) 29 [(.slice l2.1 l2.2 l2.2)] r1.2).bind fun r3 =>
(getTup 2 r3.1).bind fun l4 =>
((l4[0]?).bind getS).bind fun l5 =>
((l4[1]?).bind getB).bind fun b6 =>
(run (Et base) 30 [(.slice v0 v0n v0n)] r3.2).bind fun r7 =>
((some r7.1).bind getS).bind fun l8 =>
(run (Et base) 31 [(.slice l8.1 l8.2 l8.2)] r7.2).bind fun r9 =>
(getTup 2 r9.1).bind fun l10 =>
((l10[0]?).bind getS).bind fun l11 =>
((l10[1]?).bind getB).bind fun b12 =>
((run (Et base) 25 [(.slice l11.1 l11.2 l11.2), (.slice l5.1 l5.2 l5.2)] r9.2).bind fun r14 =>
((some r14.1).bind getB).bind fun b15 =>
(if (!b15) = true then
some (.inl ([some (.slice v0 v0n v0n), some (.slice l5.1 l5.2 l5.2), some (.bool b6), some (.slice l8.1 l8.2 l8.2), some (.slice l11.1 l11.2 l11.2), some (.bool b12), some (.bool true)], r14.2))
else
some (.inl ([some (.slice v0 v0n v0n), some (.slice l5.1 l5.2 l5.2), some (.bool b6), some (.slice l8.1 l8.2 l8.2), some (.slice l11.1 l11.2 l11.2), some (.bool b12), some (.bool (!(b12 == b6)))], r14.2)))).bind fun j13 => joinK j13 fun j13 =>
((sget j13.1 0).bind getS).bind fun l16 =>
((sget (j13.1.tail) 0).bind getS).bind fun l17 =>
((sget (j13.1.tail.tail) 0).bind getB).bind fun b18 =>
((sget (j13.1.tail.tail.tail) 0).bind getS).bind fun l19 =>
((sget (j13.1.tail.tail.tail.tail) 0).bind getS).bind fun l20 =>
((sget (j13.1.tail.tail.tail.tail.tail) 0).bind getB).bind fun b21 =>
((sget (j13.1.tail.tail.tail.tail.tail.tail) 0).bind getB).bind fun b22 =>
(if b22 = true then
some ((.bool false), j13.2)
else
(run (Et base) 30 [(.slice l16.1 l16.2 l16.2)] j13.2).bind fun r23 =>
((some r23.1).bind getS).bind fun l24 =>
(run (Et base) 24 [(.slice l19.1 l19.2 l19.2), (.slice l24.1 l24.2 l24.2)] r23.2).bind fun r25 =>
((some r25.1).bind getB).bind fun b26 =>
(if (!b26) = true then
some ((.bool false), r25.2)
else
(run (Et base) 27 [(.slice l19.1 l19.2 l19.2), (.int .i64 (1 : Int))] r25.2).bind fun r27 =>
((some r27.1).bind (getI .i64)).bind fun n28 =>
((if (decide (n28 < (0 : Int))) = true then
some (.inl ([some (.slice l16.1 l16.2 l16.2), some (.slice l17.1 l17.2 l17.2), some (.bool b18), some (.slice l20.1 l20.2 l20.2), some (.bool true)], r27.2))
else
(run (Et base) 25 [(.slice l20.1 l20.2 l20.2), (.slice l17.1 l17.2 l17.2)] r27.2).bind fun r30 =>
((some r30.1).bind getB).bind fun b31 =>
(if (!b31) = true then
some (.inl ([some (.slice l16.1 l16.2 l16.2), some (.slice l17.1 l17.2 l17.2), some (.bool b18), some (.slice l20.1 l20.2 l20.2), some (.bool true)], r30.2))
else
some (.inl ([some (.slice l16.1 l16.2 l16.2), some (.slice l17.1 l17.2 l17.2), some (.bool b18), some (.slice l20.1 l20.2 l20.2), some (.bool (!(b21 == b18)))], r30.2))))).bind fun j29 => joinK j29 fun j29 =>
((sget j29.1 0).bind getS).bind fun l32 =>
((sget (j29.1.tail) 0).bind getS).bind fun l33 =>
((sget (j29.1.tail.tail) 0).bind getB).bind fun b34 =>
((sget (j29.1.tail.tail.tail) 0).bind getS).bind fun l35 =>
((sget (j29.1.tail.tail.tail.tail) 0).bind getB).bind fun b36 =>
(if b36 = true then
some ((.bool false), j29.2)
else
(run (Et base) 26 [(.slice l35.1 l35.2 l35.2), (.int .i64 (1 : Int))] j29.2).bind fun r37 =>
((some r37.1).bind (getI .i64)).bind fun n38 =>
(run (Et base) 32 [(.slice l35.1 l35.2 l35.2), (.int .i64 (1 : Int))] r37.2).bind fun r39 =>
((some r39.1).bind (getI .i64)).bind fun n40 =>
(if (decide (n40 < (0 : Int))) = true then
some ((.bool false), r39.2)
else
(if (n40 != n38) = true then
some ((.bool false), r39.2)
else
(run (Et base) 30 [(.slice l32.1 l32.2 l32.2)] r39.2).bind fun r41 =>
((some r41.1).bind getS).bind fun l42 =>
(run (Et base) 31 [(.slice l42.1 l42.2 l42.2)] r41.2).bind fun r43 =>
(getTup 2 r43.1).bind fun l44 =>
((l44[0]?).bind getS).bind fun l45 =>
((l44[1]?).bind getB).bind fun b46 =>
((run (Et base) 25 [(.slice l45.1 l45.2 l45.2), (.slice l33.1 l33.2 l33.2)] r43.2).bind fun r48 =>
((some r48.1).bind getB).bind fun b49 =>
(if (!b49) = true then
some (.inl ([some (.slice l35.1 l35.2 l35.2), some (.int .i64 n38), some (.bool true)], r48.2))
else
some (.inl ([some (.slice l35.1 l35.2 l35.2), some (.int .i64 n38), some (.bool (!(b46 == b34)))], r48.2)))).bind fun j47 => joinK j47 fun j47 =>
((sget j47.1 0).bind getS).bind fun l50 =>
((sget (j47.1.tail) 0).bind (getI .i64)).bind fun n51 =>
((sget (j47.1.tail.tail) 0).bind getB).bind fun b52 =>
(if b52 = true then
some ((.bool false), j47.2)
else
(run (Et base) 32 [(.slice l50.1 l50.2 l50.2), (.int .i64 (1 : Int))] j47.2).bind fun r53 =>
((some r53.1).bind (getI .i64)).bind fun n54 =>
(if (decide (n54 < (0 : Int))) = true then
some ((.bool false), r53.2)
else
(if (n54 != n51) = true then
some ((.bool false), r53.2)
else
some ((.bool true), r53.2))))))))))) = some r) : run (Et base) 5 [(.slice v0 v0n v0n)] h = some r := run_i Try.func5 (by kernel_rfl) ((f5_eq base v0 v0n h).trans hx)
/-! laws.FnCut (gates 0) -/
theorem f6_eq (base : Nat) (v0 : Option Addr) (v0n : Nat) (h : AH) : exFun (Et base) (run (Et base)) loopL a6 Try.f6 [(.slice v0 v0n v0n)] h =
((run (Et base) 33 [(.slice v0 v0n v0n)] h).bind fun r1 =>
((some r1.1).bind getB).bind fun b2 =>
(if b2 = true then
some ((.bool true), r1.2)
else
(run (Et base) 34 [(.slice v0 v0n v0n)] r1.2).bind fun r3 =>
((some r3.1).bind getS).bind fun l4 =>
(run (Et base) 23 [(.slice l4.1 l4.2 l4.2)] r3.2).bind fun r5 =>
((some r5.1).bind getS).bind fun l6 =>
(if (((l6.2 : Nat) : Int) == (0 : Int)) = true then
some ((.bool false), r5.2)
else
(run (Et base) 35 [(.slice v0 v0n v0n), (.int .i64 (2 : Int))] r5.2).bind fun r7 =>
((some r7.1).bind (getI .i64)).bind fun n8 =>
(run (Et base) 35 [(.slice v0 v0n v0n), (.int .i64 (3 : Int))] r7.2).bind fun r9 =>
((some r9.1).bind (getI .i64)).bind fun n10 =>
(if ((l6.2 : Nat) : Int) = 0 then none else
(if 0 ≤ (0 : Int) ∧ (0 : Int) ≤ (Int.tmod (IntKind.wrap .i64 ((IntKind.wrap .i64 (n8 * (256 : Int))) + n10)) ((l6.2 : Nat) : Int)) ∧ (Int.tmod (IntKind.wrap .i64 ((IntKind.wrap .i64 (n8 * (256 : Int))) + n10)) ((l6.2 : Nat) : Int)) ≤ ((l6.2 : Nat) : Int) ∧ okTy base r9.2 l6.1 5 (Int.toNat (0 : Int)) = true then
(run (Et base) 31 [(.slice (shiftA l6.1 (Int.toNat (0 : Int) * 1)) (Int.toNat (Int.tmod (IntKind.wrap .i64 ((IntKind.wrap .i64 (n8 * (256 : Int))) + n10)) ((l6.2 : Nat) : Int)) - Int.toNat (0 : Int)) (Int.toNat (Int.tmod (IntKind.wrap .i64 ((IntKind.wrap .i64 (n8 * (256 : Int))) + n10)) ((l6.2 : Nat) : Int)) - Int.toNat (0 : Int)))] r9.2).bind fun r11 =>
(getTup 2 r11.1).bind fun l12 =>
((l12[0]?).bind getS).bind fun l13 =>
((l12[1]?).bind getB).bind fun b14 =>
(some (r11.2 ++ [some ⟨[], 5⟩])).bind fun h15 =>
(app base h15 5 1 1 (some ⟨(List.length r11.2), 0, none⟩) 0 (rawAt h15 l6.1 (l6.2 * 1)) l6.2).bind fun p16 =>
((some p16.1).bind getS).bind fun l17 =>
(some (p16.2 ++ [some ⟨[(.int .u8 (0 : Int))], 5⟩])).bind fun h18 =>
(app base h18 5 1 1 l17.1 l17.2 (rawAt h18 (some ⟨(List.length p16.2), 0, none⟩) (1 * 1)) 1).bind fun p19 =>
((some p19.1).bind getS).bind fun l20 =>
(run (Et base) 31 [(.slice l20.1 l20.2 l20.2)] p19.2).bind fun r21 =>
(getTup 2 r21.1).bind fun l22 =>
((l22[0]?).bind getS).bind fun l23 =>
((l22[1]?).bind getB).bind fun b24 =>
(if (!b14) = true then
some ((.bool (!b24)), r21.2)
else
some ((.bool false), r21.2))
else none)))) : Option (Value × AH)) := by kernel_rfl
theorem r6 {base : Nat} {v0 : Option Addr} {v0n : Nat} {h : AH} {r : Value × AH} (hx :
((run (Et base) 33 [(.slice v0 v0n v0n)] h).bind fun r1 =>
((some r1.1).bind getB).bind fun b2 =>
(if b2 = true then
some ((.bool true), r1.2)
else
(run (Et base) 34 [(.slice v0 v0n v0n)] r1.2).bind fun r3 =>
((some r3.1).bind getS).bind fun l4 =>
(run (Et base) 23 [(.slice l4.1 l4.2 l4.2)] r3.2).bind fun r5 =>
((some r5.1).bind getS).bind fun l6 =>
(if (((l6.2 : Nat) : Int) == (0 : Int)) = true then
some ((.bool false), r5.2)
else
(run (Et base) 35 [(.slice v0 v0n v0n), (.int .i64 (2 : Int))] r5.2).bind fun r7 =>
((some r7.1).bind (getI .i64)).bind fun n8 =>
(run (Et base) 35 [(.slice v0 v0n v0n), (.int .i64 (3 : Int))] r7.2).bind fun r9 =>
((some r9.1).bind (getI .i64)).bind fun n10 =>
(if ((l6.2 : Nat) : Int) = 0 then none else
(if 0 ≤ (0 : Int) ∧ (0 : Int) ≤ (Int.tmod (IntKind.wrap .i64 ((IntKind.wrap .i64 (n8 * (256 : Int))) + n10)) ((l6.2 : Nat) : Int)) ∧ (Int.tmod (IntKind.wrap .i64 ((IntKind.wrap .i64 (n8 * (256 : Int))) + n10)) ((l6.2 : Nat) : Int)) ≤ ((l6.2 : Nat) : Int) ∧ okTy base r9.2 l6.1 5 (Int.toNat (0 : Int)) = true then
(run (Et base) 31 [(.slice (shiftA l6.1 (Int.toNat (0 : Int) * 1)) (Int.toNat (Int.tmod (IntKind.wrap .i64 ((IntKind.wrap .i64 (n8 * (256 : Int))) + n10)) ((l6.2 : Nat) : Int)) - Int.toNat (0 : Int)) (Int.toNat (Int.tmod (IntKind.wrap .i64 ((IntKind.wrap .i64 (n8 * (256 : Int))) + n10)) ((l6.2 : Nat) : Int)) - Int.toNat (0 : Int)))] r9.2).bind fun r11 =>
(getTup 2 r11.1).bind fun l12 =>
((l12[0]?).bind getS).bind fun l13 =>
((l12[1]?).bind getB).bind fun b14 =>
(some (r11.2 ++ [some ⟨[], 5⟩])).bind fun h15 =>
(app base h15 5 1 1 (some ⟨(List.length r11.2), 0, none⟩) 0 (rawAt h15 l6.1 (l6.2 * 1)) l6.2).bind fun p16 =>
((some p16.1).bind getS).bind fun l17 =>
(some (p16.2 ++ [some ⟨[(.int .u8 (0 : Int))], 5⟩])).bind fun h18 =>
(app base h18 5 1 1 l17.1 l17.2 (rawAt h18 (some ⟨(List.length p16.2), 0, none⟩) (1 * 1)) 1).bind fun p19 =>
((some p19.1).bind getS).bind fun l20 =>
(run (Et base) 31 [(.slice l20.1 l20.2 l20.2)] p19.2).bind fun r21 =>
(getTup 2 r21.1).bind fun l22 =>
((l22[0]?).bind getS).bind fun l23 =>
((l22[1]?).bind getB).bind fun b24 =>
(if (!b14) = true then
some ((.bool (!b24)), r21.2)
else
some ((.bool false), r21.2))
else none))))) = some r) : run (Et base) 6 [(.slice v0 v0n v0n)] h = some r := run_i Try.func6 (by kernel_rfl) ((f6_eq base v0 v0n h).trans hx)
/-! impl.PutCode (gates 0) -/
noncomputable def B23_1 (base : Nat) : Body := fun l h => lay s23_1 l fun s => exCode (Et base) (run (Et base)) loopL a23_1 (subC [1, 1, 1, 0, 1, 0, 0, 1, 1, 0, 0, 1, 0, 1, 0, 0] (bodyC Try.f23)) s h (keepK s23_1 e23_1)
noncomputable def B23_0 (base : Nat) : Body := fun l h => lay s23_0 l fun s => exCode (Et base) (run (Et base)) loopL a23_0 (subC [1, 1, 1, 0, 1, 0, 0] (bodyC Try.f23)) s h (keepK s23_0 e23_0)
theorem B23_1_eq (base : Nat) (v3 : Option Addr) (v3n : Nat) (v5 : Addr) (v14 : Option Addr) (v14n : Nat) (v15 : Int) (v16 : Int) (v33 : Option Addr) (v33n : Nat) (v34 : Int) (v35 : Int) (h : AH) : B23_1 base [some (.slice v3 v3n v3n), some (.pointer (some v5)), some (.slice v14 v14n v14n), some (.int .i64 v15), some (.int .i64 v16), some (.slice v33 v33n v33n), some (.int .i64 v34), some (.int .i64 v35)] h =
((if (decide (v35 < v34)) = true then
(if 0 ≤ v35 ∧ v35 < ((v33n : Nat) : Int) then
((v33 : Option Addr)).bind fun a1 =>
((cell h a1.block (a1.off + Int.toNat v35 * 1)).bind (getI .i64)).bind fun n2 =>
(run (Et base) 81 [(.slice v3 v3n v3n), (.int .i64 n2)] h).bind fun r3 =>
((some r3.1).bind getS).bind fun l4 =>
some (0, [some (.slice l4.1 l4.2 l4.2), some (.pointer (some v5)), some (.slice v14 v14n v14n), some (.int .i64 v15), some (.int .i64 v16), some (.slice v33 v33n v33n), some (.int .i64 v34), some (.int .i64 (IntKind.wrap .i64 (v35 + (1 : Int))))], r3.2)
else none)
else
some (4, [some (.slice v3 v3n v3n), some (.pointer (some v5)), some (.slice v14 v14n v14n), some (.int .i64 v15), some (.int .i64 v16)], h)) : Option (Nat × Slots × AH)) := by kernel_rfl
theorem B23_0_eq (base : Nat) (v3 : Option Addr) (v3n : Nat) (v14 : Option Addr) (v14n : Nat) (v15 : Int) (v16 : Int) (h : AH) : B23_0 base [some (.slice v3 v3n v3n), some (.slice v14 v14n v14n), some (.int .i64 v15), some (.int .i64 v16)] h =
((if (decide (v16 < v15)) = true then
(if 0 ≤ v16 ∧ v16 < ((v14n : Nat) : Int) then
((v14 : Option Addr)).bind fun a1 =>
((cell h a1.block (a1.off + Int.toNat v16 * 6)).bind (getI .i64)).bind fun n2 =>
((cell h a1.block ((a1.off + Int.toNat v16 * 6) + 1)).bind (getI .i64)).bind fun n3 =>
((cell h a1.block (((a1.off + Int.toNat v16 * 6) + 1) + 1)).bind (getI .i64)).bind fun n4 =>
((cell h a1.block ((((a1.off + Int.toNat v16 * 6) + 1) + 1) + 1)).bind (getI .i64)).bind fun n5 =>
((cell h a1.block (((((a1.off + Int.toNat v16 * 6) + 1) + 1) + 1) + 1)).bind (getI .i64)).bind fun n6 =>
((cell h a1.block ((((((a1.off + Int.toNat v16 * 6) + 1) + 1) + 1) + 1) + 1)).bind getStr).bind fun s7 =>
(some (h ++ [some ⟨[(.int .i64 0), (.int .i64 0), (.int .i64 0), (.int .i64 0), (.int .i64 0), (.string ⟨#[]⟩)], 116⟩])).bind fun h8 =>
(wr base h8 (List.length h) 0 [(.int .i64 n2), (.int .i64 n3), (.int .i64 n4), (.int .i64 n5), (.int .i64 n6), (.string s7)]).bind fun h9 =>
((cell h9 (List.length h) 0).bind (getI .i64)).bind fun n10 =>
((cell h9 (List.length h) 1).bind (getI .i64)).bind fun n11 =>
((cell h9 (List.length h) 2).bind (getI .i64)).bind fun n12 =>
((cell h9 (List.length h) 3).bind (getI .i64)).bind fun n13 =>
((cell h9 (List.length h) 4).bind (getI .i64)).bind fun n14 =>
((cell h9 (List.length h) 5).bind getStr).bind fun s15 =>
(some (h9 ++ [some ⟨[(.int .i64 n10), (.int .i64 n11), (.int .i64 n12), (.int .i64 n13), (.int .i64 n14), (.int .i64 (s15.size : Int))], 3⟩])).bind fun h16 =>
(loopL (B23_1 base) [some (.slice v3 v3n v3n), some (.pointer (some ⟨(List.length h), 0, none⟩)), some (.slice v14 v14n v14n), some (.int .i64 v15), some (.int .i64 v16), some (.slice (some ⟨(List.length h9), 0, none⟩) 6 6), some (.int .i64 (6 : Int)), some (.int .i64 (0 : Int))] h16).bind fun q17 =>
(if q17.1 = 4 then
((sget q17.2.1 0).bind getS).bind fun l18 =>
((sget (q17.2.1.tail) 0).bind getA).bind fun d19 =>
((sget (q17.2.1.tail.tail) 0).bind getS).bind fun l20 =>
((sget (q17.2.1.tail.tail.tail) 0).bind (getI .i64)).bind fun n21 =>
((sget (q17.2.1.tail.tail.tail.tail) 0).bind (getI .i64)).bind fun n22 =>
((cell q17.2.2 d19.block (d19.off + 5)).bind getStr).bind fun s23 =>
(app base q17.2.2 5 1 1 l18.1 l18.2 (some (bytesV s23)) s23.size).bind fun p24 =>
((some p24.1).bind getS).bind fun l25 =>
some (0, [some (.slice l25.1 l25.2 l25.2), some (.slice l20.1 l20.2 l20.2), some (.int .i64 n21), some (.int .i64 (IntKind.wrap .i64 (n22 + (1 : Int))))], p24.2)
else
none)
else none)
else
some (2, [some (.slice v3 v3n v3n)], h)) : Option (Nat × Slots × AH)) := by kernel_rfl
theorem f23_eq (base : Nat) (v0 : Option Addr) (v0n : Nat) (h : AH) : exFun (Et base) (run (Et base)) loopL a23 Try.f23 [(.slice v0 v0n v0n)] h =
((run (Et base) 80 [(.slice v0 v0n v0n)] h).bind fun r1 =>
((some r1.1).bind getB).bind fun b2 =>
(if (!b2) = true then
some ((.slice none 0 0), r1.2)
else
(run (Et base) 81 [(.slice none 0 0), (.int .i64 ((v0n : Nat) : Int))] r1.2).bind fun r3 =>
((some r3.1).bind getS).bind fun l4 =>
(loopL (B23_0 base) [some (.slice l4.1 l4.2 l4.2), some (.slice v0 v0n v0n), some (.int .i64 ((v0n : Nat) : Int)), some (.int .i64 (0 : Int))] r3.2).bind fun q5 =>
(if q5.1 = 2 then
((sget q5.2.1 0).bind getS).bind fun l6 =>
some ((.slice l6.1 l6.2 l6.2), q5.2.2)
else
none)) : Option (Value × AH)) := by kernel_rfl
theorem r23 {base : Nat} {v0 : Option Addr} {v0n : Nat} {h : AH} {r : Value × AH} (hx :
((run (Et base) 80 [(.slice v0 v0n v0n)] h).bind fun r1 =>
((some r1.1).bind getB).bind fun b2 =>
(if (!b2) = true then
some ((.slice none 0 0), r1.2)
else
(run (Et base) 81 [(.slice none 0 0), (.int .i64 ((v0n : Nat) : Int))] r1.2).bind fun r3 =>
((some r3.1).bind getS).bind fun l4 =>
(loopL (B23_0 base) [some (.slice l4.1 l4.2 l4.2), some (.slice v0 v0n v0n), some (.int .i64 ((v0n : Nat) : Int)), some (.int .i64 (0 : Int))] r3.2).bind fun q5 =>
(if q5.1 = 2 then
((sget q5.2.1 0).bind getS).bind fun l6 =>
some ((.slice l6.1 l6.2 l6.2), q5.2.2)
else
none))) = some r) : run (Et base) 23 [(.slice v0 v0n v0n)] h = some r := run_i Try.func23 (by kernel_rfl) ((f23_eq base v0 v0n h).trans hx)
/-! laws.eqByteS (gates 0) -/
noncomputable def B24_0 (base : Nat) : Body := fun l h => lay s24_0 l fun s => exCode (Et base) (run (Et base)) loopL a24_0 (subC [1, 1, 0, 1, 0, 0] (bodyC Try.f24)) s h (keepK s24_0 e24_0)
theorem B24_0_eq (base : Nat) (v0 : Option Addr) (v0n : Nat) (v1 : Option Addr) (v1n : Nat) (v5 : Int) (h : AH) : B24_0 base [some (.slice v0 v0n v0n), some (.slice v1 v1n v1n), some (.int .i64 v5)] h =
((if (decide (v5 < ((v0n : Nat) : Int))) = true then
(if 0 ≤ v5 ∧ v5 < ((v0n : Nat) : Int) then
((v0 : Option Addr)).bind fun a1 =>
((cell h a1.block (a1.off + Int.toNat v5 * 1)).bind (getI .u8)).bind fun n2 =>
(if 0 ≤ v5 ∧ v5 < ((v1n : Nat) : Int) then
((v1 : Option Addr)).bind fun a3 =>
((cell h a3.block (a3.off + Int.toNat v5 * 1)).bind (getI .u8)).bind fun n4 =>
(if (n2 != n4) = true then
some (1, [some (.bool false)], h)
else
some (0, [some (.slice v0 v0n v0n), some (.slice v1 v1n v1n), some (.int .i64 (IntKind.wrap .i64 (v5 + (1 : Int))))], h))
else none)
else none)
else
some (2, [], h)) : Option (Nat × Slots × AH)) := by kernel_rfl
theorem f24_eq (base : Nat) (v0 : Option Addr) (v0n : Nat) (v1 : Option Addr) (v1n : Nat) (h : AH) : exFun (Et base) (run (Et base)) loopL a24 Try.f24 [(.slice v0 v0n v0n), (.slice v1 v1n v1n)] h =
((if (((v0n : Nat) : Int) != ((v1n : Nat) : Int)) = true then
some ((.bool false), h)
else
(loopL (B24_0 base) [some (.slice v0 v0n v0n), some (.slice v1 v1n v1n), some (.int .i64 (0 : Int))] h).bind fun q1 =>
(if q1.1 = 1 then
((sget q1.2.1 0).bind getB).bind fun b2 =>
some ((.bool b2), q1.2.2)
else
(if q1.1 = 2 then
some ((.bool true), q1.2.2)
else
none))) : Option (Value × AH)) := by kernel_rfl
theorem r24 {base : Nat} {v0 : Option Addr} {v0n : Nat} {v1 : Option Addr} {v1n : Nat} {h : AH} {r : Value × AH} (hx :
((if (((v0n : Nat) : Int) != ((v1n : Nat) : Int)) = true then
some ((.bool false), h)
else
(loopL (B24_0 base) [some (.slice v0 v0n v0n), some (.slice v1 v1n v1n), some (.int .i64 (0 : Int))] h).bind fun q1 =>
(if q1.1 = 1 then
((sget q1.2.1 0).bind getB).bind fun b2 =>
some ((.bool b2), q1.2.2)
else
(if q1.1 = 2 then
some ((.bool true), q1.2.2)
else
none)))) = some r) : run (Et base) 24 [(.slice v0 v0n v0n), (.slice v1 v1n v1n)] h = some r := run_i Try.func24 (by kernel_rfl) ((f24_eq base v0 v0n v1 v1n h).trans hx)
/-! laws.eqInsS (gates 0) -/
noncomputable def B25_0 (base : Nat) : Body := fun l h => lay s25_0 l fun s => exCode (Et base) (run (Et base)) loopL a25_0 (subC [1, 1, 0, 1, 0, 0] (bodyC Try.f25)) s h (keepK s25_0 e25_0)
theorem B25_0_eq (base : Nat) (v0 : Option Addr) (v0n : Nat) (v1 : Option Addr) (v1n : Nat) (v5 : Int) (h : AH) : B25_0 base [some (.slice v0 v0n v0n), some (.slice v1 v1n v1n), some (.int .i64 v5)] h =
((if (decide (v5 < ((v0n : Nat) : Int))) = true then
(if 0 ≤ v5 ∧ v5 < ((v0n : Nat) : Int) then
((v0 : Option Addr)).bind fun a1 =>
((cell h a1.block (a1.off + Int.toNat v5 * 6)).bind (getI .i64)).bind fun n2 =>
((cell h a1.block ((a1.off + Int.toNat v5 * 6) + 1)).bind (getI .i64)).bind fun n3 =>
((cell h a1.block (((a1.off + Int.toNat v5 * 6) + 1) + 1)).bind (getI .i64)).bind fun n4 =>
((cell h a1.block ((((a1.off + Int.toNat v5 * 6) + 1) + 1) + 1)).bind (getI .i64)).bind fun n5 =>
((cell h a1.block (((((a1.off + Int.toNat v5 * 6) + 1) + 1) + 1) + 1)).bind (getI .i64)).bind fun n6 =>
((cell h a1.block ((((((a1.off + Int.toNat v5 * 6) + 1) + 1) + 1) + 1) + 1)).bind getStr).bind fun s7 =>
(if 0 ≤ v5 ∧ v5 < ((v1n : Nat) : Int) then
((v1 : Option Addr)).bind fun a8 =>
((cell h a8.block (a8.off + Int.toNat v5 * 6)).bind (getI .i64)).bind fun n9 =>
((cell h a8.block ((a8.off + Int.toNat v5 * 6) + 1)).bind (getI .i64)).bind fun n10 =>
((cell h a8.block (((a8.off + Int.toNat v5 * 6) + 1) + 1)).bind (getI .i64)).bind fun n11 =>
((cell h a8.block ((((a8.off + Int.toNat v5 * 6) + 1) + 1) + 1)).bind (getI .i64)).bind fun n12 =>
((cell h a8.block (((((a8.off + Int.toNat v5 * 6) + 1) + 1) + 1) + 1)).bind (getI .i64)).bind fun n13 =>
((cell h a8.block ((((((a8.off + Int.toNat v5 * 6) + 1) + 1) + 1) + 1) + 1)).bind getStr).bind fun s14 =>
(run (Et base) 82 [(.agg #[(.int .i64 n2), (.int .i64 n3), (.int .i64 n4), (.int .i64 n5), (.int .i64 n6), (.string s7)]), (.agg #[(.int .i64 n9), (.int .i64 n10), (.int .i64 n11), (.int .i64 n12), (.int .i64 n13), (.string s14)])] h).bind fun r15 =>
((some r15.1).bind getB).bind fun b16 =>
(if (!b16) = true then
some (1, [some (.bool false)], r15.2)
else
some (0, [some (.slice v0 v0n v0n), some (.slice v1 v1n v1n), some (.int .i64 (IntKind.wrap .i64 (v5 + (1 : Int))))], r15.2))
else none)
else none)
else
some (2, [], h)) : Option (Nat × Slots × AH)) := by kernel_rfl
theorem f25_eq (base : Nat) (v0 : Option Addr) (v0n : Nat) (v1 : Option Addr) (v1n : Nat) (h : AH) : exFun (Et base) (run (Et base)) loopL a25 Try.f25 [(.slice v0 v0n v0n), (.slice v1 v1n v1n)] h =
((if (((v0n : Nat) : Int) != ((v1n : Nat) : Int)) = true then
some ((.bool false), h)
else
(loopL (B25_0 base) [some (.slice v0 v0n v0n), some (.slice v1 v1n v1n), some (.int .i64 (0 : Int))] h).bind fun q1 =>
(if q1.1 = 1 then
((sget q1.2.1 0).bind getB).bind fun b2 =>
some ((.bool b2), q1.2.2)
else
(if q1.1 = 2 then
some ((.bool true), q1.2.2)
else
none))) : Option (Value × AH)) := by kernel_rfl
theorem r25 {base : Nat} {v0 : Option Addr} {v0n : Nat} {v1 : Option Addr} {v1n : Nat} {h : AH} {r : Value × AH} (hx :
((if (((v0n : Nat) : Int) != ((v1n : Nat) : Int)) = true then
some ((.bool false), h)
else
(loopL (B25_0 base) [some (.slice v0 v0n v0n), some (.slice v1 v1n v1n), some (.int .i64 (0 : Int))] h).bind fun q1 =>
(if q1.1 = 1 then
((sget q1.2.1 0).bind getB).bind fun b2 =>
some ((.bool b2), q1.2.2)
else
(if q1.1 = 2 then
some ((.bool true), q1.2.2)
else
none)))) = some r) : run (Et base) 25 [(.slice v0 v0n v0n), (.slice v1 v1n v1n)] h = some r := run_i Try.func25 (by kernel_rfl) ((f25_eq base v0 v0n v1 v1n h).trans hx)
/-! laws.markInsS (gates 0) -/
noncomputable def B26_0 (base : Nat) : Body := fun l h => lay s26_0 l fun s => exCode (Et base) (run (Et base)) loopL a26_0 (subC [1, 0, 1, 0, 0] (bodyC Try.f26)) s h (keepK s26_0 e26_0)
theorem B26_0_eq (base : Nat) (v0 : Option Addr) (v0n : Nat) (v1 : Int) (v5 : Int) (h : AH) : B26_0 base [some (.slice v0 v0n v0n), some (.int .i64 v1), some (.int .i64 v5)] h =
((if (decide (v5 < ((v0n : Nat) : Int))) = true then
(if 0 ≤ v5 ∧ v5 < ((v0n : Nat) : Int) then
((v0 : Option Addr)).bind fun a1 =>
(wr base h a1.block ((a1.off + Int.toNat v5 * 6) + 0) [(.int .i64 v1)]).bind fun h2 =>
(if 0 ≤ v5 ∧ v5 < ((v0n : Nat) : Int) then
((v0 : Option Addr)).bind fun a3 =>
(wr base h2 a3.block ((a3.off + Int.toNat v5 * 6) + 1) [(.int .i64 (IntKind.wrap .i64 (v1 + (1 : Int))))]).bind fun h4 =>
(if 0 ≤ v5 ∧ v5 < ((v0n : Nat) : Int) then
((v0 : Option Addr)).bind fun a5 =>
(wr base h4 a5.block ((a5.off + Int.toNat v5 * 6) + 2) [(.int .i64 (IntKind.wrap .i64 ((IntKind.wrap .i64 (v1 + (1 : Int))) + (1 : Int))))]).bind fun h6 =>
(if 0 ≤ v5 ∧ v5 < ((v0n : Nat) : Int) then
((v0 : Option Addr)).bind fun a7 =>
(wr base h6 a7.block ((a7.off + Int.toNat v5 * 6) + 3) [(.int .i64 (IntKind.wrap .i64 ((IntKind.wrap .i64 ((IntKind.wrap .i64 (v1 + (1 : Int))) + (1 : Int))) + (1 : Int))))]).bind fun h8 =>
(if 0 ≤ v5 ∧ v5 < ((v0n : Nat) : Int) then
((v0 : Option Addr)).bind fun a9 =>
(wr base h8 a9.block ((a9.off + Int.toNat v5 * 6) + 4) [(.int .i64 (IntKind.wrap .i64 ((IntKind.wrap .i64 ((IntKind.wrap .i64 ((IntKind.wrap .i64 (v1 + (1 : Int))) + (1 : Int))) + (1 : Int))) + (1 : Int))))]).bind fun h10 =>
(run (Et base) 83 [(.int .i64 (IntKind.wrap .i64 ((IntKind.wrap .i64 ((IntKind.wrap .i64 ((IntKind.wrap .i64 ((IntKind.wrap .i64 (v1 + (1 : Int))) + (1 : Int))) + (1 : Int))) + (1 : Int))) + (1 : Int))))] h10).bind fun r11 =>
((some r11.1).bind getStr).bind fun s12 =>
(if 0 ≤ v5 ∧ v5 < ((v0n : Nat) : Int) then
((v0 : Option Addr)).bind fun a13 =>
(wr base r11.2 a13.block ((a13.off + Int.toNat v5 * 6) + 5) [(.string s12)]).bind fun h14 =>
some (0, [some (.slice v0 v0n v0n), some (.int .i64 (IntKind.wrap .i64 ((IntKind.wrap .i64 ((IntKind.wrap .i64 ((IntKind.wrap .i64 ((IntKind.wrap .i64 ((IntKind.wrap .i64 (v1 + (1 : Int))) + (1 : Int))) + (1 : Int))) + (1 : Int))) + (1 : Int))) + (1 : Int)))), some (.int .i64 (IntKind.wrap .i64 (v5 + (1 : Int))))], h14)
else none)
else none)
else none)
else none)
else none)
else none)
else
some (2, [some (.int .i64 v1)], h)) : Option (Nat × Slots × AH)) := by kernel_rfl
theorem f26_eq (base : Nat) (v0 : Option Addr) (v0n : Nat) (v1 : Int) (h : AH) : exFun (Et base) (run (Et base)) loopL a26 Try.f26 [(.slice v0 v0n v0n), (.int .i64 v1)] h =
((loopL (B26_0 base) [some (.slice v0 v0n v0n), some (.int .i64 v1), some (.int .i64 (0 : Int))] h).bind fun q1 =>
(if q1.1 = 2 then
((sget q1.2.1 0).bind (getI .i64)).bind fun n2 =>
some ((.int .i64 n2), q1.2.2)
else
none) : Option (Value × AH)) := by kernel_rfl
theorem r26 {base : Nat} {v0 : Option Addr} {v0n : Nat} {v1 : Int} {h : AH} {r : Value × AH} (hx :
((loopL (B26_0 base) [some (.slice v0 v0n v0n), some (.int .i64 v1), some (.int .i64 (0 : Int))] h).bind fun q1 =>
(if q1.1 = 2 then
((sget q1.2.1 0).bind (getI .i64)).bind fun n2 =>
some ((.int .i64 n2), q1.2.2)
else
none)) = some r) : run (Et base) 26 [(.slice v0 v0n v0n), (.int .i64 v1)] h = some r := run_i Try.func26 (by kernel_rfl) ((f26_eq base v0 v0n v1 h).trans hx)
/-! laws.markByteS (gates 0) -/
noncomputable def B27_0 (base : Nat) : Body := fun l h => lay s27_0 l fun s => exCode (Et base) (run (Et base)) loopL a27_0 (subC [1, 0, 1, 0, 0] (bodyC Try.f27)) s h (keepK s27_0 e27_0)
theorem B27_0_eq (base : Nat) (v0 : Option Addr) (v0n : Nat) (v1 : Int) (v5 : Int) (h : AH) : B27_0 base [some (.slice v0 v0n v0n), some (.int .i64 v1), some (.int .i64 v5)] h =
((if (decide (v5 < ((v0n : Nat) : Int))) = true then
(if 0 ≤ v5 ∧ v5 < ((v0n : Nat) : Int) then
((v0 : Option Addr)).bind fun a1 =>
(wr base h a1.block (a1.off + Int.toNat v5 * 1) [(.int .u8 (IntKind.wrap .u8 v1))]).bind fun h2 =>
some (0, [some (.slice v0 v0n v0n), some (.int .i64 (IntKind.wrap .i64 (v1 + (1 : Int)))), some (.int .i64 (IntKind.wrap .i64 (v5 + (1 : Int))))], h2)
else none)
else
some (2, [some (.int .i64 v1)], h)) : Option (Nat × Slots × AH)) := by kernel_rfl
theorem f27_eq (base : Nat) (v0 : Option Addr) (v0n : Nat) (v1 : Int) (h : AH) : exFun (Et base) (run (Et base)) loopL a27 Try.f27 [(.slice v0 v0n v0n), (.int .i64 v1)] h =
((loopL (B27_0 base) [some (.slice v0 v0n v0n), some (.int .i64 v1), some (.int .i64 (0 : Int))] h).bind fun q1 =>
(if q1.1 = 2 then
((sget q1.2.1 0).bind (getI .i64)).bind fun n2 =>
some ((.int .i64 n2), q1.2.2)
else
none) : Option (Value × AH)) := by kernel_rfl
theorem r27 {base : Nat} {v0 : Option Addr} {v0n : Nat} {v1 : Int} {h : AH} {r : Value × AH} (hx :
((loopL (B27_0 base) [some (.slice v0 v0n v0n), some (.int .i64 v1), some (.int .i64 (0 : Int))] h).bind fun q1 =>
(if q1.1 = 2 then
((sget q1.2.1 0).bind (getI .i64)).bind fun n2 =>
some ((.int .i64 n2), q1.2.2)
else
none)) = some r) : run (Et base) 27 [(.slice v0 v0n v0n), (.int .i64 v1)] h = some r := run_i Try.func27 (by kernel_rfl) ((f27_eq base v0 v0n v1 h).trans hx)
/-! spec.GetCode (gates 0) -/
noncomputable def B29_0 (base : Nat) : Body := fun l h => lay s29_0 l fun s => exCode (Et base) (run (Et base)) loopL a29_0 (subC [1, 1, 1, 1, 0, 1, 0, 0] (bodyC Try.f29)) s h (keepK s29_0 e29_0)
theorem B29_0_eq (base : Nat) (v0 : Option Addr) (v0n : Nat) (v4 : Addr) (v5 : Int) (v6 : Option Addr) (v6n : Nat) (v7 : Int) (h : AH) : B29_0 base [some (.slice v0 v0n v0n), some (.pointer (some v4)), some (.int .i64 v5), some (.slice v6 v6n v6n), some (.int .i64 v7)] h =
(((if (decide (v7 < v5)) = true then
(if (decide (v7 < (201 : Int))) = true then
((cell h v4.block (v4.off + 2)).bind getB).bind fun b2 =>
some (.inl ([some (.slice v0 v0n v0n), some (.pointer (some v4)), some (.int .i64 v5), some (.slice v6 v6n v6n), some (.int .i64 v7), some (.bool (!b2))], h))
else
some (.inl ([some (.slice v0 v0n v0n), some (.pointer (some v4)), some (.int .i64 v5), some (.slice v6 v6n v6n), some (.int .i64 v7), some (.bool false)], h)))
else
some (.inl ([some (.slice v0 v0n v0n), some (.pointer (some v4)), some (.int .i64 v5), some (.slice v6 v6n v6n), some (.int .i64 v7), some (.bool false)], h)))).bind fun j1 => joinK j1 fun j1 =>
((sget j1.1 0).bind getS).bind fun l3 =>
((sget (j1.1.tail) 0).bind getA).bind fun d4 =>
((sget (j1.1.tail.tail) 0).bind (getI .i64)).bind fun n5 =>
((sget (j1.1.tail.tail.tail) 0).bind getS).bind fun l6 =>
((sget (j1.1.tail.tail.tail.tail) 0).bind (getI .i64)).bind fun n7 =>
((sget (j1.1.tail.tail.tail.tail.tail) 0).bind getB).bind fun b8 =>
(if b8 = true then
(run (Et base) 85 [(.pointer (some d4))] j1.2).bind fun r9 =>
((some r9.1).bind (getAgg 6)).bind fun l10 =>
((l10[0]?).bind (getI .i64)).bind fun n11 =>
((l10[1]?).bind (getI .i64)).bind fun n12 =>
((l10[2]?).bind (getI .i64)).bind fun n13 =>
((l10[3]?).bind (getI .i64)).bind fun n14 =>
((l10[4]?).bind (getI .i64)).bind fun n15 =>
((l10[5]?).bind getStr).bind fun s16 =>
(some (r9.2 ++ [some ⟨[(.int .i64 n11), (.int .i64 n12), (.int .i64 n13), (.int .i64 n14), (.int .i64 n15), (.string s16)], 116⟩])).bind fun h17 =>
(app base h17 116 6 56 l6.1 l6.2 (rawAt h17 (some ⟨(List.length r9.2), 0, none⟩) (1 * 6)) 1).bind fun p18 =>
((some p18.1).bind getS).bind fun l19 =>
some (0, [some (.slice l3.1 l3.2 l3.2), some (.pointer (some d4)), some (.int .i64 n5), some (.slice l19.1 l19.2 l19.2), some (.int .i64 (IntKind.wrap .i64 (n7 + (1 : Int))))], p18.2)
else
some (2, [some (.slice l3.1 l3.2 l3.2), some (.pointer (some d4)), some (.int .i64 n5), some (.slice l6.1 l6.2 l6.2)], j1.2)) : Option (Nat × Slots × AH)) := by kernel_rfl
theorem f29_eq (base : Nat) (v0 : Option Addr) (v0n : Nat) (h : AH) : exFun (Et base) (run (Et base)) loopL a29 Try.f29 [(.slice v0 v0n v0n)] h =
((some (h ++ [some ⟨[(.slice v0 v0n v0n), (.int .i64 (0 : Int)), (.bool false)], 122⟩])).bind fun h1 =>
(run (Et base) 84 [(.pointer (some ⟨(List.length h), 0, none⟩))] h1).bind fun r2 =>
((some r2.1).bind (getI .i64)).bind fun n3 =>
(some (r2.2 ++ [some ⟨[], 116⟩])).bind fun h4 =>
(loopL (B29_0 base) [some (.slice v0 v0n v0n), some (.pointer (some ⟨(List.length h), 0, none⟩)), some (.int .i64 n3), some (.slice (some ⟨(List.length r2.2), 0, none⟩) 0 0), some (.int .i64 (0 : Int))] h4).bind fun q5 =>
(if q5.1 = 2 then
((sget q5.2.1 0).bind getS).bind fun l6 =>
((sget (q5.2.1.tail) 0).bind getA).bind fun d7 =>
((sget (q5.2.1.tail.tail) 0).bind (getI .i64)).bind fun n8 =>
((sget (q5.2.1.tail.tail.tail) 0).bind getS).bind fun l9 =>
(((cell q5.2.2 d7.block (d7.off + 2)).bind getB).bind fun b11 =>
(if b11 = true then
some (.inl ([some (.slice l9.1 l9.2 l9.2), some (.bool true)], q5.2.2))
else
((cell q5.2.2 d7.block (d7.off + 1)).bind (getI .i64)).bind fun n12 =>
(if (n12 != ((l6.2 : Nat) : Int)) = true then
some (.inl ([some (.slice l9.1 l9.2 l9.2), some (.bool true)], q5.2.2))
else
(if (n8 != ((l9.2 : Nat) : Int)) = true then
some (.inl ([some (.slice l9.1 l9.2 l9.2), some (.bool true)], q5.2.2))
else
(run (Et base) 77 [(.slice l9.1 l9.2 l9.2)] q5.2.2).bind fun r13 =>
((some r13.1).bind getB).bind fun b14 =>
some (.inl ([some (.slice l9.1 l9.2 l9.2), some (.bool (!b14))], r13.2)))))).bind fun j10 => joinK j10 fun j10 =>
((sget j10.1 0).bind getS).bind fun l15 =>
((sget (j10.1.tail) 0).bind getB).bind fun b16 =>
(if b16 = true then
(some (j10.2 ++ [some ⟨[], 116⟩])).bind fun h17 =>
some ((.tuple #[(.slice (some ⟨(List.length j10.2), 0, none⟩) 0 0), (.bool false)]), h17)
else
some ((.tuple #[(.slice l15.1 l15.2 l15.2), (.bool true)]), j10.2))
else
none) : Option (Value × AH)) := by kernel_rfl
theorem r29 {base : Nat} {v0 : Option Addr} {v0n : Nat} {h : AH} {r : Value × AH} (hx :
((some (h ++ [some ⟨[(.slice v0 v0n v0n), (.int .i64 (0 : Int)), (.bool false)], 122⟩])).bind fun h1 =>
(run (Et base) 84 [(.pointer (some ⟨(List.length h), 0, none⟩))] h1).bind fun r2 =>
((some r2.1).bind (getI .i64)).bind fun n3 =>
(some (r2.2 ++ [some ⟨[], 116⟩])).bind fun h4 =>
(loopL (B29_0 base) [some (.slice v0 v0n v0n), some (.pointer (some ⟨(List.length h), 0, none⟩)), some (.int .i64 n3), some (.slice (some ⟨(List.length r2.2), 0, none⟩) 0 0), some (.int .i64 (0 : Int))] h4).bind fun q5 =>
(if q5.1 = 2 then
((sget q5.2.1 0).bind getS).bind fun l6 =>
((sget (q5.2.1.tail) 0).bind getA).bind fun d7 =>
((sget (q5.2.1.tail.tail) 0).bind (getI .i64)).bind fun n8 =>
((sget (q5.2.1.tail.tail.tail) 0).bind getS).bind fun l9 =>
(((cell q5.2.2 d7.block (d7.off + 2)).bind getB).bind fun b11 =>
(if b11 = true then
some (.inl ([some (.slice l9.1 l9.2 l9.2), some (.bool true)], q5.2.2))
else
((cell q5.2.2 d7.block (d7.off + 1)).bind (getI .i64)).bind fun n12 =>
(if (n12 != ((l6.2 : Nat) : Int)) = true then
some (.inl ([some (.slice l9.1 l9.2 l9.2), some (.bool true)], q5.2.2))
else
(if (n8 != ((l9.2 : Nat) : Int)) = true then
some (.inl ([some (.slice l9.1 l9.2 l9.2), some (.bool true)], q5.2.2))
else
(run (Et base) 77 [(.slice l9.1 l9.2 l9.2)] q5.2.2).bind fun r13 =>
((some r13.1).bind getB).bind fun b14 =>
some (.inl ([some (.slice l9.1 l9.2 l9.2), some (.bool (!b14))], r13.2)))))).bind fun j10 => joinK j10 fun j10 =>
((sget j10.1 0).bind getS).bind fun l15 =>
((sget (j10.1.tail) 0).bind getB).bind fun b16 =>
(if b16 = true then
(some (j10.2 ++ [some ⟨[], 116⟩])).bind fun h17 =>
some ((.tuple #[(.slice (some ⟨(List.length j10.2), 0, none⟩) 0 0), (.bool false)]), h17)
else
some ((.tuple #[(.slice l15.1 l15.2 l15.2), (.bool true)]), j10.2))
else
none)) = some r) : run (Et base) 29 [(.slice v0 v0n v0n)] h = some r := run_i Try.func29 (by kernel_rfl) ((f29_eq base v0 v0n h).trans hx)
/-! laws.toByteS (gates 0) -/
noncomputable def B30_0 (base : Nat) : Body := fun l h => lay s30_0 l fun s => exCode (Et base) (run (Et base)) loopL a30_0 (subC [1, 1, 0, 1, 0, 0] (bodyC Try.f30)) s h (keepK s30_0 e30_0)
theorem B30_0_eq (base : Nat) (v0 : Option Addr) (v0n : Nat) (v3 : Option Addr) (v3n : Nat) (v4 : Int) (h : AH) : B30_0 base [some (.slice v0 v0n v0n), some (.slice v3 v3n v3n), some (.int .i64 v4)] h =
((if (decide (v4 < ((v0n : Nat) : Int))) = true then
(if 0 ≤ v4 ∧ v4 < ((v0n : Nat) : Int) then
((v0 : Option Addr)).bind fun a1 =>
((cell h a1.block (a1.off + Int.toNat v4 * 1)).bind (getI .u8)).bind fun n2 =>
(if 0 ≤ v4 ∧ v4 < ((v3n : Nat) : Int) then
((v3 : Option Addr)).bind fun a3 =>
(wr base h a3.block (a3.off + Int.toNat v4 * 1) [(.int .u8 n2)]).bind fun h4 =>
some (0, [some (.slice v0 v0n v0n), some (.slice v3 v3n v3n), some (.int .i64 (IntKind.wrap .i64 (v4 + (1 : Int))))], h4)
else none)
else none)
else
some (2, [some (.slice v3 v3n v3n)], h)) : Option (Nat × Slots × AH)) := by kernel_rfl
theorem f30_eq (base : Nat) (v0 : Option Addr) (v0n : Nat) (h : AH) : exFun (Et base) (run (Et base)) loopL a30 Try.f30 [(.slice v0 v0n v0n)] h =
((if ((v0n : Nat) : Int) = ((v0n : Nat) : Int) ∧ 0 ≤ ((v0n : Nat) : Int) ∧ ((v0n : Nat) : Int) * 1 ≤ 140737488355328 ∧ ((v0n : Nat) : Int) ≤ 140737488355328 then
(some (h ++ [some ⟨rep [(.int .u8 0)] (Int.toNat ((v0n : Nat) : Int)), 5⟩])).bind fun h1 =>
(loopL (B30_0 base) [some (.slice v0 v0n v0n), some (.slice (some ⟨(List.length h), 0, none⟩) (Int.toNat ((v0n : Nat) : Int)) (Int.toNat ((v0n : Nat) : Int))), some (.int .i64 (0 : Int))] h1).bind fun q2 =>
(if q2.1 = 2 then
((sget q2.2.1 0).bind getS).bind fun l3 =>
some ((.slice l3.1 l3.2 l3.2), q2.2.2)
else
none)
else none) : Option (Value × AH)) := by kernel_rfl
theorem r30 {base : Nat} {v0 : Option Addr} {v0n : Nat} {h : AH} {r : Value × AH} (hx :
((if ((v0n : Nat) : Int) = ((v0n : Nat) : Int) ∧ 0 ≤ ((v0n : Nat) : Int) ∧ ((v0n : Nat) : Int) * 1 ≤ 140737488355328 ∧ ((v0n : Nat) : Int) ≤ 140737488355328 then
(some (h ++ [some ⟨rep [(.int .u8 0)] (Int.toNat ((v0n : Nat) : Int)), 5⟩])).bind fun h1 =>
(loopL (B30_0 base) [some (.slice v0 v0n v0n), some (.slice (some ⟨(List.length h), 0, none⟩) (Int.toNat ((v0n : Nat) : Int)) (Int.toNat ((v0n : Nat) : Int))), some (.int .i64 (0 : Int))] h1).bind fun q2 =>
(if q2.1 = 2 then
((sget q2.2.1 0).bind getS).bind fun l3 =>
some ((.slice l3.1 l3.2 l3.2), q2.2.2)
else
none)
else none)) = some r) : run (Et base) 30 [(.slice v0 v0n v0n)] h = some r := run_i Try.func30 (by kernel_rfl) ((f30_eq base v0 v0n h).trans hx)
/-! impl.GetCode (gates 0) -/
noncomputable def B31_1 (base : Nat) : Body := fun l h => lay s31_1 l fun s => exCode (Et base) (run (Et base)) loopL a31_1 (subC [1, 1, 1, 0, 1, 0, 0, 1, 0, 0, 1, 0, 1, 0, 0] (bodyC Try.f31)) s h (keepK s31_1 e31_1)
noncomputable def B31_0 (base : Nat) : Body := fun l h => lay s31_0 l fun s => exCode (Et base) (run (Et base)) loopL a31_0 (subC [1, 1, 1, 0, 1, 0, 0] (bodyC Try.f31)) s h (keepK s31_0 e31_0)
theorem B31_1_eq (base : Nat) (v0 : Option Addr) (v0n : Nat) (v4 : Int) (v5 : Int) (v6 : Bool) (v7 : Option Addr) (v7n : Nat) (v8 : Int) (v9 : Addr) (v10 : Int) (h : AH) : B31_1 base [some (.slice v0 v0n v0n), some (.int .i64 v4), some (.int .i64 v5), some (.bool v6), some (.slice v7 v7n v7n), some (.int .i64 v8), some (.pointer (some v9)), some (.int .i64 v10)] h =
(((if (decide (v10 < (6 : Int))) = true then
some (.inl ([some (.slice v0 v0n v0n), some (.int .i64 v4), some (.int .i64 v5), some (.bool v6), some (.slice v7 v7n v7n), some (.int .i64 v8), some (.pointer (some v9)), some (.int .i64 v10), some (.bool v6)], h))
else
some (.inl ([some (.slice v0 v0n v0n), some (.int .i64 v4), some (.int .i64 v5), some (.bool v6), some (.slice v7 v7n v7n), some (.int .i64 v8), some (.pointer (some v9)), some (.int .i64 v10), some (.bool false)], h)))).bind fun j1 => joinK j1 fun j1 =>
((sget j1.1 0).bind getS).bind fun l2 =>
((sget (j1.1.tail) 0).bind (getI .i64)).bind fun n3 =>
((sget (j1.1.tail.tail) 0).bind (getI .i64)).bind fun n4 =>
((sget (j1.1.tail.tail.tail) 0).bind getB).bind fun b5 =>
((sget (j1.1.tail.tail.tail.tail) 0).bind getS).bind fun l6 =>
((sget (j1.1.tail.tail.tail.tail.tail) 0).bind (getI .i64)).bind fun n7 =>
((sget (j1.1.tail.tail.tail.tail.tail.tail) 0).bind getA).bind fun d8 =>
((sget (j1.1.tail.tail.tail.tail.tail.tail.tail) 0).bind (getI .i64)).bind fun n9 =>
((sget (j1.1.tail.tail.tail.tail.tail.tail.tail.tail) 0).bind getB).bind fun b10 =>
(if b10 = true then
(run (Et base) 86 [(.slice l2.1 l2.2 l2.2), (.int .i64 n4)] j1.2).bind fun r11 =>
(getTup 3 r11.1).bind fun l12 =>
((l12[0]?).bind (getI .i64)).bind fun n13 =>
((l12[1]?).bind (getI .i64)).bind fun n14 =>
((l12[2]?).bind getB).bind fun b15 =>
(if 0 ≤ n9 ∧ n9 < (6 : Int) then
(wr base r11.2 d8.block (d8.off + Int.toNat n9 * 1) [(.int .i64 n13)]).bind fun h16 =>
some (0, [some (.slice l2.1 l2.2 l2.2), some (.int .i64 n3), some (.int .i64 n14), some (.bool b15), some (.slice l6.1 l6.2 l6.2), some (.int .i64 n7), some (.pointer (some d8)), some (.int .i64 (IntKind.wrap .i64 (n9 + (1 : Int))))], h16)
else none)
else
some (4, [some (.slice l2.1 l2.2 l2.2), some (.int .i64 n3), some (.int .i64 n4), some (.bool b5), some (.slice l6.1 l6.2 l6.2), some (.int .i64 n7), some (.pointer (some d8))], j1.2)) : Option (Nat × Slots × AH)) := by kernel_rfl
theorem B31_0_eq (base : Nat) (v0 : Option Addr) (v0n : Nat) (v4 : Int) (v5 : Int) (v6 : Bool) (v7 : Option Addr) (v7n : Nat) (v8 : Int) (h : AH) : B31_0 base [some (.slice v0 v0n v0n), some (.int .i64 v4), some (.int .i64 v5), some (.bool v6), some (.slice v7 v7n v7n), some (.int .i64 v8)] h =
(((if (decide (v8 < v4)) = true then
some (.inl ([some (.slice v0 v0n v0n), some (.int .i64 v4), some (.int .i64 v5), some (.bool v6), some (.slice v7 v7n v7n), some (.int .i64 v8), some (.bool v6)], h))
else
some (.inl ([some (.slice v0 v0n v0n), some (.int .i64 v4), some (.int .i64 v5), some (.bool v6), some (.slice v7 v7n v7n), some (.int .i64 v8), some (.bool false)], h)))).bind fun j1 => joinK j1 fun j1 =>
((sget j1.1 0).bind getS).bind fun l2 =>
((sget (j1.1.tail) 0).bind (getI .i64)).bind fun n3 =>
((sget (j1.1.tail.tail) 0).bind (getI .i64)).bind fun n4 =>
((sget (j1.1.tail.tail.tail) 0).bind getB).bind fun b5 =>
((sget (j1.1.tail.tail.tail.tail) 0).bind getS).bind fun l6 =>
((sget (j1.1.tail.tail.tail.tail.tail) 0).bind (getI .i64)).bind fun n7 =>
((sget (j1.1.tail.tail.tail.tail.tail.tail) 0).bind getB).bind fun b8 =>
(if b8 = true then
((some (j1.2 ++ [some ⟨[(.int .i64 0), (.int .i64 0), (.int .i64 0), (.int .i64 0), (.int .i64 0), (.int .i64 0)], 127⟩])).bind fun h10 =>
(loopL (B31_1 base) [some (.slice l2.1 l2.2 l2.2), some (.int .i64 n3), some (.int .i64 n4), some (.bool b5), some (.slice l6.1 l6.2 l6.2), some (.int .i64 n7), some (.pointer (some ⟨(List.length j1.2), 0, none⟩)), some (.int .i64 (0 : Int))] h10).bind fun q11 =>
(if q11.1 = 4 then
((sget q11.2.1 0).bind getS).bind fun l12 =>
((sget (q11.2.1.tail) 0).bind (getI .i64)).bind fun n13 =>
((sget (q11.2.1.tail.tail) 0).bind (getI .i64)).bind fun n14 =>
((sget (q11.2.1.tail.tail.tail) 0).bind getB).bind fun b15 =>
((sget (q11.2.1.tail.tail.tail.tail) 0).bind getS).bind fun l16 =>
((sget (q11.2.1.tail.tail.tail.tail.tail) 0).bind (getI .i64)).bind fun n17 =>
((sget (q11.2.1.tail.tail.tail.tail.tail.tail) 0).bind getA).bind fun d18 =>
((if b15 = true then
(if 0 ≤ (5 : Int) ∧ (5 : Int) < (6 : Int) then
((cell q11.2.2 d18.block (d18.off + 5)).bind (getI .i64)).bind fun n20 =>
(run (Et base) 67 [(.int .i64 n20), (.int .i64 (0 : Int)), (.int .i64 (IntKind.wrap .i64 (((l12.2 : Nat) : Int) - n14)))] q11.2.2).bind fun r21 =>
((some r21.1).bind getB).bind fun b22 =>
(if b22 = true then
some (.inl ([some (.slice l12.1 l12.2 l12.2), some (.int .i64 n13), some (.int .i64 n14), some (.bool (decide (((l16.2 : Nat) : Int) < (200 : Int)))), some (.slice l16.1 l16.2 l16.2), some (.int .i64 n17), some (.pointer (some d18))], r21.2))
else
some (.inl ([some (.slice l12.1 l12.2 l12.2), some (.int .i64 n13), some (.int .i64 n14), some (.bool false), some (.slice l16.1 l16.2 l16.2), some (.int .i64 n17), some (.pointer (some d18))], r21.2)))
else none)
else
some (.inl ([some (.slice l12.1 l12.2 l12.2), some (.int .i64 n13), some (.int .i64 n14), some (.bool false), some (.slice l16.1 l16.2 l16.2), some (.int .i64 n17), some (.pointer (some d18))], q11.2.2)))).bind fun j19 => joinK j19 fun j19 =>
((sget j19.1 0).bind getS).bind fun l23 =>
((sget (j19.1.tail) 0).bind (getI .i64)).bind fun n24 =>
((sget (j19.1.tail.tail) 0).bind (getI .i64)).bind fun n25 =>
((sget (j19.1.tail.tail.tail) 0).bind getB).bind fun b26 =>
((sget (j19.1.tail.tail.tail.tail) 0).bind getS).bind fun l27 =>
((sget (j19.1.tail.tail.tail.tail.tail) 0).bind (getI .i64)).bind fun n28 =>
((sget (j19.1.tail.tail.tail.tail.tail.tail) 0).bind getA).bind fun d29 =>
(if b26 = true then
(if 0 ≤ (0 : Int) ∧ (0 : Int) < (6 : Int) then
((cell j19.2 d29.block (d29.off + 0)).bind (getI .i64)).bind fun n30 =>
(if 0 ≤ (1 : Int) ∧ (1 : Int) < (6 : Int) then
((cell j19.2 d29.block (d29.off + 1)).bind (getI .i64)).bind fun n31 =>
(if 0 ≤ (2 : Int) ∧ (2 : Int) < (6 : Int) then
((cell j19.2 d29.block (d29.off + 2)).bind (getI .i64)).bind fun n32 =>
(if 0 ≤ (3 : Int) ∧ (3 : Int) < (6 : Int) then
((cell j19.2 d29.block (d29.off + 3)).bind (getI .i64)).bind fun n33 =>
(if 0 ≤ (4 : Int) ∧ (4 : Int) < (6 : Int) then
((cell j19.2 d29.block (d29.off + 4)).bind (getI .i64)).bind fun n34 =>
(if 0 ≤ (5 : Int) ∧ (5 : Int) < (6 : Int) then
((cell j19.2 d29.block (d29.off + 5)).bind (getI .i64)).bind fun n35 =>
(if 0 ≤ n25 ∧ n25 ≤ (IntKind.wrap .i64 (n25 + n35)) ∧ (IntKind.wrap .i64 (n25 + n35)) ≤ ((l23.2 : Nat) : Int) ∧ okTy base j19.2 l23.1 5 (Int.toNat n25) = true then
((rawAt j19.2 (shiftA l23.1 (Int.toNat n25 * 1)) (Int.toNat (IntKind.wrap .i64 (n25 + n35)) - Int.toNat n25)).bind u8s).bind fun z36 =>
(gate (sameA j19.2 j19.2 (some ⟨d29.block, (d29.off + 4), none⟩) 1)
((gate (sameA j19.2 j19.2 (some ⟨d29.block, (d29.off + 3), none⟩) 1)
((gate (sameA j19.2 j19.2 (some ⟨d29.block, (d29.off + 2), none⟩) 1)
((gate (sameA j19.2 j19.2 (some ⟨d29.block, (d29.off + 1), none⟩) 1)
((gate (sameA j19.2 j19.2 (some ⟨d29.block, (d29.off + 0), none⟩) 1)
((some (j19.2 ++ [some ⟨[(.int .i64 n30), (.int .i64 n31), (.int .i64 n32), (.int .i64 n33), (.int .i64 n34), (.string (bstr z36))], 116⟩])).bind fun h37 =>
(app base h37 116 6 56 l27.1 l27.2 (rawAt h37 (some ⟨(List.length j19.2), 0, none⟩) (1 * 6)) 1).bind fun p38 =>
((some p38.1).bind getS).bind fun l39 =>
(if 0 ≤ (5 : Int) ∧ (5 : Int) < (6 : Int) then
((cell p38.2 d29.block (d29.off + 5)).bind (getI .i64)).bind fun n40 =>
some (.inl ([some (.slice l23.1 l23.2 l23.2), some (.int .i64 n24), some (.int .i64 (IntKind.wrap .i64 (n25 + n40))), some (.bool b26), some (.slice l39.1 l39.2 l39.2), some (.int .i64 n28)], p38.2))
else none)))))))))))
else none)
else none)
else none)
else none)
else none)
else none)
else none)
else
some (.inl ([some (.slice l23.1 l23.2 l23.2), some (.int .i64 n24), some (.int .i64 n25), some (.bool b26), some (.slice l27.1 l27.2 l27.2), some (.int .i64 n28)], j19.2)))
else
none)).bind fun j9 => joinK j9 fun j9 =>
((sget j9.1 0).bind getS).bind fun l41 =>
((sget (j9.1.tail) 0).bind (getI .i64)).bind fun n42 =>
((sget (j9.1.tail.tail) 0).bind (getI .i64)).bind fun n43 =>
((sget (j9.1.tail.tail.tail) 0).bind getB).bind fun b44 =>
((sget (j9.1.tail.tail.tail.tail) 0).bind getS).bind fun l45 =>
((sget (j9.1.tail.tail.tail.tail.tail) 0).bind (getI .i64)).bind fun n46 =>
some (0, [some (.slice l41.1 l41.2 l41.2), some (.int .i64 n42), some (.int .i64 n43), some (.bool b44), some (.slice l45.1 l45.2 l45.2), some (.int .i64 (IntKind.wrap .i64 (n46 + (1 : Int))))], j9.2)
else
some (2, [some (.slice l2.1 l2.2 l2.2), some (.bool b5), some (.slice l6.1 l6.2 l6.2)], j1.2)) : Option (Nat × Slots × AH)) := by kernel_rfl
theorem f31_eq (base : Nat) (v0 : Option Addr) (v0n : Nat) (h : AH) : exFun (Et base) (run (Et base)) loopL a31 Try.f31 [(.slice v0 v0n v0n)] h =
((run (Et base) 86 [(.slice v0 v0n v0n), (.int .i64 (0 : Int))] h).bind fun r1 =>
(getTup 3 r1.1).bind fun l2 =>
((l2[0]?).bind (getI .i64)).bind fun n3 =>
((l2[1]?).bind (getI .i64)).bind fun n4 =>
((l2[2]?).bind getB).bind fun b5 =>
(loopL (B31_0 base) [some (.slice v0 v0n v0n), some (.int .i64 n3), some (.int .i64 n4), some (.bool b5), some (.slice none 0 0), some (.int .i64 (0 : Int))] r1.2).bind fun q6 =>
(if q6.1 = 2 then
((sget q6.2.1 0).bind getS).bind fun l7 =>
((sget (q6.2.1.tail) 0).bind getB).bind fun b8 =>
((sget (q6.2.1.tail.tail) 0).bind getS).bind fun l9 =>
(run (Et base) 23 [(.slice l9.1 l9.2 l9.2)] q6.2.2).bind fun r10 =>
((some r10.1).bind getS).bind fun l11 =>
((if (!b8) = true then
some (.inl ([some (.slice l9.1 l9.2 l9.2), some (.bool true)], r10.2))
else
(if (((l11.2 : Nat) : Int) == (0 : Int)) = true then
some (.inl ([some (.slice l9.1 l9.2 l9.2), some (.bool true)], r10.2))
else
((rawAt r10.2 l11.1 l11.2).bind u8s).bind fun z13 =>
((rawAt r10.2 l7.1 l7.2).bind u8s).bind fun z14 =>
some (.inl ([some (.slice l9.1 l9.2 l9.2), some (.bool (!((bstr z13).toList == (bstr z14).toList)))], r10.2))))).bind fun j12 => joinK j12 fun j12 =>
((sget j12.1 0).bind getS).bind fun l15 =>
((sget (j12.1.tail) 0).bind getB).bind fun b16 =>
(if b16 = true then
some ((.tuple #[(.slice none 0 0), (.bool false)]), j12.2)
else
some ((.tuple #[(.slice l15.1 l15.2 l15.2), (.bool true)]), j12.2))
else
none) : Option (Value × AH)) := by kernel_rfl
theorem r31 {base : Nat} {v0 : Option Addr} {v0n : Nat} {h : AH} {r : Value × AH} (hx :
((run (Et base) 86 [(.slice v0 v0n v0n), (.int .i64 (0 : Int))] h).bind fun r1 =>
(getTup 3 r1.1).bind fun l2 =>
((l2[0]?).bind (getI .i64)).bind fun n3 =>
((l2[1]?).bind (getI .i64)).bind fun n4 =>
((l2[2]?).bind getB).bind fun b5 =>
(loopL (B31_0 base) [some (.slice v0 v0n v0n), some (.int .i64 n3), some (.int .i64 n4), some (.bool b5), some (.slice none 0 0), some (.int .i64 (0 : Int))] r1.2).bind fun q6 =>
(if q6.1 = 2 then
((sget q6.2.1 0).bind getS).bind fun l7 =>
((sget (q6.2.1.tail) 0).bind getB).bind fun b8 =>
((sget (q6.2.1.tail.tail) 0).bind getS).bind fun l9 =>
(run (Et base) 23 [(.slice l9.1 l9.2 l9.2)] q6.2.2).bind fun r10 =>
((some r10.1).bind getS).bind fun l11 =>
((if (!b8) = true then
some (.inl ([some (.slice l9.1 l9.2 l9.2), some (.bool true)], r10.2))
else
(if (((l11.2 : Nat) : Int) == (0 : Int)) = true then
some (.inl ([some (.slice l9.1 l9.2 l9.2), some (.bool true)], r10.2))
else
((rawAt r10.2 l11.1 l11.2).bind u8s).bind fun z13 =>
((rawAt r10.2 l7.1 l7.2).bind u8s).bind fun z14 =>
some (.inl ([some (.slice l9.1 l9.2 l9.2), some (.bool (!((bstr z13).toList == (bstr z14).toList)))], r10.2))))).bind fun j12 => joinK j12 fun j12 =>
((sget j12.1 0).bind getS).bind fun l15 =>
((sget (j12.1.tail) 0).bind getB).bind fun b16 =>
(if b16 = true then
some ((.tuple #[(.slice none 0 0), (.bool false)]), j12.2)
else
some ((.tuple #[(.slice l15.1 l15.2 l15.2), (.bool true)]), j12.2))
else
none)) = some r) : run (Et base) 31 [(.slice v0 v0n v0n)] h = some r := run_i Try.func31 (by kernel_rfl) ((f31_eq base v0 v0n h).trans hx)
/-! laws.heldInsS (gates 0) -/
noncomputable def B32_0 (base : Nat) : Body := fun l h => lay s32_0 l fun s => exCode (Et base) (run (Et base)) loopL a32_0 (subC [1, 0, 1, 0, 0] (bodyC Try.f32)) s h (keepK s32_0 e32_0)
theorem B32_0_eq (base : Nat) (v0 : Option Addr) (v0n : Nat) (v1 : Int) (v5 : Int) (h : AH) : B32_0 base [some (.slice v0 v0n v0n), some (.int .i64 v1), some (.int .i64 v5)] h =
((if (decide (v5 < ((v0n : Nat) : Int))) = true then
(if 0 ≤ v5 ∧ v5 < ((v0n : Nat) : Int) then
((v0 : Option Addr)).bind fun a1 =>
((cell h a1.block ((a1.off + Int.toNat v5 * 6) + 0)).bind (getI .i64)).bind fun n2 =>
(if (n2 != v1) = true then
some (1, [some (.int .i64 (-1 : Int))], h)
else
(if 0 ≤ v5 ∧ v5 < ((v0n : Nat) : Int) then
((v0 : Option Addr)).bind fun a3 =>
((cell h a3.block ((a3.off + Int.toNat v5 * 6) + 1)).bind (getI .i64)).bind fun n4 =>
(if (n4 != (IntKind.wrap .i64 (v1 + (1 : Int)))) = true then
some (1, [some (.int .i64 (-1 : Int))], h)
else
(if 0 ≤ v5 ∧ v5 < ((v0n : Nat) : Int) then
((v0 : Option Addr)).bind fun a5 =>
((cell h a5.block ((a5.off + Int.toNat v5 * 6) + 2)).bind (getI .i64)).bind fun n6 =>
(if (n6 != (IntKind.wrap .i64 ((IntKind.wrap .i64 (v1 + (1 : Int))) + (1 : Int)))) = true then
some (1, [some (.int .i64 (-1 : Int))], h)
else
(if 0 ≤ v5 ∧ v5 < ((v0n : Nat) : Int) then
((v0 : Option Addr)).bind fun a7 =>
((cell h a7.block ((a7.off + Int.toNat v5 * 6) + 3)).bind (getI .i64)).bind fun n8 =>
(if (n8 != (IntKind.wrap .i64 ((IntKind.wrap .i64 ((IntKind.wrap .i64 (v1 + (1 : Int))) + (1 : Int))) + (1 : Int)))) = true then
some (1, [some (.int .i64 (-1 : Int))], h)
else
(if 0 ≤ v5 ∧ v5 < ((v0n : Nat) : Int) then
((v0 : Option Addr)).bind fun a9 =>
((cell h a9.block ((a9.off + Int.toNat v5 * 6) + 4)).bind (getI .i64)).bind fun n10 =>
(if (n10 != (IntKind.wrap .i64 ((IntKind.wrap .i64 ((IntKind.wrap .i64 ((IntKind.wrap .i64 (v1 + (1 : Int))) + (1 : Int))) + (1 : Int))) + (1 : Int)))) = true then
some (1, [some (.int .i64 (-1 : Int))], h)
else
(if 0 ≤ v5 ∧ v5 < ((v0n : Nat) : Int) then
((v0 : Option Addr)).bind fun a11 =>
((cell h a11.block ((a11.off + Int.toNat v5 * 6) + 5)).bind getStr).bind fun s12 =>
(run (Et base) 83 [(.int .i64 (IntKind.wrap .i64 ((IntKind.wrap .i64 ((IntKind.wrap .i64 ((IntKind.wrap .i64 ((IntKind.wrap .i64 (v1 + (1 : Int))) + (1 : Int))) + (1 : Int))) + (1 : Int))) + (1 : Int))))] h).bind fun r13 =>
((some r13.1).bind getStr).bind fun s14 =>
(gate (sameA h r13.2 (some ⟨a11.block, ((a11.off + Int.toNat v5 * 6) + 5), none⟩) 1)
((if (!(s12.toList == s14.toList)) = true then
some (1, [some (.int .i64 (-1 : Int))], r13.2)
else
some (0, [some (.slice v0 v0n v0n), some (.int .i64 (IntKind.wrap .i64 ((IntKind.wrap .i64 ((IntKind.wrap .i64 ((IntKind.wrap .i64 ((IntKind.wrap .i64 ((IntKind.wrap .i64 (v1 + (1 : Int))) + (1 : Int))) + (1 : Int))) + (1 : Int))) + (1 : Int))) + (1 : Int)))), some (.int .i64 (IntKind.wrap .i64 (v5 + (1 : Int))))], r13.2))))
else none))
else none))
else none))
else none))
else none))
else none)
else
some (2, [some (.int .i64 v1)], h)) : Option (Nat × Slots × AH)) := by kernel_rfl
theorem f32_eq (base : Nat) (v0 : Option Addr) (v0n : Nat) (v1 : Int) (h : AH) : exFun (Et base) (run (Et base)) loopL a32 Try.f32 [(.slice v0 v0n v0n), (.int .i64 v1)] h =
((loopL (B32_0 base) [some (.slice v0 v0n v0n), some (.int .i64 v1), some (.int .i64 (0 : Int))] h).bind fun q1 =>
(if q1.1 = 1 then
((sget q1.2.1 0).bind (getI .i64)).bind fun n2 =>
some ((.int .i64 n2), q1.2.2)
else
(if q1.1 = 2 then
((sget q1.2.1 0).bind (getI .i64)).bind fun n3 =>
some ((.int .i64 n3), q1.2.2)
else
none)) : Option (Value × AH)) := by kernel_rfl
theorem r32 {base : Nat} {v0 : Option Addr} {v0n : Nat} {v1 : Int} {h : AH} {r : Value × AH} (hx :
((loopL (B32_0 base) [some (.slice v0 v0n v0n), some (.int .i64 v1), some (.int .i64 (0 : Int))] h).bind fun q1 =>
(if q1.1 = 1 then
((sget q1.2.1 0).bind (getI .i64)).bind fun n2 =>
some ((.int .i64 n2), q1.2.2)
else
(if q1.1 = 2 then
((sget q1.2.1 0).bind (getI .i64)).bind fun n3 =>
some ((.int .i64 n3), q1.2.2)
else
none))) = some r) : run (Et base) 32 [(.slice v0 v0n v0n), (.int .i64 v1)] h = some r := run_i Try.func32 (by kernel_rfl) ((f32_eq base v0 v0n v1 h).trans hx)
/-! laws.big (gates 0) -/
theorem f33_eq (base : Nat) (v0 : Option Addr) (v0n : Nat) (h : AH) : exFun (Et base) (run (Et base)) loopL a33 Try.f33 [(.slice v0 v0n v0n)] h =
(some ((.bool (decide (((v0n : Nat) : Int) > (1048576 : Int)))), h) : Option (Value × AH)) := by kernel_rfl
theorem r33 {base : Nat} {v0 : Option Addr} {v0n : Nat} {h : AH} {r : Value × AH} (hx :
(some ((.bool (decide (((v0n : Nat) : Int) > (1048576 : Int)))), h)) = some r) : run (Et base) 33 [(.slice v0 v0n v0n)] h = some r := run_i Try.func33 (by kernel_rfl) ((f33_eq base v0 v0n h).trans hx)
/-! spec.DrawCode (gates 0) -/
theorem f34_eq (base : Nat) (v0 : Option Addr) (v0n : Nat) (h : AH) : exFun (Et base) (run (Et base)) loopL a34 Try.f34 [(.slice v0 v0n v0n)] h =
((run (Et base) 87 [(.slice v0 v0n v0n)] h).bind fun r1 =>
((some r1.1).bind getP).bind fun p2 =>
(run (Et base) 88 [(.pointer p2)] r1.2).bind fun r3 =>
((some r3.1).bind getS).bind fun l4 =>
some ((.slice l4.1 l4.2 l4.2), r3.2) : Option (Value × AH)) := by kernel_rfl
theorem r34 {base : Nat} {v0 : Option Addr} {v0n : Nat} {h : AH} {r : Value × AH} (hx :
((run (Et base) 87 [(.slice v0 v0n v0n)] h).bind fun r1 =>
((some r1.1).bind getP).bind fun p2 =>
(run (Et base) 88 [(.pointer p2)] r1.2).bind fun r3 =>
((some r3.1).bind getS).bind fun l4 =>
some ((.slice l4.1 l4.2 l4.2), r3.2)) = some r) : run (Et base) 34 [(.slice v0 v0n v0n)] h = some r := run_i Try.func34 (by kernel_rfl) ((f34_eq base v0 v0n h).trans hx)
/-! laws.at (gates 0) -/
theorem f35_eq (base : Nat) (v0 : Option Addr) (v0n : Nat) (v1 : Int) (h : AH) : exFun (Et base) (run (Et base)) loopL a35 Try.f35 [(.slice v0 v0n v0n), (.int .i64 v1)] h =
((if (decide (v1 < ((v0n : Nat) : Int))) = true then
(if 0 ≤ v1 ∧ v1 < ((v0n : Nat) : Int) then
((v0 : Option Addr)).bind fun a1 =>
((cell h a1.block (a1.off + Int.toNat v1 * 1)).bind (getI .u8)).bind fun n2 =>
some ((.int .i64 (IntKind.wrap .i64 n2)), h)
else none)
else
some ((.int .i64 (Int.tmod (IntKind.wrap .i64 ((IntKind.wrap .i64 (v1 * (31 : Int))) + (IntKind.wrap .i64 (((v0n : Nat) : Int) * (7 : Int))))) (256 : Int))), h)) : Option (Value × AH)) := by kernel_rfl
theorem r35 {base : Nat} {v0 : Option Addr} {v0n : Nat} {v1 : Int} {h : AH} {r : Value × AH} (hx :
((if (decide (v1 < ((v0n : Nat) : Int))) = true then
(if 0 ≤ v1 ∧ v1 < ((v0n : Nat) : Int) then
((v0 : Option Addr)).bind fun a1 =>
((cell h a1.block (a1.off + Int.toNat v1 * 1)).bind (getI .u8)).bind fun n2 =>
some ((.int .i64 (IntKind.wrap .i64 n2)), h)
else none)
else
some ((.int .i64 (Int.tmod (IntKind.wrap .i64 ((IntKind.wrap .i64 (v1 * (31 : Int))) + (IntKind.wrap .i64 (((v0n : Nat) : Int) * (7 : Int))))) (256 : Int))), h))) = some r) : run (Et base) 35 [(.slice v0 v0n v0n), (.int .i64 v1)] h = some r := run_i Try.func35 (by kernel_rfl) ((f35_eq base v0 v0n v1 h).trans hx)
/-! spec.l1In (gates 0) -/
theorem f62_eq (base : Nat) (v0 : Int) (v1 : Int) (v2 : Int) (h : AH) : exFun (Et base) (run (Et base)) loopL a62 Try.f62 [(.int .i64 v0), (.int .i64 v1), (.int .i64 v2)] h =
((if (decide (v0 ≥ v1)) = true then
some ((.bool (decide (v0 ≤ v2))), h)
else
some ((.bool false), h)) : Option (Value × AH)) := by kernel_rfl
theorem r62 {base : Nat} {v0 : Int} {v1 : Int} {v2 : Int} {h : AH} {r : Value × AH} (hx :
((if (decide (v0 ≥ v1)) = true then
some ((.bool (decide (v0 ≤ v2))), h)
else
some ((.bool false), h))) = some r) : run (Et base) 62 [(.int .i64 v0), (.int .i64 v1), (.int .i64 v2)] h = some r := run_i Try.func62 (by kernel_rfl) ((f62_eq base v0 v1 v2 h).trans hx)
/-! impl.in (gates 0) -/
theorem f67_eq (base : Nat) (v0 : Int) (v1 : Int) (v2 : Int) (h : AH) : exFun (Et base) (run (Et base)) loopL a67 Try.f67 [(.int .i64 v0), (.int .i64 v1), (.int .i64 v2)] h =
((if (decide (v0 ≥ v1)) = true then
some ((.bool (decide (v0 ≤ v2))), h)
else
some ((.bool false), h)) : Option (Value × AH)) := by kernel_rfl
theorem r67 {base : Nat} {v0 : Int} {v1 : Int} {v2 : Int} {h : AH} {r : Value × AH} (hx :
((if (decide (v0 ≥ v1)) = true then
some ((.bool (decide (v0 ≤ v2))), h)
else
some ((.bool false), h))) = some r) : run (Et base) 67 [(.int .i64 v0), (.int .i64 v1), (.int .i64 v2)] h = some r := run_i Try.func67 (by kernel_rfl) ((f67_eq base v0 v1 v2 h).trans hx)
/-! spec.CodeOk (gates 0) -/
noncomputable def B77_0 (base : Nat) : Body := fun l h => lay s77_0 l fun s => exCode (Et base) (run (Et base)) loopL a77_0 (subC [1, 1, 1, 0, 1, 0, 0] (bodyC Try.f77)) s h (keepK s77_0 e77_0)
theorem B77_0_eq (base : Nat) (v0 : Option Addr) (v0n : Nat) (v3 : Int) (v4 : Int) (h : AH) : B77_0 base [some (.slice v0 v0n v0n), some (.int .i64 v3), some (.int .i64 v4)] h =
((if (decide (v4 < v3)) = true then
(if 0 ≤ v4 ∧ v4 < ((v0n : Nat) : Int) then
((v0 : Option Addr)).bind fun a1 =>
((cell h a1.block (a1.off + Int.toNat v4 * 6)).bind (getI .i64)).bind fun n2 =>
((cell h a1.block ((a1.off + Int.toNat v4 * 6) + 1)).bind (getI .i64)).bind fun n3 =>
((cell h a1.block (((a1.off + Int.toNat v4 * 6) + 1) + 1)).bind (getI .i64)).bind fun n4 =>
((cell h a1.block ((((a1.off + Int.toNat v4 * 6) + 1) + 1) + 1)).bind (getI .i64)).bind fun n5 =>
((cell h a1.block (((((a1.off + Int.toNat v4 * 6) + 1) + 1) + 1) + 1)).bind (getI .i64)).bind fun n6 =>
((cell h a1.block ((((((a1.off + Int.toNat v4 * 6) + 1) + 1) + 1) + 1) + 1)).bind getStr).bind fun s7 =>
(run (Et base) 120 [(.agg #[(.int .i64 n2), (.int .i64 n3), (.int .i64 n4), (.int .i64 n5), (.int .i64 n6), (.string s7)]), (.int .i64 v3)] h).bind fun r8 =>
((some r8.1).bind getB).bind fun b9 =>
(if (!b9) = true then
some (1, [some (.bool false)], r8.2)
else
some (0, [some (.slice v0 v0n v0n), some (.int .i64 v3), some (.int .i64 (IntKind.wrap .i64 (v4 + (1 : Int))))], r8.2))
else none)
else
some (2, [], h)) : Option (Nat × Slots × AH)) := by kernel_rfl
theorem f77_eq (base : Nat) (v0 : Option Addr) (v0n : Nat) (h : AH) : exFun (Et base) (run (Et base)) loopL a77 Try.f77 [(.slice v0 v0n v0n)] h =
(((run (Et base) 62 [(.int .i64 ((v0n : Nat) : Int)), (.int .i64 (1 : Int)), (.int .i64 (200 : Int))] h).bind fun r2 =>
((some r2.1).bind getB).bind fun b3 =>
(if (!b3) = true then
some (.inl ([some (.slice v0 v0n v0n), some (.int .i64 ((v0n : Nat) : Int)), some (.bool true)], r2.2))
else
(if 0 ≤ (IntKind.wrap .i64 (((v0n : Nat) : Int) - (1 : Int))) ∧ (IntKind.wrap .i64 (((v0n : Nat) : Int) - (1 : Int))) < ((v0n : Nat) : Int) then
((v0 : Option Addr)).bind fun a4 =>
((cell r2.2 a4.block ((a4.off + Int.toNat (IntKind.wrap .i64 (((v0n : Nat) : Int) - (1 : Int))) * 6) + 0)).bind (getI .i64)).bind fun n5 =>
(if (n5 != (19 : Int)) = true then
(if 0 ≤ (IntKind.wrap .i64 (((v0n : Nat) : Int) - (1 : Int))) ∧ (IntKind.wrap .i64 (((v0n : Nat) : Int) - (1 : Int))) < ((v0n : Nat) : Int) then
((v0 : Option Addr)).bind fun a6 =>
((cell r2.2 a6.block ((a6.off + Int.toNat (IntKind.wrap .i64 (((v0n : Nat) : Int) - (1 : Int))) * 6) + 0)).bind (getI .i64)).bind fun n7 =>
some (.inl ([some (.slice v0 v0n v0n), some (.int .i64 ((v0n : Nat) : Int)), some (.bool (n7 != (12 : Int)))], r2.2))
else none)
else
some (.inl ([some (.slice v0 v0n v0n), some (.int .i64 ((v0n : Nat) : Int)), some (.bool false)], r2.2)))
else none))).bind fun j1 => joinK j1 fun j1 =>
((sget j1.1 0).bind getS).bind fun l8 =>
((sget (j1.1.tail) 0).bind (getI .i64)).bind fun n9 =>
((sget (j1.1.tail.tail) 0).bind getB).bind fun b10 =>
(if b10 = true then
some ((.bool false), j1.2)
else
(loopL (B77_0 base) [some (.slice l8.1 l8.2 l8.2), some (.int .i64 n9), some (.int .i64 (0 : Int))] j1.2).bind fun q11 =>
(if q11.1 = 1 then
((sget q11.2.1 0).bind getB).bind fun b12 =>
some ((.bool b12), q11.2.2)
else
(if q11.1 = 2 then
some ((.bool true), q11.2.2)
else
none))) : Option (Value × AH)) := by kernel_rfl
theorem r77 {base : Nat} {v0 : Option Addr} {v0n : Nat} {h : AH} {r : Value × AH} (hx :
(((run (Et base) 62 [(.int .i64 ((v0n : Nat) : Int)), (.int .i64 (1 : Int)), (.int .i64 (200 : Int))] h).bind fun r2 =>
((some r2.1).bind getB).bind fun b3 =>
(if (!b3) = true then
some (.inl ([some (.slice v0 v0n v0n), some (.int .i64 ((v0n : Nat) : Int)), some (.bool true)], r2.2))
else
(if 0 ≤ (IntKind.wrap .i64 (((v0n : Nat) : Int) - (1 : Int))) ∧ (IntKind.wrap .i64 (((v0n : Nat) : Int) - (1 : Int))) < ((v0n : Nat) : Int) then
((v0 : Option Addr)).bind fun a4 =>
((cell r2.2 a4.block ((a4.off + Int.toNat (IntKind.wrap .i64 (((v0n : Nat) : Int) - (1 : Int))) * 6) + 0)).bind (getI .i64)).bind fun n5 =>
(if (n5 != (19 : Int)) = true then
(if 0 ≤ (IntKind.wrap .i64 (((v0n : Nat) : Int) - (1 : Int))) ∧ (IntKind.wrap .i64 (((v0n : Nat) : Int) - (1 : Int))) < ((v0n : Nat) : Int) then
((v0 : Option Addr)).bind fun a6 =>
((cell r2.2 a6.block ((a6.off + Int.toNat (IntKind.wrap .i64 (((v0n : Nat) : Int) - (1 : Int))) * 6) + 0)).bind (getI .i64)).bind fun n7 =>
some (.inl ([some (.slice v0 v0n v0n), some (.int .i64 ((v0n : Nat) : Int)), some (.bool (n7 != (12 : Int)))], r2.2))
else none)
else
some (.inl ([some (.slice v0 v0n v0n), some (.int .i64 ((v0n : Nat) : Int)), some (.bool false)], r2.2)))
else none))).bind fun j1 => joinK j1 fun j1 =>
((sget j1.1 0).bind getS).bind fun l8 =>
((sget (j1.1.tail) 0).bind (getI .i64)).bind fun n9 =>
((sget (j1.1.tail.tail) 0).bind getB).bind fun b10 =>
(if b10 = true then
some ((.bool false), j1.2)
else
(loopL (B77_0 base) [some (.slice l8.1 l8.2 l8.2), some (.int .i64 n9), some (.int .i64 (0 : Int))] j1.2).bind fun q11 =>
(if q11.1 = 1 then
((sget q11.2.1 0).bind getB).bind fun b12 =>
some ((.bool b12), q11.2.2)
else
(if q11.1 = 2 then
some ((.bool true), q11.2.2)
else
none)))) = some r) : run (Et base) 77 [(.slice v0 v0n v0n)] h = some r := run_i Try.func77 (by kernel_rfl) ((f77_eq base v0 v0n h).trans hx)
/-! impl.CodeOk (gates 0) -/
noncomputable def B80_0 (base : Nat) : Body := fun l h => lay s80_0 l fun s => exCode (Et base) (run (Et base)) loopL a80_0 (subC [1, 1, 0, 1, 0, 0] (bodyC Try.f80)) s h (keepK s80_0 e80_0)
theorem B80_0_eq (base : Nat) (v0 : Option Addr) (v0n : Nat) (v3 : Int) (v8 : Option Addr) (v8n : Nat) (v9 : Int) (v10 : Int) (h : AH) : B80_0 base [some (.slice v0 v0n v0n), some (.int .i64 v3), some (.slice v8 v8n v8n), some (.int .i64 v9), some (.int .i64 v10)] h =
((if (decide (v10 < v9)) = true then
(if 0 ≤ v10 ∧ v10 < ((v8n : Nat) : Int) then
((v8 : Option Addr)).bind fun a1 =>
((cell h a1.block (a1.off + Int.toNat v10 * 6)).bind (getI .i64)).bind fun n2 =>
((cell h a1.block ((a1.off + Int.toNat v10 * 6) + 1)).bind (getI .i64)).bind fun n3 =>
((cell h a1.block (((a1.off + Int.toNat v10 * 6) + 1) + 1)).bind (getI .i64)).bind fun n4 =>
((cell h a1.block ((((a1.off + Int.toNat v10 * 6) + 1) + 1) + 1)).bind (getI .i64)).bind fun n5 =>
((cell h a1.block (((((a1.off + Int.toNat v10 * 6) + 1) + 1) + 1) + 1)).bind (getI .i64)).bind fun n6 =>
((cell h a1.block ((((((a1.off + Int.toNat v10 * 6) + 1) + 1) + 1) + 1) + 1)).bind getStr).bind fun s7 =>
(some (h ++ [some ⟨[(.int .i64 0), (.int .i64 0), (.int .i64 0), (.int .i64 0), (.int .i64 0), (.string ⟨#[]⟩)], 116⟩])).bind fun h8 =>
(wr base h8 (List.length h) 0 [(.int .i64 n2), (.int .i64 n3), (.int .i64 n4), (.int .i64 n5), (.int .i64 n6), (.string s7)]).bind fun h9 =>
((cell h9 (List.length h) 0).bind (getI .i64)).bind fun n10 =>
((cell h9 (List.length h) 1).bind (getI .i64)).bind fun n11 =>
((cell h9 (List.length h) 2).bind (getI .i64)).bind fun n12 =>
((cell h9 (List.length h) 3).bind (getI .i64)).bind fun n13 =>
((cell h9 (List.length h) 4).bind (getI .i64)).bind fun n14 =>
((cell h9 (List.length h) 5).bind getStr).bind fun s15 =>
(run (Et base) 121 [(.agg #[(.int .i64 n10), (.int .i64 n11), (.int .i64 n12), (.int .i64 n13), (.int .i64 n14), (.string s15)]), (.int .i64 v3)] h9).bind fun r16 =>
((some r16.1).bind getB).bind fun b17 =>
(if (!b17) = true then
some (1, [some (.bool false)], r16.2)
else
some (0, [some (.slice v0 v0n v0n), some (.int .i64 v3), some (.slice v8 v8n v8n), some (.int .i64 v9), some (.int .i64 (IntKind.wrap .i64 (v10 + (1 : Int))))], r16.2))
else none)
else
some (2, [some (.slice v0 v0n v0n), some (.int .i64 v3)], h)) : Option (Nat × Slots × AH)) := by kernel_rfl
theorem f80_eq (base : Nat) (v0 : Option Addr) (v0n : Nat) (h : AH) : exFun (Et base) (run (Et base)) loopL a80 Try.f80 [(.slice v0 v0n v0n)] h =
((loopL (B80_0 base) [some (.slice v0 v0n v0n), some (.int .i64 ((v0n : Nat) : Int)), some (.slice v0 v0n v0n), some (.int .i64 ((v0n : Nat) : Int)), some (.int .i64 (0 : Int))] h).bind fun q1 =>
(if q1.1 = 1 then
((sget q1.2.1 0).bind getB).bind fun b2 =>
some ((.bool b2), q1.2.2)
else
(if q1.1 = 2 then
((sget q1.2.1 0).bind getS).bind fun l3 =>
((sget (q1.2.1.tail) 0).bind (getI .i64)).bind fun n4 =>
(run (Et base) 67 [(.int .i64 n4), (.int .i64 (1 : Int)), (.int .i64 (200 : Int))] q1.2.2).bind fun r5 =>
((some r5.1).bind getB).bind fun b6 =>
(if b6 = true then
(if 0 ≤ (IntKind.wrap .i64 (n4 - (1 : Int))) ∧ (IntKind.wrap .i64 (n4 - (1 : Int))) < ((l3.2 : Nat) : Int) then
((l3.1 : Option Addr)).bind fun a7 =>
((cell r5.2 a7.block ((a7.off + Int.toNat (IntKind.wrap .i64 (n4 - (1 : Int))) * 6) + 0)).bind (getI .i64)).bind fun n8 =>
(if (n8 == (19 : Int)) = true then
some ((.bool true), r5.2)
else
(if 0 ≤ (IntKind.wrap .i64 (n4 - (1 : Int))) ∧ (IntKind.wrap .i64 (n4 - (1 : Int))) < ((l3.2 : Nat) : Int) then
((l3.1 : Option Addr)).bind fun a9 =>
((cell r5.2 a9.block ((a9.off + Int.toNat (IntKind.wrap .i64 (n4 - (1 : Int))) * 6) + 0)).bind (getI .i64)).bind fun n10 =>
some ((.bool (n10 == (12 : Int))), r5.2)
else none))
else none)
else
some ((.bool false), r5.2))
else
none)) : Option (Value × AH)) := by kernel_rfl
theorem r80 {base : Nat} {v0 : Option Addr} {v0n : Nat} {h : AH} {r : Value × AH} (hx :
((loopL (B80_0 base) [some (.slice v0 v0n v0n), some (.int .i64 ((v0n : Nat) : Int)), some (.slice v0 v0n v0n), some (.int .i64 ((v0n : Nat) : Int)), some (.int .i64 (0 : Int))] h).bind fun q1 =>
(if q1.1 = 1 then
((sget q1.2.1 0).bind getB).bind fun b2 =>
some ((.bool b2), q1.2.2)
else
(if q1.1 = 2 then
((sget q1.2.1 0).bind getS).bind fun l3 =>
((sget (q1.2.1.tail) 0).bind (getI .i64)).bind fun n4 =>
(run (Et base) 67 [(.int .i64 n4), (.int .i64 (1 : Int)), (.int .i64 (200 : Int))] q1.2.2).bind fun r5 =>
((some r5.1).bind getB).bind fun b6 =>
(if b6 = true then
(if 0 ≤ (IntKind.wrap .i64 (n4 - (1 : Int))) ∧ (IntKind.wrap .i64 (n4 - (1 : Int))) < ((l3.2 : Nat) : Int) then
((l3.1 : Option Addr)).bind fun a7 =>
((cell r5.2 a7.block ((a7.off + Int.toNat (IntKind.wrap .i64 (n4 - (1 : Int))) * 6) + 0)).bind (getI .i64)).bind fun n8 =>
(if (n8 == (19 : Int)) = true then
some ((.bool true), r5.2)
else
(if 0 ≤ (IntKind.wrap .i64 (n4 - (1 : Int))) ∧ (IntKind.wrap .i64 (n4 - (1 : Int))) < ((l3.2 : Nat) : Int) then
((l3.1 : Option Addr)).bind fun a9 =>
((cell r5.2 a9.block ((a9.off + Int.toNat (IntKind.wrap .i64 (n4 - (1 : Int))) * 6) + 0)).bind (getI .i64)).bind fun n10 =>
some ((.bool (n10 == (12 : Int))), r5.2)
else none))
else none)
else
some ((.bool false), r5.2))
else
none))) = some r) : run (Et base) 80 [(.slice v0 v0n v0n)] h = some r := run_i Try.func80 (by kernel_rfl) ((f80_eq base v0 v0n h).trans hx)
/-! impl.addNum (gates 0) -/
noncomputable def B81_0 (base : Nat) : Body := fun l h => lay s81_0 l fun s => exCode (Et base) (run (Et base)) loopL a81_0 (subC [1, 1, 1, 1, 0, 0, 0] (bodyC Try.f81)) s h (keepK s81_0 e81_0)
theorem B81_0_eq (base : Nat) (v0 : Option Addr) (v0n : Nat) (v5 : Int) (h : AH) : B81_0 base [some (.slice v0 v0n v0n), some (.int .i64 v5)] h =
((if (decide (v5 > (127 : Int))) = true then
(some (h ++ [some ⟨[(.int .u8 (IntKind.wrap .u8 (IntKind.wrap .i64 ((Int.tmod v5 (128 : Int)) + (128 : Int)))))], 5⟩])).bind fun h1 =>
(app base h1 5 1 1 v0 v0n (rawAt h1 (some ⟨(List.length h), 0, none⟩) (1 * 1)) 1).bind fun p2 =>
((some p2.1).bind getS).bind fun l3 =>
some (0, [some (.slice l3.1 l3.2 l3.2), some (.int .i64 (IntKind.wrap .i64 (Int.tdiv v5 (128 : Int))))], p2.2)
else
some (2, [some (.slice v0 v0n v0n), some (.int .i64 v5)], h)) : Option (Nat × Slots × AH)) := by kernel_rfl
theorem f81_eq (base : Nat) (v0 : Option Addr) (v0n : Nat) (v1 : Int) (h : AH) : exFun (Et base) (run (Et base)) loopL a81 Try.f81 [(.slice v0 v0n v0n), (.int .i64 v1)] h =
(((if (decide ((if (if (1000000 : Int) < v1 then (1000000 : Int) else v1) > (-1000000 : Int) then (if (1000000 : Int) < v1 then (1000000 : Int) else v1) else (-1000000 : Int)) < (0 : Int))) = true then
some (.inl ([some (.slice v0 v0n v0n), some (.int .i64 (IntKind.wrap .i64 ((IntKind.wrap .i64 ((-2 : Int) * (if (if (1000000 : Int) < v1 then (1000000 : Int) else v1) > (-1000000 : Int) then (if (1000000 : Int) < v1 then (1000000 : Int) else v1) else (-1000000 : Int)))) - (1 : Int))))], h))
else
some (.inl ([some (.slice v0 v0n v0n), some (.int .i64 (IntKind.wrap .i64 ((2 : Int) * (if (if (1000000 : Int) < v1 then (1000000 : Int) else v1) > (-1000000 : Int) then (if (1000000 : Int) < v1 then (1000000 : Int) else v1) else (-1000000 : Int)))))], h)))).bind fun j1 => joinK j1 fun j1 =>
((sget j1.1 0).bind getS).bind fun l2 =>
((sget (j1.1.tail) 0).bind (getI .i64)).bind fun n3 =>
(loopL (B81_0 base) [some (.slice l2.1 l2.2 l2.2), some (.int .i64 n3)] j1.2).bind fun q4 =>
(if q4.1 = 2 then
((sget q4.2.1 0).bind getS).bind fun l5 =>
((sget (q4.2.1.tail) 0).bind (getI .i64)).bind fun n6 =>
(some (q4.2.2 ++ [some ⟨[(.int .u8 (IntKind.wrap .u8 n6))], 5⟩])).bind fun h7 =>
(app base h7 5 1 1 l5.1 l5.2 (rawAt h7 (some ⟨(List.length q4.2.2), 0, none⟩) (1 * 1)) 1).bind fun p8 =>
((some p8.1).bind getS).bind fun l9 =>
some ((.slice l9.1 l9.2 l9.2), p8.2)
else
none) : Option (Value × AH)) := by kernel_rfl
theorem r81 {base : Nat} {v0 : Option Addr} {v0n : Nat} {v1 : Int} {h : AH} {r : Value × AH} (hx :
(((if (decide ((if (if (1000000 : Int) < v1 then (1000000 : Int) else v1) > (-1000000 : Int) then (if (1000000 : Int) < v1 then (1000000 : Int) else v1) else (-1000000 : Int)) < (0 : Int))) = true then
some (.inl ([some (.slice v0 v0n v0n), some (.int .i64 (IntKind.wrap .i64 ((IntKind.wrap .i64 ((-2 : Int) * (if (if (1000000 : Int) < v1 then (1000000 : Int) else v1) > (-1000000 : Int) then (if (1000000 : Int) < v1 then (1000000 : Int) else v1) else (-1000000 : Int)))) - (1 : Int))))], h))
else
some (.inl ([some (.slice v0 v0n v0n), some (.int .i64 (IntKind.wrap .i64 ((2 : Int) * (if (if (1000000 : Int) < v1 then (1000000 : Int) else v1) > (-1000000 : Int) then (if (1000000 : Int) < v1 then (1000000 : Int) else v1) else (-1000000 : Int)))))], h)))).bind fun j1 => joinK j1 fun j1 =>
((sget j1.1 0).bind getS).bind fun l2 =>
((sget (j1.1.tail) 0).bind (getI .i64)).bind fun n3 =>
(loopL (B81_0 base) [some (.slice l2.1 l2.2 l2.2), some (.int .i64 n3)] j1.2).bind fun q4 =>
(if q4.1 = 2 then
((sget q4.2.1 0).bind getS).bind fun l5 =>
((sget (q4.2.1.tail) 0).bind (getI .i64)).bind fun n6 =>
(some (q4.2.2 ++ [some ⟨[(.int .u8 (IntKind.wrap .u8 n6))], 5⟩])).bind fun h7 =>
(app base h7 5 1 1 l5.1 l5.2 (rawAt h7 (some ⟨(List.length q4.2.2), 0, none⟩) (1 * 1)) 1).bind fun p8 =>
((some p8.1).bind getS).bind fun l9 =>
some ((.slice l9.1 l9.2 l9.2), p8.2)
else
none)) = some r) : run (Et base) 81 [(.slice v0 v0n v0n), (.int .i64 v1)] h = some r := run_i Try.func81 (by kernel_rfl) ((f81_eq base v0 v0n v1 h).trans hx)
/-! laws.eqIns (gates 0) -/
theorem f82_eq (base : Nat) (v0_0 : Int) (v0_1 : Int) (v0_2 : Int) (v0_3 : Int) (v0_4 : Int) (v0_5 : ByteArray) (v1_0 : Int) (v1_1 : Int) (v1_2 : Int) (v1_3 : Int) (v1_4 : Int) (v1_5 : ByteArray) (h : AH) : exFun (Et base) (run (Et base)) loopL a82 Try.f82 [(.agg #[(.int .i64 v0_0), (.int .i64 v0_1), (.int .i64 v0_2), (.int .i64 v0_3), (.int .i64 v0_4), (.string v0_5)]), (.agg #[(.int .i64 v1_0), (.int .i64 v1_1), (.int .i64 v1_2), (.int .i64 v1_3), (.int .i64 v1_4), (.string v1_5)])] h =
((some (h ++ [some ⟨[(.int .i64 v0_0), (.int .i64 v0_1), (.int .i64 v0_2), (.int .i64 v0_3), (.int .i64 v0_4), (.string v0_5)], 116⟩])).bind fun h1 =>
(some (h1 ++ [some ⟨[(.int .i64 v1_0), (.int .i64 v1_1), (.int .i64 v1_2), (.int .i64 v1_3), (.int .i64 v1_4), (.string v1_5)], 116⟩])).bind fun h2 =>
((cell h2 (List.length h) 0).bind (getI .i64)).bind fun n3 =>
((cell h2 (List.length h1) 0).bind (getI .i64)).bind fun n4 =>
(if (n3 != n4) = true then
some ((.bool false), h2)
else
((cell h2 (List.length h) 1).bind (getI .i64)).bind fun n5 =>
((cell h2 (List.length h1) 1).bind (getI .i64)).bind fun n6 =>
(if (n5 != n6) = true then
some ((.bool false), h2)
else
((cell h2 (List.length h) 2).bind (getI .i64)).bind fun n7 =>
((cell h2 (List.length h1) 2).bind (getI .i64)).bind fun n8 =>
(if (n7 != n8) = true then
some ((.bool false), h2)
else
((cell h2 (List.length h) 3).bind (getI .i64)).bind fun n9 =>
((cell h2 (List.length h1) 3).bind (getI .i64)).bind fun n10 =>
(if (n9 != n10) = true then
some ((.bool false), h2)
else
((cell h2 (List.length h) 4).bind (getI .i64)).bind fun n11 =>
((cell h2 (List.length h1) 4).bind (getI .i64)).bind fun n12 =>
(if (n11 != n12) = true then
some ((.bool false), h2)
else
((cell h2 (List.length h) 5).bind getStr).bind fun s13 =>
((cell h2 (List.length h1) 5).bind getStr).bind fun s14 =>
(if (!(s13.toList == s14.toList)) = true then
some ((.bool false), h2)
else
some ((.bool true), h2))))))) : Option (Value × AH)) := by kernel_rfl
theorem r82 {base : Nat} {v0_0 : Int} {v0_1 : Int} {v0_2 : Int} {v0_3 : Int} {v0_4 : Int} {v0_5 : ByteArray} {v1_0 : Int} {v1_1 : Int} {v1_2 : Int} {v1_3 : Int} {v1_4 : Int} {v1_5 : ByteArray} {h : AH} {r : Value × AH} (hx :
((some (h ++ [some ⟨[(.int .i64 v0_0), (.int .i64 v0_1), (.int .i64 v0_2), (.int .i64 v0_3), (.int .i64 v0_4), (.string v0_5)], 116⟩])).bind fun h1 =>
(some (h1 ++ [some ⟨[(.int .i64 v1_0), (.int .i64 v1_1), (.int .i64 v1_2), (.int .i64 v1_3), (.int .i64 v1_4), (.string v1_5)], 116⟩])).bind fun h2 =>
((cell h2 (List.length h) 0).bind (getI .i64)).bind fun n3 =>
((cell h2 (List.length h1) 0).bind (getI .i64)).bind fun n4 =>
(if (n3 != n4) = true then
some ((.bool false), h2)
else
((cell h2 (List.length h) 1).bind (getI .i64)).bind fun n5 =>
((cell h2 (List.length h1) 1).bind (getI .i64)).bind fun n6 =>
(if (n5 != n6) = true then
some ((.bool false), h2)
else
((cell h2 (List.length h) 2).bind (getI .i64)).bind fun n7 =>
((cell h2 (List.length h1) 2).bind (getI .i64)).bind fun n8 =>
(if (n7 != n8) = true then
some ((.bool false), h2)
else
((cell h2 (List.length h) 3).bind (getI .i64)).bind fun n9 =>
((cell h2 (List.length h1) 3).bind (getI .i64)).bind fun n10 =>
(if (n9 != n10) = true then
some ((.bool false), h2)
else
((cell h2 (List.length h) 4).bind (getI .i64)).bind fun n11 =>
((cell h2 (List.length h1) 4).bind (getI .i64)).bind fun n12 =>
(if (n11 != n12) = true then
some ((.bool false), h2)
else
((cell h2 (List.length h) 5).bind getStr).bind fun s13 =>
((cell h2 (List.length h1) 5).bind getStr).bind fun s14 =>
(if (!(s13.toList == s14.toList)) = true then
some ((.bool false), h2)
else
some ((.bool true), h2)))))))) = some r) : run (Et base) 82 [(.agg #[(.int .i64 v0_0), (.int .i64 v0_1), (.int .i64 v0_2), (.int .i64 v0_3), (.int .i64 v0_4), (.string v0_5)]), (.agg #[(.int .i64 v1_0), (.int .i64 v1_1), (.int .i64 v1_2), (.int .i64 v1_3), (.int .i64 v1_4), (.string v1_5)])] h = some r := run_i Try.func82 (by kernel_rfl) ((f82_eq base v0_0 v0_1 v0_2 v0_3 v0_4 v0_5 v1_0 v1_1 v1_2 v1_3 v1_4 v1_5 h).trans hx)
/-! laws.markText (gates 0) -/
noncomputable def B83_0 (base : Nat) : Body := fun l h => lay s83_0 l fun s => exCode (Et base) (run (Et base)) loopL a83_0 (subC [1, 1, 1, 0, 0, 0] (bodyC Try.f83)) s h (keepK s83_0 e83_0)
theorem B83_0_eq (base : Nat) (v0 : Int) (v3 : ByteArray) (h : AH) : B83_0 base [some (.int .i64 v0), some (.string v3)] h =
((if (decide (v0 > (0 : Int))) = true then
(some (h ++ [some ⟨[(.int .u8 (IntKind.wrap .u8 (IntKind.wrap .i64 ((48 : Int) + (Int.tmod v0 (10 : Int))))))], 5⟩])).bind fun h1 =>
((rawAt h1 (some ⟨(List.length h), 0, none⟩) 1).bind u8s).bind fun z2 =>
(if (bstr z2).size + v3.size ≤ 9223372036854775807 then
some (0, [some (.int .i64 (IntKind.wrap .i64 (Int.tdiv v0 (10 : Int)))), some (.string ((bstr z2) ++ v3))], h1)
else none)
else
some (2, [some (.string v3)], h)) : Option (Nat × Slots × AH)) := by kernel_rfl
theorem f83_eq (base : Nat) (v0 : Int) (h : AH) : exFun (Et base) (run (Et base)) loopL a83 Try.f83 [(.int .i64 v0)] h =
((if (decide (v0 ≤ (0 : Int))) = true then
some ((.string (⟨#[109, 48]⟩ : ByteArray)), h)
else
(loopL (B83_0 base) [some (.int .i64 v0), some (.string (⟨#[]⟩ : ByteArray))] h).bind fun q1 =>
(if q1.1 = 2 then
((sget q1.2.1 0).bind getStr).bind fun s2 =>
(if (⟨#[109]⟩ : ByteArray).size + s2.size ≤ 9223372036854775807 then
some ((.string ((⟨#[109]⟩ : ByteArray) ++ s2)), q1.2.2)
else none)
else
none)) : Option (Value × AH)) := by kernel_rfl
theorem r83 {base : Nat} {v0 : Int} {h : AH} {r : Value × AH} (hx :
((if (decide (v0 ≤ (0 : Int))) = true then
some ((.string (⟨#[109, 48]⟩ : ByteArray)), h)
else
(loopL (B83_0 base) [some (.int .i64 v0), some (.string (⟨#[]⟩ : ByteArray))] h).bind fun q1 =>
(if q1.1 = 2 then
((sget q1.2.1 0).bind getStr).bind fun s2 =>
(if (⟨#[109]⟩ : ByteArray).size + s2.size ≤ 9223372036854775807 then
some ((.string ((⟨#[109]⟩ : ByteArray) ++ s2)), q1.2.2)
else none)
else
none))) = some r) : run (Et base) 83 [(.int .i64 v0)] h = some r := run_i Try.func83 (by kernel_rfl) ((f83_eq base v0 h).trans hx)
/-! spec.l13Num (gates 0) -/
theorem f84_eq (base : Nat) (v0 : Option Addr) (h : AH) : exFun (Et base) (run (Et base)) loopL a84 Try.f84 [(.pointer v0)] h =
((v0).bind fun a1 =>
((cell h a1.block (a1.off + 0)).bind getS).bind fun l2 =>
(v0).bind fun a3 =>
((cell h a3.block (a3.off + 1)).bind (getI .i64)).bind fun n4 =>
(run (Et base) 122 [(.slice l2.1 l2.2 l2.2), (.int .i64 n4)] h).bind fun r5 =>
(getTup 3 r5.1).bind fun l6 =>
((l6[0]?).bind (getI .i64)).bind fun n7 =>
((l6[1]?).bind (getI .i64)).bind fun n8 =>
((l6[2]?).bind getB).bind fun b9 =>
((v0).bind fun a11 =>
((cell r5.2 a11.block (a11.off + 2)).bind getB).bind fun b12 =>
(if b12 = true then
some (.inl ([some (.pointer v0), some (.int .i64 n7), some (.int .i64 n8), some (.bool true)], r5.2))
else
some (.inl ([some (.pointer v0), some (.int .i64 n7), some (.int .i64 n8), some (.bool (!b9))], r5.2)))).bind fun j10 => joinK j10 fun j10 =>
((sget j10.1 0).bind getP).bind fun p13 =>
((sget (j10.1.tail) 0).bind (getI .i64)).bind fun n14 =>
((sget (j10.1.tail.tail) 0).bind (getI .i64)).bind fun n15 =>
((sget (j10.1.tail.tail.tail) 0).bind getB).bind fun b16 =>
(if b16 = true then
(p13).bind fun a17 =>
(wr base j10.2 a17.block (a17.off + 2) [(.bool true)]).bind fun h18 =>
some ((.int .i64 (0 : Int)), h18)
else
(p13).bind fun a19 =>
(wr base j10.2 a19.block (a19.off + 1) [(.int .i64 n15)]).bind fun h20 =>
some ((.int .i64 n14), h20)) : Option (Value × AH)) := by kernel_rfl
theorem r84 {base : Nat} {v0 : Option Addr} {h : AH} {r : Value × AH} (hx :
((v0).bind fun a1 =>
((cell h a1.block (a1.off + 0)).bind getS).bind fun l2 =>
(v0).bind fun a3 =>
((cell h a3.block (a3.off + 1)).bind (getI .i64)).bind fun n4 =>
(run (Et base) 122 [(.slice l2.1 l2.2 l2.2), (.int .i64 n4)] h).bind fun r5 =>
(getTup 3 r5.1).bind fun l6 =>
((l6[0]?).bind (getI .i64)).bind fun n7 =>
((l6[1]?).bind (getI .i64)).bind fun n8 =>
((l6[2]?).bind getB).bind fun b9 =>
((v0).bind fun a11 =>
((cell r5.2 a11.block (a11.off + 2)).bind getB).bind fun b12 =>
(if b12 = true then
some (.inl ([some (.pointer v0), some (.int .i64 n7), some (.int .i64 n8), some (.bool true)], r5.2))
else
some (.inl ([some (.pointer v0), some (.int .i64 n7), some (.int .i64 n8), some (.bool (!b9))], r5.2)))).bind fun j10 => joinK j10 fun j10 =>
((sget j10.1 0).bind getP).bind fun p13 =>
((sget (j10.1.tail) 0).bind (getI .i64)).bind fun n14 =>
((sget (j10.1.tail.tail) 0).bind (getI .i64)).bind fun n15 =>
((sget (j10.1.tail.tail.tail) 0).bind getB).bind fun b16 =>
(if b16 = true then
(p13).bind fun a17 =>
(wr base j10.2 a17.block (a17.off + 2) [(.bool true)]).bind fun h18 =>
some ((.int .i64 (0 : Int)), h18)
else
(p13).bind fun a19 =>
(wr base j10.2 a19.block (a19.off + 1) [(.int .i64 n15)]).bind fun h20 =>
some ((.int .i64 n14), h20))) = some r) : run (Et base) 84 [(.pointer v0)] h = some r := run_i Try.func84 (by kernel_rfl) ((f84_eq base v0 h).trans hx)
end Go.Proofs.Ytnmjhhipbfngkaa.Am
