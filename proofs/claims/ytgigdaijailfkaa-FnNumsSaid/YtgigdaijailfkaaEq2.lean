/- What each of these functions comes to on the abstract machine, one equation a function and one a loop.
Conditions: none. -/
import Derived.Test.YtgigdaijailfkaaTb
set_option linter.unusedVariables false
namespace Go.Proofs.Ytgigdaijailfkaa.Am
open Go Go.RowKit
/-! laws.FnExactTimersOk (gates 0) -/
theorem f9_eq (base : Nat) (v0 : Option Addr) (v0n : Nat) (h : AH) : exFun (Et base) (run (Et base)) loopL a9 Try.f9 [(.slice v0 v0n v0n)] h =
((run (Et base) 42 [(.slice v0 v0n v0n), (.int .i64 (1048576 : Int))] h).bind fun r1 =>
((some r1.1).bind (getI .i64)).bind fun n2 =>
(if (decide (n2 < (0 : Int))) = true then
some ((.bool true), r1.2)
else
(run (Et base) 44 [(.slice v0 v0n v0n)] r1.2).bind fun r3 =>
((some r3.1).bind getS).bind fun l4 =>
(run (Et base) 43 [(.slice l4.1 l4.2 l4.2)] r3.2).bind fun r5 =>
((some r5.1).bind getB).bind fun b6 =>
(run (Et base) 44 [(.slice v0 v0n v0n)] r5.2).bind fun r7 =>
((some r7.1).bind getS).bind fun l8 =>
(run (Et base) 45 [(.slice l8.1 l8.2 l8.2)] r7.2).bind fun r9 =>
((some r9.1).bind getB).bind fun b10 =>
(if (!(b10 == b6)) = true then
some ((.bool false), r9.2)
else
(run (Et base) 44 [(.slice v0 v0n v0n)] r9.2).bind fun r11 =>
((some r11.1).bind getS).bind fun l12 =>
(run (Et base) 46 [(.slice l8.1 l8.2 l8.2), (.slice l12.1 l12.2 l12.2)] r11.2).bind fun r13 =>
((some r13.1).bind getB).bind fun b14 =>
(if (!b14) = true then
some ((.bool false), r13.2)
else
some ((.bool true), r13.2)))) : Option (Value × AH)) := by kernel_rfl
theorem r9 {base : Nat} {v0 : Option Addr} {v0n : Nat} {h : AH} {r : Value × AH} (hx :
((run (Et base) 42 [(.slice v0 v0n v0n), (.int .i64 (1048576 : Int))] h).bind fun r1 =>
((some r1.1).bind (getI .i64)).bind fun n2 =>
(if (decide (n2 < (0 : Int))) = true then
some ((.bool true), r1.2)
else
(run (Et base) 44 [(.slice v0 v0n v0n)] r1.2).bind fun r3 =>
((some r3.1).bind getS).bind fun l4 =>
(run (Et base) 43 [(.slice l4.1 l4.2 l4.2)] r3.2).bind fun r5 =>
((some r5.1).bind getB).bind fun b6 =>
(run (Et base) 44 [(.slice v0 v0n v0n)] r5.2).bind fun r7 =>
((some r7.1).bind getS).bind fun l8 =>
(run (Et base) 45 [(.slice l8.1 l8.2 l8.2)] r7.2).bind fun r9 =>
((some r9.1).bind getB).bind fun b10 =>
(if (!(b10 == b6)) = true then
some ((.bool false), r9.2)
else
(run (Et base) 44 [(.slice v0 v0n v0n)] r9.2).bind fun r11 =>
((some r11.1).bind getS).bind fun l12 =>
(run (Et base) 46 [(.slice l8.1 l8.2 l8.2), (.slice l12.1 l12.2 l12.2)] r11.2).bind fun r13 =>
((some r13.1).bind getB).bind fun b14 =>
(if (!b14) = true then
some ((.bool false), r13.2)
else
some ((.bool true), r13.2))))) = some r) : run (Et base) 9 [(.slice v0 v0n v0n)] h = some r := run_i Try.func9 (by kernel_rfl) ((f9_eq base v0 v0n h).trans hx)
/-! laws.FnDue (gates 0) -/
noncomputable def B10_1 (base : Nat) : Body := fun l h => lay s10_1 l fun s => exCode (Et base) (run (Et base)) loopL a10_1 (subC [1, 1, 1, 1, 1, 1, 0, 1, 0, 0] (bodyC Try.f10)) s h (keepK s10_1 e10_1)
noncomputable def B10_0 (base : Nat) : Body := fun l h => lay s10_0 l fun s => exCode (Et base) (run (Et base)) loopL a10_0 (subC [1, 1, 1, 1, 1, 0, 1, 0, 0] (bodyC Try.f10)) s h (keepK s10_0 e10_0)
theorem B10_1_eq (base : Nat) (v3 : Option Addr) (v3n : Nat) (v4 : Int) (v5 : Option Addr) (v5n : Nat) (v6 : Option Addr) (v6n : Nat) (v8 : Int) (h : AH) : B10_1 base [some (.slice v3 v3n v3n), some (.int .i64 v4), some (.slice v5 v5n v5n), some (.slice v6 v6n v6n), some (.int .i64 v8)] h =
((if (decide (v8 < ((v6n : Nat) : Int))) = true then
(if 0 ≤ v8 ∧ v8 < ((v6n : Nat) : Int) then
((v6 : Option Addr)).bind fun a1 =>
((cell h a1.block ((a1.off + Int.toNat v8 * 6) + 0)).bind (getI .i64)).bind fun n2 =>
(if (decide (n2 ≤ v4)) = true then
some (1, [some (.bool false)], h)
else
some (0, [some (.slice v3 v3n v3n), some (.int .i64 v4), some (.slice v5 v5n v5n), some (.slice v6 v6n v6n), some (.int .i64 (IntKind.wrap .i64 (v8 + (1 : Int))))], h))
else none)
else
some (4, [some (.slice v3 v3n v3n), some (.slice v5 v5n v5n), some (.slice v6 v6n v6n)], h)) : Option (Nat × Slots × AH)) := by kernel_rfl
theorem B10_0_eq (base : Nat) (v3 : Option Addr) (v3n : Nat) (v4 : Int) (v5 : Option Addr) (v5n : Nat) (v6 : Option Addr) (v6n : Nat) (v7 : Int) (h : AH) : B10_0 base [some (.slice v3 v3n v3n), some (.int .i64 v4), some (.slice v5 v5n v5n), some (.slice v6 v6n v6n), some (.int .i64 v7)] h =
((if (decide (v7 < ((v5n : Nat) : Int))) = true then
(if 0 ≤ v7 ∧ v7 < ((v5n : Nat) : Int) then
((v5 : Option Addr)).bind fun a1 =>
((cell h a1.block ((a1.off + Int.toNat v7 * 6) + 0)).bind (getI .i64)).bind fun n2 =>
(if (decide (n2 > v4)) = true then
some (1, [some (.bool false)], h)
else
some (0, [some (.slice v3 v3n v3n), some (.int .i64 v4), some (.slice v5 v5n v5n), some (.slice v6 v6n v6n), some (.int .i64 (IntKind.wrap .i64 (v7 + (1 : Int))))], h))
else none)
else
some (2, [some (.slice v3 v3n v3n), some (.int .i64 v4), some (.slice v5 v5n v5n), some (.slice v6 v6n v6n)], h)) : Option (Nat × Slots × AH)) := by kernel_rfl
theorem f10_eq (base : Nat) (v0 : Option Addr) (v0n : Nat) (h : AH) : exFun (Et base) (run (Et base)) loopL a10 Try.f10 [(.slice v0 v0n v0n)] h =
((run (Et base) 32 [(.slice v0 v0n v0n)] h).bind fun r1 =>
((some r1.1).bind getB).bind fun b2 =>
(if b2 = true then
some ((.bool true), r1.2)
else
(run (Et base) 47 [(.slice v0 v0n v0n)] r1.2).bind fun r3 =>
(getTup 2 r3.1).bind fun l4 =>
((l4[0]?).bind getS).bind fun l5 =>
((l4[1]?).bind (getI .i64)).bind fun n6 =>
(run (Et base) 48 [(.slice l5.1 l5.2 l5.2), (.int .i64 n6)] r3.2).bind fun r7 =>
(getTup 2 r7.1).bind fun l8 =>
((l8[0]?).bind getS).bind fun l9 =>
((l8[1]?).bind getS).bind fun l10 =>
(if ((IntKind.wrap .i64 (((l9.2 : Nat) : Int) + ((l10.2 : Nat) : Int))) != ((l5.2 : Nat) : Int)) = true then
some ((.bool false), r7.2)
else
(loopL (B10_0 base) [some (.slice l5.1 l5.2 l5.2), some (.int .i64 n6), some (.slice l9.1 l9.2 l9.2), some (.slice l10.1 l10.2 l10.2), some (.int .i64 (0 : Int))] r7.2).bind fun q11 =>
(if q11.1 = 1 then
((sget q11.2.1 0).bind getB).bind fun b12 =>
some ((.bool b12), q11.2.2)
else
(if q11.1 = 2 then
((sget q11.2.1 0).bind getS).bind fun l13 =>
((sget (q11.2.1.tail) 0).bind (getI .i64)).bind fun n14 =>
((sget (q11.2.1.tail.tail) 0).bind getS).bind fun l15 =>
((sget (q11.2.1.tail.tail.tail) 0).bind getS).bind fun l16 =>
(loopL (B10_1 base) [some (.slice l13.1 l13.2 l13.2), some (.int .i64 n14), some (.slice l15.1 l15.2 l15.2), some (.slice l16.1 l16.2 l16.2), some (.int .i64 (0 : Int))] q11.2.2).bind fun q17 =>
(if q17.1 = 1 then
((sget q17.2.1 0).bind getB).bind fun b18 =>
some ((.bool b18), q17.2.2)
else
(if q17.1 = 4 then
((sget q17.2.1 0).bind getS).bind fun l19 =>
((sget (q17.2.1.tail) 0).bind getS).bind fun l20 =>
((sget (q17.2.1.tail.tail) 0).bind getS).bind fun l21 =>
(run (Et base) 43 [(.slice l19.1 l19.2 l19.2)] q17.2.2).bind fun r22 =>
((some r22.1).bind getB).bind fun b23 =>
(if (!b23) = true then
some ((.bool true), r22.2)
else
(run (Et base) 45 [(.slice l20.1 l20.2 l20.2)] r22.2).bind fun r24 =>
((some r24.1).bind getB).bind fun b25 =>
(if b25 = true then
(run (Et base) 45 [(.slice l21.1 l21.2 l21.2)] r24.2).bind fun r26 =>
((some r26.1).bind getB).bind fun b27 =>
some ((.bool b27), r26.2)
else
some ((.bool false), r24.2)))
else
none))
else
none)))) : Option (Value × AH)) := by kernel_rfl
theorem r10 {base : Nat} {v0 : Option Addr} {v0n : Nat} {h : AH} {r : Value × AH} (hx :
((run (Et base) 32 [(.slice v0 v0n v0n)] h).bind fun r1 =>
((some r1.1).bind getB).bind fun b2 =>
(if b2 = true then
some ((.bool true), r1.2)
else
(run (Et base) 47 [(.slice v0 v0n v0n)] r1.2).bind fun r3 =>
(getTup 2 r3.1).bind fun l4 =>
((l4[0]?).bind getS).bind fun l5 =>
((l4[1]?).bind (getI .i64)).bind fun n6 =>
(run (Et base) 48 [(.slice l5.1 l5.2 l5.2), (.int .i64 n6)] r3.2).bind fun r7 =>
(getTup 2 r7.1).bind fun l8 =>
((l8[0]?).bind getS).bind fun l9 =>
((l8[1]?).bind getS).bind fun l10 =>
(if ((IntKind.wrap .i64 (((l9.2 : Nat) : Int) + ((l10.2 : Nat) : Int))) != ((l5.2 : Nat) : Int)) = true then
some ((.bool false), r7.2)
else
(loopL (B10_0 base) [some (.slice l5.1 l5.2 l5.2), some (.int .i64 n6), some (.slice l9.1 l9.2 l9.2), some (.slice l10.1 l10.2 l10.2), some (.int .i64 (0 : Int))] r7.2).bind fun q11 =>
(if q11.1 = 1 then
((sget q11.2.1 0).bind getB).bind fun b12 =>
some ((.bool b12), q11.2.2)
else
(if q11.1 = 2 then
((sget q11.2.1 0).bind getS).bind fun l13 =>
((sget (q11.2.1.tail) 0).bind (getI .i64)).bind fun n14 =>
((sget (q11.2.1.tail.tail) 0).bind getS).bind fun l15 =>
((sget (q11.2.1.tail.tail.tail) 0).bind getS).bind fun l16 =>
(loopL (B10_1 base) [some (.slice l13.1 l13.2 l13.2), some (.int .i64 n14), some (.slice l15.1 l15.2 l15.2), some (.slice l16.1 l16.2 l16.2), some (.int .i64 (0 : Int))] q11.2.2).bind fun q17 =>
(if q17.1 = 1 then
((sget q17.2.1 0).bind getB).bind fun b18 =>
some ((.bool b18), q17.2.2)
else
(if q17.1 = 4 then
((sget q17.2.1 0).bind getS).bind fun l19 =>
((sget (q17.2.1.tail) 0).bind getS).bind fun l20 =>
((sget (q17.2.1.tail.tail) 0).bind getS).bind fun l21 =>
(run (Et base) 43 [(.slice l19.1 l19.2 l19.2)] q17.2.2).bind fun r22 =>
((some r22.1).bind getB).bind fun b23 =>
(if (!b23) = true then
some ((.bool true), r22.2)
else
(run (Et base) 45 [(.slice l20.1 l20.2 l20.2)] r22.2).bind fun r24 =>
((some r24.1).bind getB).bind fun b25 =>
(if b25 = true then
(run (Et base) 45 [(.slice l21.1 l21.2 l21.2)] r24.2).bind fun r26 =>
((some r26.1).bind getB).bind fun b27 =>
some ((.bool b27), r26.2)
else
some ((.bool false), r24.2)))
else
none))
else
none))))) = some r) : run (Et base) 10 [(.slice v0 v0n v0n)] h = some r := run_i Try.func10 (by kernel_rfl) ((f10_eq base v0 v0n h).trans hx)
/-! laws.FnExactDropTimers (gates 0) -/
theorem f11_eq (base : Nat) (v0 : Option Addr) (v0n : Nat) (v1 : Int) (h : AH) : exFun (Et base) (run (Et base)) loopL a11 Try.f11 [(.slice v0 v0n v0n), (.int .i64 v1)] h =
((run (Et base) 42 [(.slice v0 v0n v0n), (.int .i64 (1048576 : Int))] h).bind fun r1 =>
((some r1.1).bind (getI .i64)).bind fun n2 =>
(if (decide (n2 < (0 : Int))) = true then
some ((.bool true), r1.2)
else
(run (Et base) 44 [(.slice v0 v0n v0n)] r1.2).bind fun r3 =>
((some r3.1).bind getS).bind fun l4 =>
(run (Et base) 49 [(.slice l4.1 l4.2 l4.2), (.int .i64 v1)] r3.2).bind fun r5 =>
((some r5.1).bind getS).bind fun l6 =>
(run (Et base) 44 [(.slice v0 v0n v0n)] r5.2).bind fun r7 =>
((some r7.1).bind getS).bind fun l8 =>
(run (Et base) 50 [(.slice l8.1 l8.2 l8.2), (.int .i64 v1)] r7.2).bind fun r9 =>
((some r9.1).bind getS).bind fun l10 =>
(run (Et base) 46 [(.slice l10.1 l10.2 l10.2), (.slice l6.1 l6.2 l6.2)] r9.2).bind fun r11 =>
((some r11.1).bind getB).bind fun b12 =>
(if (!b12) = true then
some ((.bool false), r11.2)
else
(run (Et base) 44 [(.slice v0 v0n v0n)] r11.2).bind fun r13 =>
((some r13.1).bind getS).bind fun l14 =>
(run (Et base) 46 [(.slice l8.1 l8.2 l8.2), (.slice l14.1 l14.2 l14.2)] r13.2).bind fun r15 =>
((some r15.1).bind getB).bind fun b16 =>
(if (!b16) = true then
some ((.bool false), r15.2)
else
(run (Et base) 51 [(.slice l8.1 l8.2 l8.2), (.int .i64 (1 : Int))] r15.2).bind fun r17 =>
((some r17.1).bind (getI .i64)).bind fun n18 =>
((if (decide (n18 < (0 : Int))) = true then
some (.inl ([some (.slice v0 v0n v0n), some (.int .i64 v1), some (.slice l6.1 l6.2 l6.2), some (.slice l10.1 l10.2 l10.2), some (.bool true)], r17.2))
else
(run (Et base) 46 [(.slice l10.1 l10.2 l10.2), (.slice l6.1 l6.2 l6.2)] r17.2).bind fun r20 =>
((some r20.1).bind getB).bind fun b21 =>
some (.inl ([some (.slice v0 v0n v0n), some (.int .i64 v1), some (.slice l6.1 l6.2 l6.2), some (.slice l10.1 l10.2 l10.2), some (.bool (!b21))], r20.2)))).bind fun j19 => joinK j19 fun j19 =>
((sget j19.1 0).bind getS).bind fun l22 =>
((sget (j19.1.tail) 0).bind (getI .i64)).bind fun n23 =>
((sget (j19.1.tail.tail) 0).bind getS).bind fun l24 =>
((sget (j19.1.tail.tail.tail) 0).bind getS).bind fun l25 =>
((sget (j19.1.tail.tail.tail.tail) 0).bind getB).bind fun b26 =>
(if b26 = true then
some ((.bool false), j19.2)
else
(run (Et base) 51 [(.slice l25.1 l25.2 l25.2), (.int .i64 (1 : Int))] j19.2).bind fun r27 =>
((some r27.1).bind (getI .i64)).bind fun n28 =>
(run (Et base) 52 [(.slice l25.1 l25.2 l25.2), (.int .i64 (1 : Int))] r27.2).bind fun r29 =>
((some r29.1).bind (getI .i64)).bind fun n30 =>
(if (decide (n30 < (0 : Int))) = true then
some ((.bool false), r29.2)
else
(if (n30 != n28) = true then
some ((.bool false), r29.2)
else
(run (Et base) 44 [(.slice l22.1 l22.2 l22.2)] r29.2).bind fun r31 =>
((some r31.1).bind getS).bind fun l32 =>
(run (Et base) 50 [(.slice l32.1 l32.2 l32.2), (.int .i64 n23)] r31.2).bind fun r33 =>
((some r33.1).bind getS).bind fun l34 =>
(run (Et base) 46 [(.slice l34.1 l34.2 l34.2), (.slice l24.1 l24.2 l24.2)] r33.2).bind fun r35 =>
((some r35.1).bind getB).bind fun b36 =>
(if (!b36) = true then
some ((.bool false), r35.2)
else
(run (Et base) 52 [(.slice l25.1 l25.2 l25.2), (.int .i64 (1 : Int))] r35.2).bind fun r37 =>
((some r37.1).bind (getI .i64)).bind fun n38 =>
(if (decide (n38 < (0 : Int))) = true then
some ((.bool false), r37.2)
else
(if (n38 != n28) = true then
some ((.bool false), r37.2)
else
some ((.bool true), r37.2)))))))))) : Option (Value × AH)) := by kernel_rfl
theorem r11 {base : Nat} {v0 : Option Addr} {v0n : Nat} {v1 : Int} {h : AH} {r : Value × AH} (hx :
((run (Et base) 42 [(.slice v0 v0n v0n), (.int .i64 (1048576 : Int))] h).bind fun r1 =>
((some r1.1).bind (getI .i64)).bind fun n2 =>
(if (decide (n2 < (0 : Int))) = true then
some ((.bool true), r1.2)
else
(run (Et base) 44 [(.slice v0 v0n v0n)] r1.2).bind fun r3 =>
((some r3.1).bind getS).bind fun l4 =>
(run (Et base) 49 [(.slice l4.1 l4.2 l4.2), (.int .i64 v1)] r3.2).bind fun r5 =>
((some r5.1).bind getS).bind fun l6 =>
(run (Et base) 44 [(.slice v0 v0n v0n)] r5.2).bind fun r7 =>
((some r7.1).bind getS).bind fun l8 =>
(run (Et base) 50 [(.slice l8.1 l8.2 l8.2), (.int .i64 v1)] r7.2).bind fun r9 =>
((some r9.1).bind getS).bind fun l10 =>
(run (Et base) 46 [(.slice l10.1 l10.2 l10.2), (.slice l6.1 l6.2 l6.2)] r9.2).bind fun r11 =>
((some r11.1).bind getB).bind fun b12 =>
(if (!b12) = true then
some ((.bool false), r11.2)
else
(run (Et base) 44 [(.slice v0 v0n v0n)] r11.2).bind fun r13 =>
((some r13.1).bind getS).bind fun l14 =>
(run (Et base) 46 [(.slice l8.1 l8.2 l8.2), (.slice l14.1 l14.2 l14.2)] r13.2).bind fun r15 =>
((some r15.1).bind getB).bind fun b16 =>
(if (!b16) = true then
some ((.bool false), r15.2)
else
(run (Et base) 51 [(.slice l8.1 l8.2 l8.2), (.int .i64 (1 : Int))] r15.2).bind fun r17 =>
((some r17.1).bind (getI .i64)).bind fun n18 =>
((if (decide (n18 < (0 : Int))) = true then
some (.inl ([some (.slice v0 v0n v0n), some (.int .i64 v1), some (.slice l6.1 l6.2 l6.2), some (.slice l10.1 l10.2 l10.2), some (.bool true)], r17.2))
else
(run (Et base) 46 [(.slice l10.1 l10.2 l10.2), (.slice l6.1 l6.2 l6.2)] r17.2).bind fun r20 =>
((some r20.1).bind getB).bind fun b21 =>
some (.inl ([some (.slice v0 v0n v0n), some (.int .i64 v1), some (.slice l6.1 l6.2 l6.2), some (.slice l10.1 l10.2 l10.2), some (.bool (!b21))], r20.2)))).bind fun j19 => joinK j19 fun j19 =>
((sget j19.1 0).bind getS).bind fun l22 =>
((sget (j19.1.tail) 0).bind (getI .i64)).bind fun n23 =>
((sget (j19.1.tail.tail) 0).bind getS).bind fun l24 =>
((sget (j19.1.tail.tail.tail) 0).bind getS).bind fun l25 =>
((sget (j19.1.tail.tail.tail.tail) 0).bind getB).bind fun b26 =>
(if b26 = true then
some ((.bool false), j19.2)
else
(run (Et base) 51 [(.slice l25.1 l25.2 l25.2), (.int .i64 (1 : Int))] j19.2).bind fun r27 =>
((some r27.1).bind (getI .i64)).bind fun n28 =>
(run (Et base) 52 [(.slice l25.1 l25.2 l25.2), (.int .i64 (1 : Int))] r27.2).bind fun r29 =>
((some r29.1).bind (getI .i64)).bind fun n30 =>
(if (decide (n30 < (0 : Int))) = true then
some ((.bool false), r29.2)
else
(if (n30 != n28) = true then
some ((.bool false), r29.2)
else
(run (Et base) 44 [(.slice l22.1 l22.2 l22.2)] r29.2).bind fun r31 =>
((some r31.1).bind getS).bind fun l32 =>
(run (Et base) 50 [(.slice l32.1 l32.2 l32.2), (.int .i64 n23)] r31.2).bind fun r33 =>
((some r33.1).bind getS).bind fun l34 =>
(run (Et base) 46 [(.slice l34.1 l34.2 l34.2), (.slice l24.1 l24.2 l24.2)] r33.2).bind fun r35 =>
((some r35.1).bind getB).bind fun b36 =>
(if (!b36) = true then
some ((.bool false), r35.2)
else
(run (Et base) 52 [(.slice l25.1 l25.2 l25.2), (.int .i64 (1 : Int))] r35.2).bind fun r37 =>
((some r37.1).bind (getI .i64)).bind fun n38 =>
(if (decide (n38 < (0 : Int))) = true then
some ((.bool false), r37.2)
else
(if (n38 != n28) = true then
some ((.bool false), r37.2)
else
some ((.bool true), r37.2))))))))))) = some r) : run (Et base) 11 [(.slice v0 v0n v0n), (.int .i64 v1)] h = some r := run_i Try.func11 (by kernel_rfl) ((f11_eq base v0 v0n v1 h).trans hx)
/-! laws.FnExactDueTimers (gates 0) -/
theorem f12_eq (base : Nat) (v0 : Option Addr) (v0n : Nat) (v1 : Int) (h : AH) : exFun (Et base) (run (Et base)) loopL a12 Try.f12 [(.slice v0 v0n v0n), (.int .i64 v1)] h =
((run (Et base) 42 [(.slice v0 v0n v0n), (.int .i64 (1048576 : Int))] h).bind fun r1 =>
((some r1.1).bind (getI .i64)).bind fun n2 =>
(if (decide (n2 < (0 : Int))) = true then
some ((.bool true), r1.2)
else
(run (Et base) 44 [(.slice v0 v0n v0n)] r1.2).bind fun r3 =>
((some r3.1).bind getS).bind fun l4 =>
(run (Et base) 53 [(.slice l4.1 l4.2 l4.2), (.int .i64 v1)] r3.2).bind fun r5 =>
(getTup 2 r5.1).bind fun l6 =>
((l6[0]?).bind getS).bind fun l7 =>
((l6[1]?).bind getS).bind fun l8 =>
(run (Et base) 44 [(.slice v0 v0n v0n)] r5.2).bind fun r9 =>
((some r9.1).bind getS).bind fun l10 =>
(run (Et base) 48 [(.slice l10.1 l10.2 l10.2), (.int .i64 v1)] r9.2).bind fun r11 =>
(getTup 2 r11.1).bind fun l12 =>
((l12[0]?).bind getS).bind fun l13 =>
((l12[1]?).bind getS).bind fun l14 =>
((run (Et base) 46 [(.slice l13.1 l13.2 l13.2), (.slice l7.1 l7.2 l7.2)] r11.2).bind fun r16 =>
((some r16.1).bind getB).bind fun b17 =>
(if (!b17) = true then
some (.inl ([some (.slice v0 v0n v0n), some (.int .i64 v1), some (.slice l7.1 l7.2 l7.2), some (.slice l8.1 l8.2 l8.2), some (.slice l10.1 l10.2 l10.2), some (.slice l13.1 l13.2 l13.2), some (.slice l14.1 l14.2 l14.2), some (.bool true)], r16.2))
else
(run (Et base) 46 [(.slice l14.1 l14.2 l14.2), (.slice l8.1 l8.2 l8.2)] r16.2).bind fun r18 =>
((some r18.1).bind getB).bind fun b19 =>
some (.inl ([some (.slice v0 v0n v0n), some (.int .i64 v1), some (.slice l7.1 l7.2 l7.2), some (.slice l8.1 l8.2 l8.2), some (.slice l10.1 l10.2 l10.2), some (.slice l13.1 l13.2 l13.2), some (.slice l14.1 l14.2 l14.2), some (.bool (!b19))], r18.2)))).bind fun j15 => joinK j15 fun j15 =>
((sget j15.1 0).bind getS).bind fun l20 =>
((sget (j15.1.tail) 0).bind (getI .i64)).bind fun n21 =>
((sget (j15.1.tail.tail) 0).bind getS).bind fun l22 =>
((sget (j15.1.tail.tail.tail) 0).bind getS).bind fun l23 =>
((sget (j15.1.tail.tail.tail.tail) 0).bind getS).bind fun l24 =>
((sget (j15.1.tail.tail.tail.tail.tail) 0).bind getS).bind fun l25 =>
((sget (j15.1.tail.tail.tail.tail.tail.tail) 0).bind getS).bind fun l26 =>
((sget (j15.1.tail.tail.tail.tail.tail.tail.tail) 0).bind getB).bind fun b27 =>
(if b27 = true then
some ((.bool false), j15.2)
else
(run (Et base) 44 [(.slice l20.1 l20.2 l20.2)] j15.2).bind fun r28 =>
((some r28.1).bind getS).bind fun l29 =>
(run (Et base) 46 [(.slice l24.1 l24.2 l24.2), (.slice l29.1 l29.2 l29.2)] r28.2).bind fun r30 =>
((some r30.1).bind getB).bind fun b31 =>
(if (!b31) = true then
some ((.bool false), r30.2)
else
(run (Et base) 51 [(.slice l24.1 l24.2 l24.2), (.int .i64 (1 : Int))] r30.2).bind fun r32 =>
((some r32.1).bind (getI .i64)).bind fun n33 =>
((if (decide (n33 < (0 : Int))) = true then
some (.inl ([some (.slice l20.1 l20.2 l20.2), some (.int .i64 n21), some (.slice l22.1 l22.2 l22.2), some (.slice l23.1 l23.2 l23.2), some (.slice l25.1 l25.2 l25.2), some (.slice l26.1 l26.2 l26.2), some (.bool true)], r32.2))
else
(run (Et base) 46 [(.slice l25.1 l25.2 l25.2), (.slice l22.1 l22.2 l22.2)] r32.2).bind fun r35 =>
((some r35.1).bind getB).bind fun b36 =>
(if (!b36) = true then
some (.inl ([some (.slice l20.1 l20.2 l20.2), some (.int .i64 n21), some (.slice l22.1 l22.2 l22.2), some (.slice l23.1 l23.2 l23.2), some (.slice l25.1 l25.2 l25.2), some (.slice l26.1 l26.2 l26.2), some (.bool true)], r35.2))
else
(run (Et base) 46 [(.slice l26.1 l26.2 l26.2), (.slice l23.1 l23.2 l23.2)] r35.2).bind fun r37 =>
((some r37.1).bind getB).bind fun b38 =>
some (.inl ([some (.slice l20.1 l20.2 l20.2), some (.int .i64 n21), some (.slice l22.1 l22.2 l22.2), some (.slice l23.1 l23.2 l23.2), some (.slice l25.1 l25.2 l25.2), some (.slice l26.1 l26.2 l26.2), some (.bool (!b38))], r37.2))))).bind fun j34 => joinK j34 fun j34 =>
((sget j34.1 0).bind getS).bind fun l39 =>
((sget (j34.1.tail) 0).bind (getI .i64)).bind fun n40 =>
((sget (j34.1.tail.tail) 0).bind getS).bind fun l41 =>
((sget (j34.1.tail.tail.tail) 0).bind getS).bind fun l42 =>
((sget (j34.1.tail.tail.tail.tail) 0).bind getS).bind fun l43 =>
((sget (j34.1.tail.tail.tail.tail.tail) 0).bind getS).bind fun l44 =>
((sget (j34.1.tail.tail.tail.tail.tail.tail) 0).bind getB).bind fun b45 =>
(if b45 = true then
some ((.bool false), j34.2)
else
(run (Et base) 51 [(.slice l43.1 l43.2 l43.2), (.int .i64 (1 : Int))] j34.2).bind fun r46 =>
((some r46.1).bind (getI .i64)).bind fun n47 =>
(run (Et base) 51 [(.slice l44.1 l44.2 l44.2), (.int .i64 n47)] r46.2).bind fun r48 =>
((some r48.1).bind (getI .i64)).bind fun n49 =>
(run (Et base) 52 [(.slice l43.1 l43.2 l43.2), (.int .i64 (1 : Int))] r48.2).bind fun r50 =>
((some r50.1).bind (getI .i64)).bind fun n51 =>
(if (decide (n51 < (0 : Int))) = true then
some ((.bool false), r50.2)
else
(run (Et base) 52 [(.slice l44.1 l44.2 l44.2), (.int .i64 n51)] r50.2).bind fun r52 =>
((some r52.1).bind (getI .i64)).bind fun n53 =>
(if (decide (n53 < (0 : Int))) = true then
some ((.bool false), r52.2)
else
(if (n53 != n49) = true then
some ((.bool false), r52.2)
else
(run (Et base) 44 [(.slice l39.1 l39.2 l39.2)] r52.2).bind fun r54 =>
((some r54.1).bind getS).bind fun l55 =>
(run (Et base) 48 [(.slice l55.1 l55.2 l55.2), (.int .i64 n40)] r54.2).bind fun r56 =>
(getTup 2 r56.1).bind fun l57 =>
((l57[0]?).bind getS).bind fun l58 =>
((l57[1]?).bind getS).bind fun l59 =>
((run (Et base) 46 [(.slice l58.1 l58.2 l58.2), (.slice l41.1 l41.2 l41.2)] r56.2).bind fun r61 =>
((some r61.1).bind getB).bind fun b62 =>
(if (!b62) = true then
some (.inl ([some (.slice l43.1 l43.2 l43.2), some (.slice l44.1 l44.2 l44.2), some (.int .i64 n49), some (.bool true)], r61.2))
else
(run (Et base) 46 [(.slice l59.1 l59.2 l59.2), (.slice l42.1 l42.2 l42.2)] r61.2).bind fun r63 =>
((some r63.1).bind getB).bind fun b64 =>
some (.inl ([some (.slice l43.1 l43.2 l43.2), some (.slice l44.1 l44.2 l44.2), some (.int .i64 n49), some (.bool (!b64))], r63.2)))).bind fun j60 => joinK j60 fun j60 =>
((sget j60.1 0).bind getS).bind fun l65 =>
((sget (j60.1.tail) 0).bind getS).bind fun l66 =>
((sget (j60.1.tail.tail) 0).bind (getI .i64)).bind fun n67 =>
((sget (j60.1.tail.tail.tail) 0).bind getB).bind fun b68 =>
(if b68 = true then
some ((.bool false), j60.2)
else
(run (Et base) 52 [(.slice l65.1 l65.2 l65.2), (.int .i64 (1 : Int))] j60.2).bind fun r69 =>
((some r69.1).bind (getI .i64)).bind fun n70 =>
(if (decide (n70 < (0 : Int))) = true then
some ((.bool false), r69.2)
else
(run (Et base) 52 [(.slice l66.1 l66.2 l66.2), (.int .i64 n70)] r69.2).bind fun r71 =>
((some r71.1).bind (getI .i64)).bind fun n72 =>
(if (decide (n72 < (0 : Int))) = true then
some ((.bool false), r71.2)
else
(if (n72 != n67) = true then
some ((.bool false), r71.2)
else
some ((.bool true), r71.2)))))))))))) : Option (Value × AH)) := by kernel_rfl
theorem r12 {base : Nat} {v0 : Option Addr} {v0n : Nat} {v1 : Int} {h : AH} {r : Value × AH} (hx :
((run (Et base) 42 [(.slice v0 v0n v0n), (.int .i64 (1048576 : Int))] h).bind fun r1 =>
((some r1.1).bind (getI .i64)).bind fun n2 =>
(if (decide (n2 < (0 : Int))) = true then
some ((.bool true), r1.2)
else
(run (Et base) 44 [(.slice v0 v0n v0n)] r1.2).bind fun r3 =>
((some r3.1).bind getS).bind fun l4 =>
(run (Et base) 53 [(.slice l4.1 l4.2 l4.2), (.int .i64 v1)] r3.2).bind fun r5 =>
(getTup 2 r5.1).bind fun l6 =>
((l6[0]?).bind getS).bind fun l7 =>
((l6[1]?).bind getS).bind fun l8 =>
(run (Et base) 44 [(.slice v0 v0n v0n)] r5.2).bind fun r9 =>
((some r9.1).bind getS).bind fun l10 =>
(run (Et base) 48 [(.slice l10.1 l10.2 l10.2), (.int .i64 v1)] r9.2).bind fun r11 =>
(getTup 2 r11.1).bind fun l12 =>
((l12[0]?).bind getS).bind fun l13 =>
((l12[1]?).bind getS).bind fun l14 =>
((run (Et base) 46 [(.slice l13.1 l13.2 l13.2), (.slice l7.1 l7.2 l7.2)] r11.2).bind fun r16 =>
((some r16.1).bind getB).bind fun b17 =>
(if (!b17) = true then
some (.inl ([some (.slice v0 v0n v0n), some (.int .i64 v1), some (.slice l7.1 l7.2 l7.2), some (.slice l8.1 l8.2 l8.2), some (.slice l10.1 l10.2 l10.2), some (.slice l13.1 l13.2 l13.2), some (.slice l14.1 l14.2 l14.2), some (.bool true)], r16.2))
else
(run (Et base) 46 [(.slice l14.1 l14.2 l14.2), (.slice l8.1 l8.2 l8.2)] r16.2).bind fun r18 =>
((some r18.1).bind getB).bind fun b19 =>
some (.inl ([some (.slice v0 v0n v0n), some (.int .i64 v1), some (.slice l7.1 l7.2 l7.2), some (.slice l8.1 l8.2 l8.2), some (.slice l10.1 l10.2 l10.2), some (.slice l13.1 l13.2 l13.2), some (.slice l14.1 l14.2 l14.2), some (.bool (!b19))], r18.2)))).bind fun j15 => joinK j15 fun j15 =>
((sget j15.1 0).bind getS).bind fun l20 =>
((sget (j15.1.tail) 0).bind (getI .i64)).bind fun n21 =>
((sget (j15.1.tail.tail) 0).bind getS).bind fun l22 =>
((sget (j15.1.tail.tail.tail) 0).bind getS).bind fun l23 =>
((sget (j15.1.tail.tail.tail.tail) 0).bind getS).bind fun l24 =>
((sget (j15.1.tail.tail.tail.tail.tail) 0).bind getS).bind fun l25 =>
((sget (j15.1.tail.tail.tail.tail.tail.tail) 0).bind getS).bind fun l26 =>
((sget (j15.1.tail.tail.tail.tail.tail.tail.tail) 0).bind getB).bind fun b27 =>
(if b27 = true then
some ((.bool false), j15.2)
else
(run (Et base) 44 [(.slice l20.1 l20.2 l20.2)] j15.2).bind fun r28 =>
((some r28.1).bind getS).bind fun l29 =>
(run (Et base) 46 [(.slice l24.1 l24.2 l24.2), (.slice l29.1 l29.2 l29.2)] r28.2).bind fun r30 =>
((some r30.1).bind getB).bind fun b31 =>
(if (!b31) = true then
some ((.bool false), r30.2)
else
(run (Et base) 51 [(.slice l24.1 l24.2 l24.2), (.int .i64 (1 : Int))] r30.2).bind fun r32 =>
((some r32.1).bind (getI .i64)).bind fun n33 =>
((if (decide (n33 < (0 : Int))) = true then
some (.inl ([some (.slice l20.1 l20.2 l20.2), some (.int .i64 n21), some (.slice l22.1 l22.2 l22.2), some (.slice l23.1 l23.2 l23.2), some (.slice l25.1 l25.2 l25.2), some (.slice l26.1 l26.2 l26.2), some (.bool true)], r32.2))
else
(run (Et base) 46 [(.slice l25.1 l25.2 l25.2), (.slice l22.1 l22.2 l22.2)] r32.2).bind fun r35 =>
((some r35.1).bind getB).bind fun b36 =>
(if (!b36) = true then
some (.inl ([some (.slice l20.1 l20.2 l20.2), some (.int .i64 n21), some (.slice l22.1 l22.2 l22.2), some (.slice l23.1 l23.2 l23.2), some (.slice l25.1 l25.2 l25.2), some (.slice l26.1 l26.2 l26.2), some (.bool true)], r35.2))
else
(run (Et base) 46 [(.slice l26.1 l26.2 l26.2), (.slice l23.1 l23.2 l23.2)] r35.2).bind fun r37 =>
((some r37.1).bind getB).bind fun b38 =>
some (.inl ([some (.slice l20.1 l20.2 l20.2), some (.int .i64 n21), some (.slice l22.1 l22.2 l22.2), some (.slice l23.1 l23.2 l23.2), some (.slice l25.1 l25.2 l25.2), some (.slice l26.1 l26.2 l26.2), some (.bool (!b38))], r37.2))))).bind fun j34 => joinK j34 fun j34 =>
((sget j34.1 0).bind getS).bind fun l39 =>
((sget (j34.1.tail) 0).bind (getI .i64)).bind fun n40 =>
((sget (j34.1.tail.tail) 0).bind getS).bind fun l41 =>
((sget (j34.1.tail.tail.tail) 0).bind getS).bind fun l42 =>
((sget (j34.1.tail.tail.tail.tail) 0).bind getS).bind fun l43 =>
((sget (j34.1.tail.tail.tail.tail.tail) 0).bind getS).bind fun l44 =>
((sget (j34.1.tail.tail.tail.tail.tail.tail) 0).bind getB).bind fun b45 =>
(if b45 = true then
some ((.bool false), j34.2)
else
(run (Et base) 51 [(.slice l43.1 l43.2 l43.2), (.int .i64 (1 : Int))] j34.2).bind fun r46 =>
((some r46.1).bind (getI .i64)).bind fun n47 =>
(run (Et base) 51 [(.slice l44.1 l44.2 l44.2), (.int .i64 n47)] r46.2).bind fun r48 =>
((some r48.1).bind (getI .i64)).bind fun n49 =>
(run (Et base) 52 [(.slice l43.1 l43.2 l43.2), (.int .i64 (1 : Int))] r48.2).bind fun r50 =>
((some r50.1).bind (getI .i64)).bind fun n51 =>
(if (decide (n51 < (0 : Int))) = true then
some ((.bool false), r50.2)
else
(run (Et base) 52 [(.slice l44.1 l44.2 l44.2), (.int .i64 n51)] r50.2).bind fun r52 =>
((some r52.1).bind (getI .i64)).bind fun n53 =>
(if (decide (n53 < (0 : Int))) = true then
some ((.bool false), r52.2)
else
(if (n53 != n49) = true then
some ((.bool false), r52.2)
else
(run (Et base) 44 [(.slice l39.1 l39.2 l39.2)] r52.2).bind fun r54 =>
((some r54.1).bind getS).bind fun l55 =>
(run (Et base) 48 [(.slice l55.1 l55.2 l55.2), (.int .i64 n40)] r54.2).bind fun r56 =>
(getTup 2 r56.1).bind fun l57 =>
((l57[0]?).bind getS).bind fun l58 =>
((l57[1]?).bind getS).bind fun l59 =>
((run (Et base) 46 [(.slice l58.1 l58.2 l58.2), (.slice l41.1 l41.2 l41.2)] r56.2).bind fun r61 =>
((some r61.1).bind getB).bind fun b62 =>
(if (!b62) = true then
some (.inl ([some (.slice l43.1 l43.2 l43.2), some (.slice l44.1 l44.2 l44.2), some (.int .i64 n49), some (.bool true)], r61.2))
else
(run (Et base) 46 [(.slice l59.1 l59.2 l59.2), (.slice l42.1 l42.2 l42.2)] r61.2).bind fun r63 =>
((some r63.1).bind getB).bind fun b64 =>
some (.inl ([some (.slice l43.1 l43.2 l43.2), some (.slice l44.1 l44.2 l44.2), some (.int .i64 n49), some (.bool (!b64))], r63.2)))).bind fun j60 => joinK j60 fun j60 =>
((sget j60.1 0).bind getS).bind fun l65 =>
((sget (j60.1.tail) 0).bind getS).bind fun l66 =>
((sget (j60.1.tail.tail) 0).bind (getI .i64)).bind fun n67 =>
((sget (j60.1.tail.tail.tail) 0).bind getB).bind fun b68 =>
(if b68 = true then
some ((.bool false), j60.2)
else
(run (Et base) 52 [(.slice l65.1 l65.2 l65.2), (.int .i64 (1 : Int))] j60.2).bind fun r69 =>
((some r69.1).bind (getI .i64)).bind fun n70 =>
(if (decide (n70 < (0 : Int))) = true then
some ((.bool false), r69.2)
else
(run (Et base) 52 [(.slice l66.1 l66.2 l66.2), (.int .i64 n70)] r69.2).bind fun r71 =>
((some r71.1).bind (getI .i64)).bind fun n72 =>
(if (decide (n72 < (0 : Int))) = true then
some ((.bool false), r71.2)
else
(if (n72 != n67) = true then
some ((.bool false), r71.2)
else
some ((.bool true), r71.2))))))))))))) = some r) : run (Et base) 12 [(.slice v0 v0n v0n), (.int .i64 v1)] h = some r := run_i Try.func12 (by kernel_rfl) ((f12_eq base v0 v0n v1 h).trans hx)
/-! laws.FnDropped (gates 0) -/
noncomputable def B13_0 (base : Nat) : Body := fun l h => lay s13_0 l fun s => exCode (Et base) (run (Et base)) loopL a13_0 (subC [1, 1, 1, 1, 1, 0, 1, 0, 0] (bodyC Try.f13)) s h (keepK s13_0 e13_0)
theorem B13_0_eq (base : Nat) (v0 : Option Addr) (v0n : Nat) (v3 : Option Addr) (v3n : Nat) (v4 : Int) (v5 : Option Addr) (v5n : Nat) (v6 : Int) (v7 : Int) (h : AH) : B13_0 base [some (.slice v0 v0n v0n), some (.slice v3 v3n v3n), some (.int .i64 v4), some (.slice v5 v5n v5n), some (.int .i64 v6), some (.int .i64 v7)] h =
((if (decide (v7 < ((v3n : Nat) : Int))) = true then
((if 0 ≤ v7 ∧ v7 < ((v3n : Nat) : Int) then
((v3 : Option Addr)).bind fun a2 =>
((cell h a2.block ((a2.off + Int.toNat v7 * 6) + 1)).bind (getI .i64)).bind fun n3 =>
(if (n3 != v4) = true then
((if (decide (v6 ≥ ((v5n : Nat) : Int))) = true then
some (.inl ([some (.slice v0 v0n v0n), some (.slice v3 v3n v3n), some (.int .i64 v4), some (.slice v5 v5n v5n), some (.int .i64 v6), some (.int .i64 v7), some (.bool true)], h))
else
(if 0 ≤ v6 ∧ v6 < ((v5n : Nat) : Int) then
((v5 : Option Addr)).bind fun a5 =>
((cell h a5.block ((a5.off + Int.toNat v6 * 6) + 1)).bind (getI .i64)).bind fun n6 =>
(if 0 ≤ v7 ∧ v7 < ((v3n : Nat) : Int) then
((v3 : Option Addr)).bind fun a7 =>
((cell h a7.block ((a7.off + Int.toNat v7 * 6) + 1)).bind (getI .i64)).bind fun n8 =>
(if (n6 != n8) = true then
some (.inl ([some (.slice v0 v0n v0n), some (.slice v3 v3n v3n), some (.int .i64 v4), some (.slice v5 v5n v5n), some (.int .i64 v6), some (.int .i64 v7), some (.bool true)], h))
else
(if 0 ≤ v6 ∧ v6 < ((v5n : Nat) : Int) then
((v5 : Option Addr)).bind fun a9 =>
((cell h a9.block ((a9.off + Int.toNat v6 * 6) + 0)).bind (getI .i64)).bind fun n10 =>
(if 0 ≤ v7 ∧ v7 < ((v3n : Nat) : Int) then
((v3 : Option Addr)).bind fun a11 =>
((cell h a11.block ((a11.off + Int.toNat v7 * 6) + 0)).bind (getI .i64)).bind fun n12 =>
(if (n10 != n12) = true then
some (.inl ([some (.slice v0 v0n v0n), some (.slice v3 v3n v3n), some (.int .i64 v4), some (.slice v5 v5n v5n), some (.int .i64 v6), some (.int .i64 v7), some (.bool true)], h))
else
(if 0 ≤ v6 ∧ v6 < ((v5n : Nat) : Int) then
((v5 : Option Addr)).bind fun a13 =>
((cell h a13.block ((a13.off + Int.toNat v6 * 6) + 2)).bind (getI .i64)).bind fun n14 =>
((cell h a13.block (((a13.off + Int.toNat v6 * 6) + 2) + 1)).bind (getI .i64)).bind fun n15 =>
((cell h a13.block ((((a13.off + Int.toNat v6 * 6) + 2) + 1) + 1)).bind getStr).bind fun s16 =>
((cell h a13.block (((((a13.off + Int.toNat v6 * 6) + 2) + 1) + 1) + 1)).bind getS).bind fun l17 =>
(if 0 ≤ v7 ∧ v7 < ((v3n : Nat) : Int) then
((v3 : Option Addr)).bind fun a18 =>
((cell h a18.block ((a18.off + Int.toNat v7 * 6) + 2)).bind (getI .i64)).bind fun n19 =>
((cell h a18.block (((a18.off + Int.toNat v7 * 6) + 2) + 1)).bind (getI .i64)).bind fun n20 =>
((cell h a18.block ((((a18.off + Int.toNat v7 * 6) + 2) + 1) + 1)).bind getStr).bind fun s21 =>
((cell h a18.block (((((a18.off + Int.toNat v7 * 6) + 2) + 1) + 1) + 1)).bind getS).bind fun l22 =>
(run (Et base) 55 [(.agg #[(.int .i64 n14), (.int .i64 n15), (.string s16), (.slice l17.1 l17.2 l17.2)]), (.agg #[(.int .i64 n19), (.int .i64 n20), (.string s21), (.slice l22.1 l22.2 l22.2)])] h).bind fun r23 =>
((some r23.1).bind getB).bind fun b24 =>
some (.inl ([some (.slice v0 v0n v0n), some (.slice v3 v3n v3n), some (.int .i64 v4), some (.slice v5 v5n v5n), some (.int .i64 v6), some (.int .i64 v7), some (.bool (!b24))], r23.2))
else none)
else none))
else none)
else none))
else none)
else none))).bind fun j4 => joinK j4 fun j4 =>
((sget j4.1 0).bind getS).bind fun l25 =>
((sget (j4.1.tail) 0).bind getS).bind fun l26 =>
((sget (j4.1.tail.tail) 0).bind (getI .i64)).bind fun n27 =>
((sget (j4.1.tail.tail.tail) 0).bind getS).bind fun l28 =>
((sget (j4.1.tail.tail.tail.tail) 0).bind (getI .i64)).bind fun n29 =>
((sget (j4.1.tail.tail.tail.tail.tail) 0).bind (getI .i64)).bind fun n30 =>
((sget (j4.1.tail.tail.tail.tail.tail.tail) 0).bind getB).bind fun b31 =>
(if b31 = true then
(some (1, [some (.bool false)], j4.2)).map .inr
else
some (.inl ([some (.slice l25.1 l25.2 l25.2), some (.slice l26.1 l26.2 l26.2), some (.int .i64 n27), some (.slice l28.1 l28.2 l28.2), some (.int .i64 (IntKind.wrap .i64 (n29 + (1 : Int)))), some (.int .i64 n30)], j4.2)))
else
some (.inl ([some (.slice v0 v0n v0n), some (.slice v3 v3n v3n), some (.int .i64 v4), some (.slice v5 v5n v5n), some (.int .i64 v6), some (.int .i64 v7)], h)))
else none)).bind fun j1 => joinK j1 fun j1 =>
((sget j1.1 0).bind getS).bind fun l32 =>
((sget (j1.1.tail) 0).bind getS).bind fun l33 =>
((sget (j1.1.tail.tail) 0).bind (getI .i64)).bind fun n34 =>
((sget (j1.1.tail.tail.tail) 0).bind getS).bind fun l35 =>
((sget (j1.1.tail.tail.tail.tail) 0).bind (getI .i64)).bind fun n36 =>
((sget (j1.1.tail.tail.tail.tail.tail) 0).bind (getI .i64)).bind fun n37 =>
some (0, [some (.slice l32.1 l32.2 l32.2), some (.slice l33.1 l33.2 l33.2), some (.int .i64 n34), some (.slice l35.1 l35.2 l35.2), some (.int .i64 n36), some (.int .i64 (IntKind.wrap .i64 (n37 + (1 : Int))))], j1.2)
else
some (2, [some (.slice v0 v0n v0n), some (.slice v5 v5n v5n), some (.int .i64 v6)], h)) : Option (Nat × Slots × AH)) := by kernel_rfl
theorem f13_eq (base : Nat) (v0 : Option Addr) (v0n : Nat) (h : AH) : exFun (Et base) (run (Et base)) loopL a13 Try.f13 [(.slice v0 v0n v0n)] h =
((run (Et base) 32 [(.slice v0 v0n v0n)] h).bind fun r1 =>
((some r1.1).bind getB).bind fun b2 =>
(if b2 = true then
some ((.bool true), r1.2)
else
(run (Et base) 54 [(.slice v0 v0n v0n)] r1.2).bind fun r3 =>
(getTup 2 r3.1).bind fun l4 =>
((l4[0]?).bind getS).bind fun l5 =>
((l4[1]?).bind (getI .i64)).bind fun n6 =>
(run (Et base) 50 [(.slice l5.1 l5.2 l5.2), (.int .i64 n6)] r3.2).bind fun r7 =>
((some r7.1).bind getS).bind fun l8 =>
(loopL (B13_0 base) [some (.slice v0 v0n v0n), some (.slice l5.1 l5.2 l5.2), some (.int .i64 n6), some (.slice l8.1 l8.2 l8.2), some (.int .i64 (0 : Int)), some (.int .i64 (0 : Int))] r7.2).bind fun q9 =>
(if q9.1 = 1 then
((sget q9.2.1 0).bind getB).bind fun b10 =>
some ((.bool b10), q9.2.2)
else
(if q9.1 = 2 then
((sget q9.2.1 0).bind getS).bind fun l11 =>
((sget (q9.2.1.tail) 0).bind getS).bind fun l12 =>
((sget (q9.2.1.tail.tail) 0).bind (getI .i64)).bind fun n13 =>
(run (Et base) 56 [(.slice l11.1 l11.2 l11.2)] q9.2.2).bind fun r14 =>
((some r14.1).bind getS).bind fun l15 =>
(if (n13 == ((l12.2 : Nat) : Int)) = true then
(run (Et base) 45 [(.slice l15.1 l15.2 l15.2)] r14.2).bind fun r16 =>
((some r16.1).bind getB).bind fun b17 =>
(run (Et base) 43 [(.slice l15.1 l15.2 l15.2)] r16.2).bind fun r18 =>
((some r18.1).bind getB).bind fun b19 =>
some ((.bool (b17 == b19)), r18.2)
else
some ((.bool false), r14.2))
else
none))) : Option (Value × AH)) := by kernel_rfl
theorem r13 {base : Nat} {v0 : Option Addr} {v0n : Nat} {h : AH} {r : Value × AH} (hx :
((run (Et base) 32 [(.slice v0 v0n v0n)] h).bind fun r1 =>
((some r1.1).bind getB).bind fun b2 =>
(if b2 = true then
some ((.bool true), r1.2)
else
(run (Et base) 54 [(.slice v0 v0n v0n)] r1.2).bind fun r3 =>
(getTup 2 r3.1).bind fun l4 =>
((l4[0]?).bind getS).bind fun l5 =>
((l4[1]?).bind (getI .i64)).bind fun n6 =>
(run (Et base) 50 [(.slice l5.1 l5.2 l5.2), (.int .i64 n6)] r3.2).bind fun r7 =>
((some r7.1).bind getS).bind fun l8 =>
(loopL (B13_0 base) [some (.slice v0 v0n v0n), some (.slice l5.1 l5.2 l5.2), some (.int .i64 n6), some (.slice l8.1 l8.2 l8.2), some (.int .i64 (0 : Int)), some (.int .i64 (0 : Int))] r7.2).bind fun q9 =>
(if q9.1 = 1 then
((sget q9.2.1 0).bind getB).bind fun b10 =>
some ((.bool b10), q9.2.2)
else
(if q9.1 = 2 then
((sget q9.2.1 0).bind getS).bind fun l11 =>
((sget (q9.2.1.tail) 0).bind getS).bind fun l12 =>
((sget (q9.2.1.tail.tail) 0).bind (getI .i64)).bind fun n13 =>
(run (Et base) 56 [(.slice l11.1 l11.2 l11.2)] q9.2.2).bind fun r14 =>
((some r14.1).bind getS).bind fun l15 =>
(if (n13 == ((l12.2 : Nat) : Int)) = true then
(run (Et base) 45 [(.slice l15.1 l15.2 l15.2)] r14.2).bind fun r16 =>
((some r16.1).bind getB).bind fun b17 =>
(run (Et base) 43 [(.slice l15.1 l15.2 l15.2)] r16.2).bind fun r18 =>
((some r18.1).bind getB).bind fun b19 =>
some ((.bool (b17 == b19)), r18.2)
else
some ((.bool false), r14.2))
else
none)))) = some r) : run (Et base) 13 [(.slice v0 v0n v0n)] h = some r := run_i Try.func13 (by kernel_rfl) ((f13_eq base v0 v0n h).trans hx)
/-! laws.FnTimers (gates 0) -/
noncomputable def B14_1 (base : Nat) : Body := fun l h => lay s14_1 l fun s => exCode (Et base) (run (Et base)) loopL a14_1 (subC [1, 1, 1, 1, 1, 1, 1, 1, 1, 0, 1, 0, 0] (bodyC Try.f14)) s h (keepK s14_1 e14_1)
noncomputable def B14_0 (base : Nat) : Body := fun l h => lay s14_0 l fun s => exCode (Et base) (run (Et base)) loopL a14_0 (subC [1, 1, 1, 1, 1, 1, 1, 0, 0, 0] (bodyC Try.f14)) s h (keepK s14_0 e14_0)
theorem B14_1_eq (base : Nat) (v3 : Option Addr) (v3n : Nat) (v5 : Option Addr) (v5n : Nat) (v9 : Int) (v10 : Int) (h : AH) : B14_1 base [some (.slice v3 v3n v3n), some (.slice v5 v5n v5n), some (.int .i64 v9), some (.int .i64 v10)] h =
((if (decide (v10 < ((v3n : Nat) : Int))) = true then
((if (decide (v10 ≥ v9)) = true then
some (.inl ([some (.slice v3 v3n v3n), some (.slice v5 v5n v5n), some (.int .i64 v9), some (.int .i64 v10), some (.int .i64 (IntKind.wrap .i64 (v10 + (1 : Int))))], h))
else
some (.inl ([some (.slice v3 v3n v3n), some (.slice v5 v5n v5n), some (.int .i64 v9), some (.int .i64 v10), some (.int .i64 v10)], h)))).bind fun j1 => joinK j1 fun j1 =>
((sget j1.1 0).bind getS).bind fun l2 =>
((sget (j1.1.tail) 0).bind getS).bind fun l3 =>
((sget (j1.1.tail.tail) 0).bind (getI .i64)).bind fun n4 =>
((sget (j1.1.tail.tail.tail) 0).bind (getI .i64)).bind fun n5 =>
((sget (j1.1.tail.tail.tail.tail) 0).bind (getI .i64)).bind fun n6 =>
((if 0 ≤ n6 ∧ n6 < ((l3.2 : Nat) : Int) then
((l3.1 : Option Addr)).bind fun a8 =>
((cell j1.2 a8.block ((a8.off + Int.toNat n6 * 6) + 0)).bind (getI .i64)).bind fun n9 =>
(if 0 ≤ n5 ∧ n5 < ((l2.2 : Nat) : Int) then
((l2.1 : Option Addr)).bind fun a10 =>
((cell j1.2 a10.block ((a10.off + Int.toNat n5 * 6) + 0)).bind (getI .i64)).bind fun n11 =>
(if (n9 != n11) = true then
some (.inl ([some (.slice l2.1 l2.2 l2.2), some (.slice l3.1 l3.2 l3.2), some (.int .i64 n4), some (.int .i64 n5), some (.bool true)], j1.2))
else
(if 0 ≤ n6 ∧ n6 < ((l3.2 : Nat) : Int) then
((l3.1 : Option Addr)).bind fun a12 =>
((cell j1.2 a12.block ((a12.off + Int.toNat n6 * 6) + 1)).bind (getI .i64)).bind fun n13 =>
(if 0 ≤ n5 ∧ n5 < ((l2.2 : Nat) : Int) then
((l2.1 : Option Addr)).bind fun a14 =>
((cell j1.2 a14.block ((a14.off + Int.toNat n5 * 6) + 1)).bind (getI .i64)).bind fun n15 =>
(if (n13 != n15) = true then
some (.inl ([some (.slice l2.1 l2.2 l2.2), some (.slice l3.1 l3.2 l3.2), some (.int .i64 n4), some (.int .i64 n5), some (.bool true)], j1.2))
else
(if 0 ≤ n6 ∧ n6 < ((l3.2 : Nat) : Int) then
((l3.1 : Option Addr)).bind fun a16 =>
((cell j1.2 a16.block ((a16.off + Int.toNat n6 * 6) + 2)).bind (getI .i64)).bind fun n17 =>
((cell j1.2 a16.block (((a16.off + Int.toNat n6 * 6) + 2) + 1)).bind (getI .i64)).bind fun n18 =>
((cell j1.2 a16.block ((((a16.off + Int.toNat n6 * 6) + 2) + 1) + 1)).bind getStr).bind fun s19 =>
((cell j1.2 a16.block (((((a16.off + Int.toNat n6 * 6) + 2) + 1) + 1) + 1)).bind getS).bind fun l20 =>
(if 0 ≤ n5 ∧ n5 < ((l2.2 : Nat) : Int) then
((l2.1 : Option Addr)).bind fun a21 =>
((cell j1.2 a21.block ((a21.off + Int.toNat n5 * 6) + 2)).bind (getI .i64)).bind fun n22 =>
((cell j1.2 a21.block (((a21.off + Int.toNat n5 * 6) + 2) + 1)).bind (getI .i64)).bind fun n23 =>
((cell j1.2 a21.block ((((a21.off + Int.toNat n5 * 6) + 2) + 1) + 1)).bind getStr).bind fun s24 =>
((cell j1.2 a21.block (((((a21.off + Int.toNat n5 * 6) + 2) + 1) + 1) + 1)).bind getS).bind fun l25 =>
(run (Et base) 55 [(.agg #[(.int .i64 n17), (.int .i64 n18), (.string s19), (.slice l20.1 l20.2 l20.2)]), (.agg #[(.int .i64 n22), (.int .i64 n23), (.string s24), (.slice l25.1 l25.2 l25.2)])] j1.2).bind fun r26 =>
((some r26.1).bind getB).bind fun b27 =>
some (.inl ([some (.slice l2.1 l2.2 l2.2), some (.slice l3.1 l3.2 l3.2), some (.int .i64 n4), some (.int .i64 n5), some (.bool (!b27))], r26.2))
else none)
else none))
else none)
else none))
else none)
else none)).bind fun j7 => joinK j7 fun j7 =>
((sget j7.1 0).bind getS).bind fun l28 =>
((sget (j7.1.tail) 0).bind getS).bind fun l29 =>
((sget (j7.1.tail.tail) 0).bind (getI .i64)).bind fun n30 =>
((sget (j7.1.tail.tail.tail) 0).bind (getI .i64)).bind fun n31 =>
((sget (j7.1.tail.tail.tail.tail) 0).bind getB).bind fun b32 =>
(if b32 = true then
some (1, [some (.bool false)], j7.2)
else
some (0, [some (.slice l28.1 l28.2 l28.2), some (.slice l29.1 l29.2 l29.2), some (.int .i64 n30), some (.int .i64 (IntKind.wrap .i64 (n31 + (1 : Int))))], j7.2))
else
some (4, [], h)) : Option (Nat × Slots × AH)) := by kernel_rfl
theorem B14_0_eq (base : Nat) (v3 : Option Addr) (v3n : Nat) (v4 : Addr) (v5 : Option Addr) (v5n : Nat) (v9 : Int) (h : AH) : B14_0 base [some (.slice v3 v3n v3n), some (.pointer (some v4)), some (.slice v5 v5n v5n), some (.int .i64 v9)] h =
(((if (decide (v9 < ((v3n : Nat) : Int))) = true then
(if 0 ≤ v9 ∧ v9 < ((v3n : Nat) : Int) then
((v3 : Option Addr)).bind fun a2 =>
((cell h a2.block ((a2.off + Int.toNat v9 * 6) + 0)).bind (getI .i64)).bind fun n3 =>
((cell h v4.block (v4.off + 0)).bind (getI .i64)).bind fun n4 =>
some (.inl ([some (.slice v3 v3n v3n), some (.pointer (some v4)), some (.slice v5 v5n v5n), some (.int .i64 v9), some (.bool (decide (n3 ≤ n4)))], h))
else none)
else
some (.inl ([some (.slice v3 v3n v3n), some (.pointer (some v4)), some (.slice v5 v5n v5n), some (.int .i64 v9), some (.bool false)], h)))).bind fun j1 => joinK j1 fun j1 =>
((sget j1.1 0).bind getS).bind fun l5 =>
((sget (j1.1.tail) 0).bind getA).bind fun d6 =>
((sget (j1.1.tail.tail) 0).bind getS).bind fun l7 =>
((sget (j1.1.tail.tail.tail) 0).bind (getI .i64)).bind fun n8 =>
((sget (j1.1.tail.tail.tail.tail) 0).bind getB).bind fun b9 =>
(if b9 = true then
some (0, [some (.slice l5.1 l5.2 l5.2), some (.pointer (some d6)), some (.slice l7.1 l7.2 l7.2), some (.int .i64 (IntKind.wrap .i64 (n8 + (1 : Int))))], j1.2)
else
some (2, [some (.slice l5.1 l5.2 l5.2), some (.pointer (some d6)), some (.slice l7.1 l7.2 l7.2), some (.int .i64 n8)], j1.2)) : Option (Nat × Slots × AH)) := by kernel_rfl
theorem f14_eq (base : Nat) (v0 : Option Addr) (v0n : Nat) (h : AH) : exFun (Et base) (run (Et base)) loopL a14 Try.f14 [(.slice v0 v0n v0n)] h =
((run (Et base) 32 [(.slice v0 v0n v0n)] h).bind fun r1 =>
((some r1.1).bind getB).bind fun b2 =>
(if b2 = true then
some ((.bool true), r1.2)
else
(run (Et base) 57 [(.slice v0 v0n v0n)] r1.2).bind fun r3 =>
(getTup 2 r3.1).bind fun l4 =>
((l4[0]?).bind getS).bind fun l5 =>
((l4[1]?).bind (getAgg 6)).bind fun l6 =>
((l6[0]?).bind (getI .i64)).bind fun n7 =>
((l6[1]?).bind (getI .i64)).bind fun n8 =>
((l6[2]?).bind (getI .i64)).bind fun n9 =>
((l6[3]?).bind (getI .i64)).bind fun n10 =>
((l6[4]?).bind getStr).bind fun s11 =>
((l6[5]?).bind getS).bind fun l12 =>
(some (r3.2 ++ [some ⟨[(.int .i64 0), (.int .i64 0), (.int .i64 0), (.int .i64 0), (.string ⟨#[]⟩), (.slice none 0 0)], 70⟩])).bind fun h13 =>
(wr base h13 (List.length r3.2) 0 [(.int .i64 n7), (.int .i64 n8), (.int .i64 n9), (.int .i64 n10), (.string s11), (.slice l12.1 l12.2 l12.2)]).bind fun h14 =>
((cell h14 (List.length r3.2) 0).bind (getI .i64)).bind fun n15 =>
((cell h14 (List.length r3.2) 1).bind (getI .i64)).bind fun n16 =>
((cell h14 (List.length r3.2) 2).bind (getI .i64)).bind fun n17 =>
((cell h14 (List.length r3.2) 3).bind (getI .i64)).bind fun n18 =>
((cell h14 (List.length r3.2) 4).bind getStr).bind fun s19 =>
((cell h14 (List.length r3.2) 5).bind getS).bind fun l20 =>
(run (Et base) 58 [(.slice l5.1 l5.2 l5.2), (.agg #[(.int .i64 n15), (.int .i64 n16), (.int .i64 n17), (.int .i64 n18), (.string s19), (.slice l20.1 l20.2 l20.2)])] h14).bind fun r21 =>
(getTup 2 r21.1).bind fun l22 =>
((l22[0]?).bind getS).bind fun l23 =>
((l22[1]?).bind getB).bind fun b24 =>
((cell r21.2 (List.length r3.2) 0).bind (getI .i64)).bind fun n25 =>
((cell r21.2 (List.length r3.2) 1).bind (getI .i64)).bind fun n26 =>
((cell r21.2 (List.length r3.2) 2).bind (getI .i64)).bind fun n27 =>
((cell r21.2 (List.length r3.2) 3).bind (getI .i64)).bind fun n28 =>
((cell r21.2 (List.length r3.2) 4).bind getStr).bind fun s29 =>
((cell r21.2 (List.length r3.2) 5).bind getS).bind fun l30 =>
(run (Et base) 59 [(.slice l5.1 l5.2 l5.2), (.agg #[(.int .i64 n25), (.int .i64 n26), (.int .i64 n27), (.int .i64 n28), (.string s29), (.slice l30.1 l30.2 l30.2)])] r21.2).bind fun r31 =>
(getTup 2 r31.1).bind fun l32 =>
((l32[0]?).bind getS).bind fun l33 =>
((l32[1]?).bind getB).bind fun b34 =>
((if (!(b24 == b34)) = true then
some (.inl ([some (.slice l5.1 l5.2 l5.2), some (.pointer (some ⟨(List.length r3.2), 0, none⟩)), some (.slice l23.1 l23.2 l23.2), some (.bool b24), some (.bool b34), some (.bool true)], r31.2))
else
some (.inl ([some (.slice l5.1 l5.2 l5.2), some (.pointer (some ⟨(List.length r3.2), 0, none⟩)), some (.slice l23.1 l23.2 l23.2), some (.bool b24), some (.bool b34), some (.bool (!b24))], r31.2)))).bind fun j35 => joinK j35 fun j35 =>
((sget j35.1 0).bind getS).bind fun l36 =>
((sget (j35.1.tail) 0).bind getA).bind fun d37 =>
((sget (j35.1.tail.tail) 0).bind getS).bind fun l38 =>
((sget (j35.1.tail.tail.tail) 0).bind getB).bind fun b39 =>
((sget (j35.1.tail.tail.tail.tail) 0).bind getB).bind fun b40 =>
((sget (j35.1.tail.tail.tail.tail.tail) 0).bind getB).bind fun b41 =>
(if b41 = true then
(if (b39 == b40) = true then
some ((.bool (((l38.2 : Nat) : Int) == ((l36.2 : Nat) : Int))), j35.2)
else
some ((.bool false), j35.2))
else
(loopL (B14_0 base) [some (.slice l36.1 l36.2 l36.2), some (.pointer (some d37)), some (.slice l38.1 l38.2 l38.2), some (.int .i64 (0 : Int))] j35.2).bind fun q42 =>
(if q42.1 = 2 then
((sget q42.2.1 0).bind getS).bind fun l43 =>
((sget (q42.2.1.tail) 0).bind getA).bind fun d44 =>
((sget (q42.2.1.tail.tail) 0).bind getS).bind fun l45 =>
((sget (q42.2.1.tail.tail.tail) 0).bind (getI .i64)).bind fun n46 =>
((if (((l45.2 : Nat) : Int) != (IntKind.wrap .i64 (((l43.2 : Nat) : Int) + (1 : Int)))) = true then
some (.inl ([some (.slice l43.1 l43.2 l43.2), some (.slice l45.1 l45.2 l45.2), some (.int .i64 n46), some (.bool true)], q42.2.2))
else
(if 0 ≤ n46 ∧ n46 < ((l45.2 : Nat) : Int) then
((l45.1 : Option Addr)).bind fun a48 =>
((cell q42.2.2 a48.block ((a48.off + Int.toNat n46 * 6) + 0)).bind (getI .i64)).bind fun n49 =>
((cell q42.2.2 d44.block (d44.off + 0)).bind (getI .i64)).bind fun n50 =>
(if (n49 != n50) = true then
some (.inl ([some (.slice l43.1 l43.2 l43.2), some (.slice l45.1 l45.2 l45.2), some (.int .i64 n46), some (.bool true)], q42.2.2))
else
(if 0 ≤ n46 ∧ n46 < ((l45.2 : Nat) : Int) then
((l45.1 : Option Addr)).bind fun a51 =>
((cell q42.2.2 a51.block ((a51.off + Int.toNat n46 * 6) + 1)).bind (getI .i64)).bind fun n52 =>
((cell q42.2.2 d44.block (d44.off + 1)).bind (getI .i64)).bind fun n53 =>
(if (n52 != n53) = true then
some (.inl ([some (.slice l43.1 l43.2 l43.2), some (.slice l45.1 l45.2 l45.2), some (.int .i64 n46), some (.bool true)], q42.2.2))
else
(if 0 ≤ n46 ∧ n46 < ((l45.2 : Nat) : Int) then
((l45.1 : Option Addr)).bind fun a54 =>
((cell q42.2.2 a54.block ((a54.off + Int.toNat n46 * 6) + 2)).bind (getI .i64)).bind fun n55 =>
((cell q42.2.2 a54.block (((a54.off + Int.toNat n46 * 6) + 2) + 1)).bind (getI .i64)).bind fun n56 =>
((cell q42.2.2 a54.block ((((a54.off + Int.toNat n46 * 6) + 2) + 1) + 1)).bind getStr).bind fun s57 =>
((cell q42.2.2 a54.block (((((a54.off + Int.toNat n46 * 6) + 2) + 1) + 1) + 1)).bind getS).bind fun l58 =>
((cell q42.2.2 d44.block (d44.off + 2)).bind (getI .i64)).bind fun n59 =>
((cell q42.2.2 d44.block ((d44.off + 2) + 1)).bind (getI .i64)).bind fun n60 =>
((cell q42.2.2 d44.block (((d44.off + 2) + 1) + 1)).bind getStr).bind fun s61 =>
((cell q42.2.2 d44.block ((((d44.off + 2) + 1) + 1) + 1)).bind getS).bind fun l62 =>
(run (Et base) 55 [(.agg #[(.int .i64 n55), (.int .i64 n56), (.string s57), (.slice l58.1 l58.2 l58.2)]), (.agg #[(.int .i64 n59), (.int .i64 n60), (.string s61), (.slice l62.1 l62.2 l62.2)])] q42.2.2).bind fun r63 =>
((some r63.1).bind getB).bind fun b64 =>
(if (!b64) = true then
some (.inl ([some (.slice l43.1 l43.2 l43.2), some (.slice l45.1 l45.2 l45.2), some (.int .i64 n46), some (.bool true)], r63.2))
else
(run (Et base) 45 [(.slice l45.1 l45.2 l45.2)] r63.2).bind fun r65 =>
((some r65.1).bind getB).bind fun b66 =>
some (.inl ([some (.slice l43.1 l43.2 l43.2), some (.slice l45.1 l45.2 l45.2), some (.int .i64 n46), some (.bool (!b66))], r65.2)))
else none))
else none))
else none))).bind fun j47 => joinK j47 fun j47 =>
((sget j47.1 0).bind getS).bind fun l67 =>
((sget (j47.1.tail) 0).bind getS).bind fun l68 =>
((sget (j47.1.tail.tail) 0).bind (getI .i64)).bind fun n69 =>
((sget (j47.1.tail.tail.tail) 0).bind getB).bind fun b70 =>
(if b70 = true then
some ((.bool false), j47.2)
else
(loopL (B14_1 base) [some (.slice l67.1 l67.2 l67.2), some (.slice l68.1 l68.2 l68.2), some (.int .i64 n69), some (.int .i64 (0 : Int))] j47.2).bind fun q71 =>
(if q71.1 = 1 then
((sget q71.2.1 0).bind getB).bind fun b72 =>
some ((.bool b72), q71.2.2)
else
(if q71.1 = 4 then
some ((.bool true), q71.2.2)
else
none)))
else
none))) : Option (Value × AH)) := by kernel_rfl
theorem r14 {base : Nat} {v0 : Option Addr} {v0n : Nat} {h : AH} {r : Value × AH} (hx :
((run (Et base) 32 [(.slice v0 v0n v0n)] h).bind fun r1 =>
((some r1.1).bind getB).bind fun b2 =>
(if b2 = true then
some ((.bool true), r1.2)
else
(run (Et base) 57 [(.slice v0 v0n v0n)] r1.2).bind fun r3 =>
(getTup 2 r3.1).bind fun l4 =>
((l4[0]?).bind getS).bind fun l5 =>
((l4[1]?).bind (getAgg 6)).bind fun l6 =>
((l6[0]?).bind (getI .i64)).bind fun n7 =>
((l6[1]?).bind (getI .i64)).bind fun n8 =>
((l6[2]?).bind (getI .i64)).bind fun n9 =>
((l6[3]?).bind (getI .i64)).bind fun n10 =>
((l6[4]?).bind getStr).bind fun s11 =>
((l6[5]?).bind getS).bind fun l12 =>
(some (r3.2 ++ [some ⟨[(.int .i64 0), (.int .i64 0), (.int .i64 0), (.int .i64 0), (.string ⟨#[]⟩), (.slice none 0 0)], 70⟩])).bind fun h13 =>
(wr base h13 (List.length r3.2) 0 [(.int .i64 n7), (.int .i64 n8), (.int .i64 n9), (.int .i64 n10), (.string s11), (.slice l12.1 l12.2 l12.2)]).bind fun h14 =>
((cell h14 (List.length r3.2) 0).bind (getI .i64)).bind fun n15 =>
((cell h14 (List.length r3.2) 1).bind (getI .i64)).bind fun n16 =>
((cell h14 (List.length r3.2) 2).bind (getI .i64)).bind fun n17 =>
((cell h14 (List.length r3.2) 3).bind (getI .i64)).bind fun n18 =>
((cell h14 (List.length r3.2) 4).bind getStr).bind fun s19 =>
((cell h14 (List.length r3.2) 5).bind getS).bind fun l20 =>
(run (Et base) 58 [(.slice l5.1 l5.2 l5.2), (.agg #[(.int .i64 n15), (.int .i64 n16), (.int .i64 n17), (.int .i64 n18), (.string s19), (.slice l20.1 l20.2 l20.2)])] h14).bind fun r21 =>
(getTup 2 r21.1).bind fun l22 =>
((l22[0]?).bind getS).bind fun l23 =>
((l22[1]?).bind getB).bind fun b24 =>
((cell r21.2 (List.length r3.2) 0).bind (getI .i64)).bind fun n25 =>
((cell r21.2 (List.length r3.2) 1).bind (getI .i64)).bind fun n26 =>
((cell r21.2 (List.length r3.2) 2).bind (getI .i64)).bind fun n27 =>
((cell r21.2 (List.length r3.2) 3).bind (getI .i64)).bind fun n28 =>
((cell r21.2 (List.length r3.2) 4).bind getStr).bind fun s29 =>
((cell r21.2 (List.length r3.2) 5).bind getS).bind fun l30 =>
(run (Et base) 59 [(.slice l5.1 l5.2 l5.2), (.agg #[(.int .i64 n25), (.int .i64 n26), (.int .i64 n27), (.int .i64 n28), (.string s29), (.slice l30.1 l30.2 l30.2)])] r21.2).bind fun r31 =>
(getTup 2 r31.1).bind fun l32 =>
((l32[0]?).bind getS).bind fun l33 =>
((l32[1]?).bind getB).bind fun b34 =>
((if (!(b24 == b34)) = true then
some (.inl ([some (.slice l5.1 l5.2 l5.2), some (.pointer (some ⟨(List.length r3.2), 0, none⟩)), some (.slice l23.1 l23.2 l23.2), some (.bool b24), some (.bool b34), some (.bool true)], r31.2))
else
some (.inl ([some (.slice l5.1 l5.2 l5.2), some (.pointer (some ⟨(List.length r3.2), 0, none⟩)), some (.slice l23.1 l23.2 l23.2), some (.bool b24), some (.bool b34), some (.bool (!b24))], r31.2)))).bind fun j35 => joinK j35 fun j35 =>
((sget j35.1 0).bind getS).bind fun l36 =>
((sget (j35.1.tail) 0).bind getA).bind fun d37 =>
((sget (j35.1.tail.tail) 0).bind getS).bind fun l38 =>
((sget (j35.1.tail.tail.tail) 0).bind getB).bind fun b39 =>
((sget (j35.1.tail.tail.tail.tail) 0).bind getB).bind fun b40 =>
((sget (j35.1.tail.tail.tail.tail.tail) 0).bind getB).bind fun b41 =>
(if b41 = true then
(if (b39 == b40) = true then
some ((.bool (((l38.2 : Nat) : Int) == ((l36.2 : Nat) : Int))), j35.2)
else
some ((.bool false), j35.2))
else
(loopL (B14_0 base) [some (.slice l36.1 l36.2 l36.2), some (.pointer (some d37)), some (.slice l38.1 l38.2 l38.2), some (.int .i64 (0 : Int))] j35.2).bind fun q42 =>
(if q42.1 = 2 then
((sget q42.2.1 0).bind getS).bind fun l43 =>
((sget (q42.2.1.tail) 0).bind getA).bind fun d44 =>
((sget (q42.2.1.tail.tail) 0).bind getS).bind fun l45 =>
((sget (q42.2.1.tail.tail.tail) 0).bind (getI .i64)).bind fun n46 =>
((if (((l45.2 : Nat) : Int) != (IntKind.wrap .i64 (((l43.2 : Nat) : Int) + (1 : Int)))) = true then
some (.inl ([some (.slice l43.1 l43.2 l43.2), some (.slice l45.1 l45.2 l45.2), some (.int .i64 n46), some (.bool true)], q42.2.2))
else
(if 0 ≤ n46 ∧ n46 < ((l45.2 : Nat) : Int) then
((l45.1 : Option Addr)).bind fun a48 =>
((cell q42.2.2 a48.block ((a48.off + Int.toNat n46 * 6) + 0)).bind (getI .i64)).bind fun n49 =>
((cell q42.2.2 d44.block (d44.off + 0)).bind (getI .i64)).bind fun n50 =>
(if (n49 != n50) = true then
some (.inl ([some (.slice l43.1 l43.2 l43.2), some (.slice l45.1 l45.2 l45.2), some (.int .i64 n46), some (.bool true)], q42.2.2))
else
(if 0 ≤ n46 ∧ n46 < ((l45.2 : Nat) : Int) then
((l45.1 : Option Addr)).bind fun a51 =>
((cell q42.2.2 a51.block ((a51.off + Int.toNat n46 * 6) + 1)).bind (getI .i64)).bind fun n52 =>
((cell q42.2.2 d44.block (d44.off + 1)).bind (getI .i64)).bind fun n53 =>
(if (n52 != n53) = true then
some (.inl ([some (.slice l43.1 l43.2 l43.2), some (.slice l45.1 l45.2 l45.2), some (.int .i64 n46), some (.bool true)], q42.2.2))
else
(if 0 ≤ n46 ∧ n46 < ((l45.2 : Nat) : Int) then
((l45.1 : Option Addr)).bind fun a54 =>
((cell q42.2.2 a54.block ((a54.off + Int.toNat n46 * 6) + 2)).bind (getI .i64)).bind fun n55 =>
((cell q42.2.2 a54.block (((a54.off + Int.toNat n46 * 6) + 2) + 1)).bind (getI .i64)).bind fun n56 =>
((cell q42.2.2 a54.block ((((a54.off + Int.toNat n46 * 6) + 2) + 1) + 1)).bind getStr).bind fun s57 =>
((cell q42.2.2 a54.block (((((a54.off + Int.toNat n46 * 6) + 2) + 1) + 1) + 1)).bind getS).bind fun l58 =>
((cell q42.2.2 d44.block (d44.off + 2)).bind (getI .i64)).bind fun n59 =>
((cell q42.2.2 d44.block ((d44.off + 2) + 1)).bind (getI .i64)).bind fun n60 =>
((cell q42.2.2 d44.block (((d44.off + 2) + 1) + 1)).bind getStr).bind fun s61 =>
((cell q42.2.2 d44.block ((((d44.off + 2) + 1) + 1) + 1)).bind getS).bind fun l62 =>
(run (Et base) 55 [(.agg #[(.int .i64 n55), (.int .i64 n56), (.string s57), (.slice l58.1 l58.2 l58.2)]), (.agg #[(.int .i64 n59), (.int .i64 n60), (.string s61), (.slice l62.1 l62.2 l62.2)])] q42.2.2).bind fun r63 =>
((some r63.1).bind getB).bind fun b64 =>
(if (!b64) = true then
some (.inl ([some (.slice l43.1 l43.2 l43.2), some (.slice l45.1 l45.2 l45.2), some (.int .i64 n46), some (.bool true)], r63.2))
else
(run (Et base) 45 [(.slice l45.1 l45.2 l45.2)] r63.2).bind fun r65 =>
((some r65.1).bind getB).bind fun b66 =>
some (.inl ([some (.slice l43.1 l43.2 l43.2), some (.slice l45.1 l45.2 l45.2), some (.int .i64 n46), some (.bool (!b66))], r65.2)))
else none))
else none))
else none))).bind fun j47 => joinK j47 fun j47 =>
((sget j47.1 0).bind getS).bind fun l67 =>
((sget (j47.1.tail) 0).bind getS).bind fun l68 =>
((sget (j47.1.tail.tail) 0).bind (getI .i64)).bind fun n69 =>
((sget (j47.1.tail.tail.tail) 0).bind getB).bind fun b70 =>
(if b70 = true then
some ((.bool false), j47.2)
else
(loopL (B14_1 base) [some (.slice l67.1 l67.2 l67.2), some (.slice l68.1 l68.2 l68.2), some (.int .i64 n69), some (.int .i64 (0 : Int))] j47.2).bind fun q71 =>
(if q71.1 = 1 then
((sget q71.2.1 0).bind getB).bind fun b72 =>
some ((.bool b72), q71.2.2)
else
(if q71.1 = 4 then
some ((.bool true), q71.2.2)
else
none)))
else
none)))) = some r) : run (Et base) 14 [(.slice v0 v0n v0n)] h = some r := run_i Try.func14 (by kernel_rfl) ((f14_eq base v0 v0n h).trans hx)
/-! laws.szTimerS (gates 0) -/
noncomputable def B42_0 (base : Nat) : Body := fun l h => lay s42_0 l fun s => exCode (Et base) (run (Et base)) loopL a42_0 (subC [1, 1, 1, 0, 1, 0, 0] (bodyC Try.f42)) s h (keepK s42_0 e42_0)
theorem B42_0_eq (base : Nat) (v0 : Option Addr) (v0n : Nat) (v1 : Int) (v5 : Int) (h : AH) : B42_0 base [some (.slice v0 v0n v0n), some (.int .i64 v1), some (.int .i64 v5)] h =
((if (decide (v5 < ((v0n : Nat) : Int))) = true then
(if 0 ≤ v5 ∧ v5 < ((v0n : Nat) : Int) then
((v0 : Option Addr)).bind fun a1 =>
((cell h a1.block (a1.off + Int.toNat v5 * 6)).bind (getI .i64)).bind fun n2 =>
((cell h a1.block ((a1.off + Int.toNat v5 * 6) + 1)).bind (getI .i64)).bind fun n3 =>
((cell h a1.block (((a1.off + Int.toNat v5 * 6) + 1) + 1)).bind (getI .i64)).bind fun n4 =>
((cell h a1.block ((((a1.off + Int.toNat v5 * 6) + 1) + 1) + 1)).bind (getI .i64)).bind fun n5 =>
((cell h a1.block (((((a1.off + Int.toNat v5 * 6) + 1) + 1) + 1) + 1)).bind getStr).bind fun s6 =>
((cell h a1.block ((((((a1.off + Int.toNat v5 * 6) + 1) + 1) + 1) + 1) + 1)).bind getS).bind fun l7 =>
(run (Et base) 78 [(.agg #[(.int .i64 n2), (.int .i64 n3), (.int .i64 n4), (.int .i64 n5), (.string s6), (.slice l7.1 l7.2 l7.2)]), (.int .i64 v1)] h).bind fun r8 =>
((some r8.1).bind (getI .i64)).bind fun n9 =>
(if (decide (n9 < (0 : Int))) = true then
some (1, [some (.int .i64 (-1 : Int))], r8.2)
else
some (0, [some (.slice v0 v0n v0n), some (.int .i64 n9), some (.int .i64 (IntKind.wrap .i64 (v5 + (1 : Int))))], r8.2))
else none)
else
some (2, [some (.int .i64 v1)], h)) : Option (Nat × Slots × AH)) := by kernel_rfl
theorem f42_eq (base : Nat) (v0 : Option Addr) (v0n : Nat) (v1 : Int) (h : AH) : exFun (Et base) (run (Et base)) loopL a42 Try.f42 [(.slice v0 v0n v0n), (.int .i64 v1)] h =
((if (decide ((IntKind.wrap .i64 (v1 - ((v0n : Nat) : Int))) < (0 : Int))) = true then
some ((.int .i64 (-1 : Int)), h)
else
(loopL (B42_0 base) [some (.slice v0 v0n v0n), some (.int .i64 (IntKind.wrap .i64 (v1 - ((v0n : Nat) : Int)))), some (.int .i64 (0 : Int))] h).bind fun q1 =>
(if q1.1 = 1 then
((sget q1.2.1 0).bind (getI .i64)).bind fun n2 =>
some ((.int .i64 n2), q1.2.2)
else
(if q1.1 = 2 then
((sget q1.2.1 0).bind (getI .i64)).bind fun n3 =>
some ((.int .i64 n3), q1.2.2)
else
none))) : Option (Value × AH)) := by kernel_rfl
theorem r42 {base : Nat} {v0 : Option Addr} {v0n : Nat} {v1 : Int} {h : AH} {r : Value × AH} (hx :
((if (decide ((IntKind.wrap .i64 (v1 - ((v0n : Nat) : Int))) < (0 : Int))) = true then
some ((.int .i64 (-1 : Int)), h)
else
(loopL (B42_0 base) [some (.slice v0 v0n v0n), some (.int .i64 (IntKind.wrap .i64 (v1 - ((v0n : Nat) : Int)))), some (.int .i64 (0 : Int))] h).bind fun q1 =>
(if q1.1 = 1 then
((sget q1.2.1 0).bind (getI .i64)).bind fun n2 =>
some ((.int .i64 n2), q1.2.2)
else
(if q1.1 = 2 then
((sget q1.2.1 0).bind (getI .i64)).bind fun n3 =>
some ((.int .i64 n3), q1.2.2)
else
none)))) = some r) : run (Et base) 42 [(.slice v0 v0n v0n), (.int .i64 v1)] h = some r := run_i Try.func42 (by kernel_rfl) ((f42_eq base v0 v0n v1 h).trans hx)
/-! spec.TimersOk (gates 0) -/
noncomputable def B43_0 (base : Nat) : Body := fun l h => lay s43_0 l fun s => exCode (Et base) (run (Et base)) loopL a43_0 (subC [1, 0, 1, 0, 0] (bodyC Try.f43)) s h (keepK s43_0 e43_0)
theorem B43_0_eq (base : Nat) (v0 : Option Addr) (v0n : Nat) (v3 : Int) (h : AH) : B43_0 base [some (.slice v0 v0n v0n), some (.int .i64 v3)] h =
((if (decide (v3 < ((v0n : Nat) : Int))) = true then
((if 0 ≤ v3 ∧ v3 < ((v0n : Nat) : Int) then
((v0 : Option Addr)).bind fun a2 =>
((cell h a2.block (a2.off + Int.toNat v3 * 6)).bind (getI .i64)).bind fun n3 =>
((cell h a2.block ((a2.off + Int.toNat v3 * 6) + 1)).bind (getI .i64)).bind fun n4 =>
((cell h a2.block (((a2.off + Int.toNat v3 * 6) + 1) + 1)).bind (getI .i64)).bind fun n5 =>
((cell h a2.block ((((a2.off + Int.toNat v3 * 6) + 1) + 1) + 1)).bind (getI .i64)).bind fun n6 =>
((cell h a2.block (((((a2.off + Int.toNat v3 * 6) + 1) + 1) + 1) + 1)).bind getStr).bind fun s7 =>
((cell h a2.block ((((((a2.off + Int.toNat v3 * 6) + 1) + 1) + 1) + 1) + 1)).bind getS).bind fun l8 =>
(run (Et base) 79 [(.agg #[(.int .i64 n3), (.int .i64 n4), (.int .i64 n5), (.int .i64 n6), (.string s7), (.slice l8.1 l8.2 l8.2)])] h).bind fun r9 =>
((some r9.1).bind getB).bind fun b10 =>
(if (!b10) = true then
some (.inl ([some (.slice v0 v0n v0n), some (.int .i64 v3), some (.bool true)], r9.2))
else
(if (decide (v3 > (0 : Int))) = true then
(if 0 ≤ (IntKind.wrap .i64 (v3 - (1 : Int))) ∧ (IntKind.wrap .i64 (v3 - (1 : Int))) < ((v0n : Nat) : Int) then
((v0 : Option Addr)).bind fun a11 =>
((cell r9.2 a11.block ((a11.off + Int.toNat (IntKind.wrap .i64 (v3 - (1 : Int))) * 6) + 0)).bind (getI .i64)).bind fun n12 =>
(if 0 ≤ v3 ∧ v3 < ((v0n : Nat) : Int) then
((v0 : Option Addr)).bind fun a13 =>
((cell r9.2 a13.block ((a13.off + Int.toNat v3 * 6) + 0)).bind (getI .i64)).bind fun n14 =>
some (.inl ([some (.slice v0 v0n v0n), some (.int .i64 v3), some (.bool (decide (n12 > n14)))], r9.2))
else none)
else none)
else
some (.inl ([some (.slice v0 v0n v0n), some (.int .i64 v3), some (.bool false)], r9.2))))
else none)).bind fun j1 => joinK j1 fun j1 =>
((sget j1.1 0).bind getS).bind fun l15 =>
((sget (j1.1.tail) 0).bind (getI .i64)).bind fun n16 =>
((sget (j1.1.tail.tail) 0).bind getB).bind fun b17 =>
(if b17 = true then
some (1, [some (.bool false)], j1.2)
else
some (0, [some (.slice l15.1 l15.2 l15.2), some (.int .i64 (IntKind.wrap .i64 (n16 + (1 : Int))))], j1.2))
else
some (2, [some (.slice v0 v0n v0n)], h)) : Option (Nat × Slots × AH)) := by kernel_rfl
theorem f43_eq (base : Nat) (v0 : Option Addr) (v0n : Nat) (h : AH) : exFun (Et base) (run (Et base)) loopL a43 Try.f43 [(.slice v0 v0n v0n)] h =
((loopL (B43_0 base) [some (.slice v0 v0n v0n), some (.int .i64 (0 : Int))] h).bind fun q1 =>
(if q1.1 = 1 then
((sget q1.2.1 0).bind getB).bind fun b2 =>
some ((.bool b2), q1.2.2)
else
(if q1.1 = 2 then
((sget q1.2.1 0).bind getS).bind fun l3 =>
some ((.bool (decide (((l3.2 : Nat) : Int) ≤ (50 : Int)))), q1.2.2)
else
none)) : Option (Value × AH)) := by kernel_rfl
theorem r43 {base : Nat} {v0 : Option Addr} {v0n : Nat} {h : AH} {r : Value × AH} (hx :
((loopL (B43_0 base) [some (.slice v0 v0n v0n), some (.int .i64 (0 : Int))] h).bind fun q1 =>
(if q1.1 = 1 then
((sget q1.2.1 0).bind getB).bind fun b2 =>
some ((.bool b2), q1.2.2)
else
(if q1.1 = 2 then
((sget q1.2.1 0).bind getS).bind fun l3 =>
some ((.bool (decide (((l3.2 : Nat) : Int) ≤ (50 : Int)))), q1.2.2)
else
none))) = some r) : run (Et base) 43 [(.slice v0 v0n v0n)] h = some r := run_i Try.func43 (by kernel_rfl) ((f43_eq base v0 v0n h).trans hx)
/-! laws.toTimerS (gates 0) -/
noncomputable def B44_0 (base : Nat) : Body := fun l h => lay s44_0 l fun s => exCode (Et base) (run (Et base)) loopL a44_0 (subC [1, 1, 0, 1, 0, 0] (bodyC Try.f44)) s h (keepK s44_0 e44_0)
theorem B44_0_eq (base : Nat) (v0 : Option Addr) (v0n : Nat) (v3 : Option Addr) (v3n : Nat) (v4 : Int) (h : AH) : B44_0 base [some (.slice v0 v0n v0n), some (.slice v3 v3n v3n), some (.int .i64 v4)] h =
((if (decide (v4 < ((v0n : Nat) : Int))) = true then
(if 0 ≤ v4 ∧ v4 < ((v0n : Nat) : Int) then
((v0 : Option Addr)).bind fun a1 =>
((cell h a1.block (a1.off + Int.toNat v4 * 6)).bind (getI .i64)).bind fun n2 =>
((cell h a1.block ((a1.off + Int.toNat v4 * 6) + 1)).bind (getI .i64)).bind fun n3 =>
((cell h a1.block (((a1.off + Int.toNat v4 * 6) + 1) + 1)).bind (getI .i64)).bind fun n4 =>
((cell h a1.block ((((a1.off + Int.toNat v4 * 6) + 1) + 1) + 1)).bind (getI .i64)).bind fun n5 =>
((cell h a1.block (((((a1.off + Int.toNat v4 * 6) + 1) + 1) + 1) + 1)).bind getStr).bind fun s6 =>
((cell h a1.block ((((((a1.off + Int.toNat v4 * 6) + 1) + 1) + 1) + 1) + 1)).bind getS).bind fun l7 =>
(run (Et base) 80 [(.agg #[(.int .i64 n2), (.int .i64 n3), (.int .i64 n4), (.int .i64 n5), (.string s6), (.slice l7.1 l7.2 l7.2)])] h).bind fun r8 =>
((some r8.1).bind (getAgg 6)).bind fun l9 =>
((l9[0]?).bind (getI .i64)).bind fun n10 =>
((l9[1]?).bind (getI .i64)).bind fun n11 =>
((l9[2]?).bind (getI .i64)).bind fun n12 =>
((l9[3]?).bind (getI .i64)).bind fun n13 =>
((l9[4]?).bind getStr).bind fun s14 =>
((l9[5]?).bind getS).bind fun l15 =>
(if 0 ≤ v4 ∧ v4 < ((v3n : Nat) : Int) then
((v3 : Option Addr)).bind fun a16 =>
(wr base r8.2 a16.block (a16.off + Int.toNat v4 * 6) [(.int .i64 n10), (.int .i64 n11), (.int .i64 n12), (.int .i64 n13), (.string s14), (.slice l15.1 l15.2 l15.2)]).bind fun h17 =>
some (0, [some (.slice v0 v0n v0n), some (.slice v3 v3n v3n), some (.int .i64 (IntKind.wrap .i64 (v4 + (1 : Int))))], h17)
else none)
else none)
else
some (2, [some (.slice v3 v3n v3n)], h)) : Option (Nat × Slots × AH)) := by kernel_rfl
theorem f44_eq (base : Nat) (v0 : Option Addr) (v0n : Nat) (h : AH) : exFun (Et base) (run (Et base)) loopL a44 Try.f44 [(.slice v0 v0n v0n)] h =
((if ((v0n : Nat) : Int) = ((v0n : Nat) : Int) ∧ 0 ≤ ((v0n : Nat) : Int) ∧ ((v0n : Nat) : Int) * 72 ≤ 140737488355328 ∧ ((v0n : Nat) : Int) ≤ 140737488355328 then
(some (h ++ [some ⟨rep [(.int .i64 0), (.int .i64 0), (.int .i64 0), (.int .i64 0), (.string ⟨#[]⟩), (.slice none 0 0)] (Int.toNat ((v0n : Nat) : Int)), 70⟩])).bind fun h1 =>
(loopL (B44_0 base) [some (.slice v0 v0n v0n), some (.slice (some ⟨(List.length h), 0, none⟩) (Int.toNat ((v0n : Nat) : Int)) (Int.toNat ((v0n : Nat) : Int))), some (.int .i64 (0 : Int))] h1).bind fun q2 =>
(if q2.1 = 2 then
((sget q2.2.1 0).bind getS).bind fun l3 =>
some ((.slice l3.1 l3.2 l3.2), q2.2.2)
else
none)
else none) : Option (Value × AH)) := by kernel_rfl
theorem r44 {base : Nat} {v0 : Option Addr} {v0n : Nat} {h : AH} {r : Value × AH} (hx :
((if ((v0n : Nat) : Int) = ((v0n : Nat) : Int) ∧ 0 ≤ ((v0n : Nat) : Int) ∧ ((v0n : Nat) : Int) * 72 ≤ 140737488355328 ∧ ((v0n : Nat) : Int) ≤ 140737488355328 then
(some (h ++ [some ⟨rep [(.int .i64 0), (.int .i64 0), (.int .i64 0), (.int .i64 0), (.string ⟨#[]⟩), (.slice none 0 0)] (Int.toNat ((v0n : Nat) : Int)), 70⟩])).bind fun h1 =>
(loopL (B44_0 base) [some (.slice v0 v0n v0n), some (.slice (some ⟨(List.length h), 0, none⟩) (Int.toNat ((v0n : Nat) : Int)) (Int.toNat ((v0n : Nat) : Int))), some (.int .i64 (0 : Int))] h1).bind fun q2 =>
(if q2.1 = 2 then
((sget q2.2.1 0).bind getS).bind fun l3 =>
some ((.slice l3.1 l3.2 l3.2), q2.2.2)
else
none)
else none)) = some r) : run (Et base) 44 [(.slice v0 v0n v0n)] h = some r := run_i Try.func44 (by kernel_rfl) ((f44_eq base v0 v0n h).trans hx)
/-! impl.TimersOk (gates 0) -/
noncomputable def B45_0 (base : Nat) : Body := fun l h => lay s45_0 l fun s => exCode (Et base) (run (Et base)) loopL a45_0 (subC [1, 0, 1, 0, 0] (bodyC Try.f45)) s h (keepK s45_0 e45_0)
theorem B45_0_eq (base : Nat) (v0 : Option Addr) (v0n : Nat) (v5 : Option Addr) (v5n : Nat) (v6 : Int) (v7 : Int) (h : AH) : B45_0 base [some (.slice v0 v0n v0n), some (.slice v5 v5n v5n), some (.int .i64 v6), some (.int .i64 v7)] h =
((if (decide (v7 < v6)) = true then
(if 0 ≤ v7 ∧ v7 < ((v5n : Nat) : Int) then
((v5 : Option Addr)).bind fun a1 =>
((cell h a1.block (a1.off + Int.toNat v7 * 6)).bind (getI .i64)).bind fun n2 =>
((cell h a1.block ((a1.off + Int.toNat v7 * 6) + 1)).bind (getI .i64)).bind fun n3 =>
((cell h a1.block (((a1.off + Int.toNat v7 * 6) + 1) + 1)).bind (getI .i64)).bind fun n4 =>
((cell h a1.block ((((a1.off + Int.toNat v7 * 6) + 1) + 1) + 1)).bind (getI .i64)).bind fun n5 =>
((cell h a1.block (((((a1.off + Int.toNat v7 * 6) + 1) + 1) + 1) + 1)).bind getStr).bind fun s6 =>
((cell h a1.block ((((((a1.off + Int.toNat v7 * 6) + 1) + 1) + 1) + 1) + 1)).bind getS).bind fun l7 =>
(some (h ++ [some ⟨[(.int .i64 0), (.int .i64 0), (.int .i64 0), (.int .i64 0), (.string ⟨#[]⟩), (.slice none 0 0)], 70⟩])).bind fun h8 =>
(wr base h8 (List.length h) 0 [(.int .i64 n2), (.int .i64 n3), (.int .i64 n4), (.int .i64 n5), (.string s6), (.slice l7.1 l7.2 l7.2)]).bind fun h9 =>
(((cell h9 (List.length h) 0).bind (getI .i64)).bind fun n11 =>
((cell h9 (List.length h) 1).bind (getI .i64)).bind fun n12 =>
((cell h9 (List.length h) 2).bind (getI .i64)).bind fun n13 =>
((cell h9 (List.length h) 3).bind (getI .i64)).bind fun n14 =>
((cell h9 (List.length h) 4).bind getStr).bind fun s15 =>
((cell h9 (List.length h) 5).bind getS).bind fun l16 =>
(run (Et base) 81 [(.agg #[(.int .i64 n11), (.int .i64 n12), (.int .i64 n13), (.int .i64 n14), (.string s15), (.slice l16.1 l16.2 l16.2)])] h9).bind fun r17 =>
((some r17.1).bind getB).bind fun b18 =>
(if (!b18) = true then
some (.inl ([some (.slice v0 v0n v0n), some (.slice v5 v5n v5n), some (.int .i64 v6), some (.int .i64 v7), some (.bool true)], r17.2))
else
(if (decide (v7 > (0 : Int))) = true then
(if 0 ≤ (IntKind.wrap .i64 (v7 - (1 : Int))) ∧ (IntKind.wrap .i64 (v7 - (1 : Int))) < ((v0n : Nat) : Int) then
((v0 : Option Addr)).bind fun a19 =>
((cell r17.2 a19.block ((a19.off + Int.toNat (IntKind.wrap .i64 (v7 - (1 : Int))) * 6) + 0)).bind (getI .i64)).bind fun n20 =>
((cell r17.2 (List.length h) 0).bind (getI .i64)).bind fun n21 =>
some (.inl ([some (.slice v0 v0n v0n), some (.slice v5 v5n v5n), some (.int .i64 v6), some (.int .i64 v7), some (.bool (decide (n20 > n21)))], r17.2))
else none)
else
some (.inl ([some (.slice v0 v0n v0n), some (.slice v5 v5n v5n), some (.int .i64 v6), some (.int .i64 v7), some (.bool false)], r17.2))))).bind fun j10 => joinK j10 fun j10 =>
((sget j10.1 0).bind getS).bind fun l22 =>
((sget (j10.1.tail) 0).bind getS).bind fun l23 =>
((sget (j10.1.tail.tail) 0).bind (getI .i64)).bind fun n24 =>
((sget (j10.1.tail.tail.tail) 0).bind (getI .i64)).bind fun n25 =>
((sget (j10.1.tail.tail.tail.tail) 0).bind getB).bind fun b26 =>
(if b26 = true then
some (1, [some (.bool false)], j10.2)
else
some (0, [some (.slice l22.1 l22.2 l22.2), some (.slice l23.1 l23.2 l23.2), some (.int .i64 n24), some (.int .i64 (IntKind.wrap .i64 (n25 + (1 : Int))))], j10.2))
else none)
else
some (2, [some (.slice v0 v0n v0n)], h)) : Option (Nat × Slots × AH)) := by kernel_rfl
theorem f45_eq (base : Nat) (v0 : Option Addr) (v0n : Nat) (h : AH) : exFun (Et base) (run (Et base)) loopL a45 Try.f45 [(.slice v0 v0n v0n)] h =
((loopL (B45_0 base) [some (.slice v0 v0n v0n), some (.slice v0 v0n v0n), some (.int .i64 ((v0n : Nat) : Int)), some (.int .i64 (0 : Int))] h).bind fun q1 =>
(if q1.1 = 1 then
((sget q1.2.1 0).bind getB).bind fun b2 =>
some ((.bool b2), q1.2.2)
else
(if q1.1 = 2 then
((sget q1.2.1 0).bind getS).bind fun l3 =>
some ((.bool (decide (((l3.2 : Nat) : Int) ≤ (50 : Int)))), q1.2.2)
else
none)) : Option (Value × AH)) := by kernel_rfl
theorem r45 {base : Nat} {v0 : Option Addr} {v0n : Nat} {h : AH} {r : Value × AH} (hx :
((loopL (B45_0 base) [some (.slice v0 v0n v0n), some (.slice v0 v0n v0n), some (.int .i64 ((v0n : Nat) : Int)), some (.int .i64 (0 : Int))] h).bind fun q1 =>
(if q1.1 = 1 then
((sget q1.2.1 0).bind getB).bind fun b2 =>
some ((.bool b2), q1.2.2)
else
(if q1.1 = 2 then
((sget q1.2.1 0).bind getS).bind fun l3 =>
some ((.bool (decide (((l3.2 : Nat) : Int) ≤ (50 : Int)))), q1.2.2)
else
none))) = some r) : run (Et base) 45 [(.slice v0 v0n v0n)] h = some r := run_i Try.func45 (by kernel_rfl) ((f45_eq base v0 v0n h).trans hx)
/-! laws.eqTimerS (gates 0) -/
noncomputable def B46_0 (base : Nat) : Body := fun l h => lay s46_0 l fun s => exCode (Et base) (run (Et base)) loopL a46_0 (subC [1, 1, 0, 1, 0, 0] (bodyC Try.f46)) s h (keepK s46_0 e46_0)
theorem B46_0_eq (base : Nat) (v0 : Option Addr) (v0n : Nat) (v1 : Option Addr) (v1n : Nat) (v5 : Int) (h : AH) : B46_0 base [some (.slice v0 v0n v0n), some (.slice v1 v1n v1n), some (.int .i64 v5)] h =
((if (decide (v5 < ((v0n : Nat) : Int))) = true then
(if 0 ≤ v5 ∧ v5 < ((v0n : Nat) : Int) then
((v0 : Option Addr)).bind fun a1 =>
((cell h a1.block (a1.off + Int.toNat v5 * 6)).bind (getI .i64)).bind fun n2 =>
((cell h a1.block ((a1.off + Int.toNat v5 * 6) + 1)).bind (getI .i64)).bind fun n3 =>
((cell h a1.block (((a1.off + Int.toNat v5 * 6) + 1) + 1)).bind (getI .i64)).bind fun n4 =>
((cell h a1.block ((((a1.off + Int.toNat v5 * 6) + 1) + 1) + 1)).bind (getI .i64)).bind fun n5 =>
((cell h a1.block (((((a1.off + Int.toNat v5 * 6) + 1) + 1) + 1) + 1)).bind getStr).bind fun s6 =>
((cell h a1.block ((((((a1.off + Int.toNat v5 * 6) + 1) + 1) + 1) + 1) + 1)).bind getS).bind fun l7 =>
(if 0 ≤ v5 ∧ v5 < ((v1n : Nat) : Int) then
((v1 : Option Addr)).bind fun a8 =>
((cell h a8.block (a8.off + Int.toNat v5 * 6)).bind (getI .i64)).bind fun n9 =>
((cell h a8.block ((a8.off + Int.toNat v5 * 6) + 1)).bind (getI .i64)).bind fun n10 =>
((cell h a8.block (((a8.off + Int.toNat v5 * 6) + 1) + 1)).bind (getI .i64)).bind fun n11 =>
((cell h a8.block ((((a8.off + Int.toNat v5 * 6) + 1) + 1) + 1)).bind (getI .i64)).bind fun n12 =>
((cell h a8.block (((((a8.off + Int.toNat v5 * 6) + 1) + 1) + 1) + 1)).bind getStr).bind fun s13 =>
((cell h a8.block ((((((a8.off + Int.toNat v5 * 6) + 1) + 1) + 1) + 1) + 1)).bind getS).bind fun l14 =>
(run (Et base) 82 [(.agg #[(.int .i64 n2), (.int .i64 n3), (.int .i64 n4), (.int .i64 n5), (.string s6), (.slice l7.1 l7.2 l7.2)]), (.agg #[(.int .i64 n9), (.int .i64 n10), (.int .i64 n11), (.int .i64 n12), (.string s13), (.slice l14.1 l14.2 l14.2)])] h).bind fun r15 =>
((some r15.1).bind getB).bind fun b16 =>
(if (!b16) = true then
some (1, [some (.bool false)], r15.2)
else
some (0, [some (.slice v0 v0n v0n), some (.slice v1 v1n v1n), some (.int .i64 (IntKind.wrap .i64 (v5 + (1 : Int))))], r15.2))
else none)
else none)
else
some (2, [], h)) : Option (Nat × Slots × AH)) := by kernel_rfl
theorem f46_eq (base : Nat) (v0 : Option Addr) (v0n : Nat) (v1 : Option Addr) (v1n : Nat) (h : AH) : exFun (Et base) (run (Et base)) loopL a46 Try.f46 [(.slice v0 v0n v0n), (.slice v1 v1n v1n)] h =
((if (((v0n : Nat) : Int) != ((v1n : Nat) : Int)) = true then
some ((.bool false), h)
else
(loopL (B46_0 base) [some (.slice v0 v0n v0n), some (.slice v1 v1n v1n), some (.int .i64 (0 : Int))] h).bind fun q1 =>
(if q1.1 = 1 then
((sget q1.2.1 0).bind getB).bind fun b2 =>
some ((.bool b2), q1.2.2)
else
(if q1.1 = 2 then
some ((.bool true), q1.2.2)
else
none))) : Option (Value × AH)) := by kernel_rfl
theorem r46 {base : Nat} {v0 : Option Addr} {v0n : Nat} {v1 : Option Addr} {v1n : Nat} {h : AH} {r : Value × AH} (hx :
((if (((v0n : Nat) : Int) != ((v1n : Nat) : Int)) = true then
some ((.bool false), h)
else
(loopL (B46_0 base) [some (.slice v0 v0n v0n), some (.slice v1 v1n v1n), some (.int .i64 (0 : Int))] h).bind fun q1 =>
(if q1.1 = 1 then
((sget q1.2.1 0).bind getB).bind fun b2 =>
some ((.bool b2), q1.2.2)
else
(if q1.1 = 2 then
some ((.bool true), q1.2.2)
else
none)))) = some r) : run (Et base) 46 [(.slice v0 v0n v0n), (.slice v1 v1n v1n)] h = some r := run_i Try.func46 (by kernel_rfl) ((f46_eq base v0 v0n v1 v1n h).trans hx)
/-! spec.DrawDueTimers (gates 0) -/
theorem f47_eq (base : Nat) (v0 : Option Addr) (v0n : Nat) (h : AH) : exFun (Et base) (run (Et base)) loopL a47 Try.f47 [(.slice v0 v0n v0n)] h =
((run (Et base) 66 [(.slice v0 v0n v0n)] h).bind fun r1 =>
((some r1.1).bind getP).bind fun p2 =>
(run (Et base) 83 [(.pointer p2)] r1.2).bind fun r3 =>
((some r3.1).bind getS).bind fun l4 =>
(some (r3.2 ++ [some ⟨[(.int .i64 (0 : Int)), (.int .i64 (1 : Int)), (.int .i64 (2 : Int)), (.int .i64 (3 : Int)), (.int .i64 (9 : Int)), (.int .i64 (-1 : Int)), (.int .i64 (1000000000 : Int))], 3⟩])).bind fun h5 =>
(run (Et base) 74 [(.pointer p2), (.slice (some ⟨(List.length r3.2), 0, none⟩) 7 7)] h5).bind fun r6 =>
((some r6.1).bind (getI .i64)).bind fun n7 =>
some ((.tuple #[(.slice l4.1 l4.2 l4.2), (.int .i64 n7)]), r6.2) : Option (Value × AH)) := by kernel_rfl
theorem r47 {base : Nat} {v0 : Option Addr} {v0n : Nat} {h : AH} {r : Value × AH} (hx :
((run (Et base) 66 [(.slice v0 v0n v0n)] h).bind fun r1 =>
((some r1.1).bind getP).bind fun p2 =>
(run (Et base) 83 [(.pointer p2)] r1.2).bind fun r3 =>
((some r3.1).bind getS).bind fun l4 =>
(some (r3.2 ++ [some ⟨[(.int .i64 (0 : Int)), (.int .i64 (1 : Int)), (.int .i64 (2 : Int)), (.int .i64 (3 : Int)), (.int .i64 (9 : Int)), (.int .i64 (-1 : Int)), (.int .i64 (1000000000 : Int))], 3⟩])).bind fun h5 =>
(run (Et base) 74 [(.pointer p2), (.slice (some ⟨(List.length r3.2), 0, none⟩) 7 7)] h5).bind fun r6 =>
((some r6.1).bind (getI .i64)).bind fun n7 =>
some ((.tuple #[(.slice l4.1 l4.2 l4.2), (.int .i64 n7)]), r6.2)) = some r) : run (Et base) 47 [(.slice v0 v0n v0n)] h = some r := run_i Try.func47 (by kernel_rfl) ((f47_eq base v0 v0n h).trans hx)
/-! impl.DueTimers (gates 0) -/
theorem f48_eq (base : Nat) (v0 : Option Addr) (v0n : Nat) (v1 : Int) (h : AH) : exFun (Et base) (run (Et base)) loopL a48 Try.f48 [(.slice v0 v0n v0n), (.int .i64 v1)] h =
((some (h ++ [some ⟨[(.int .i64 v1)], 3⟩])).bind fun h1 =>
(run (Et base) 84 [(.slice v0 v0n v0n), (.func (.func 85) #[] #[(.pointer (some ⟨(List.length h), 0, none⟩))])] h1).bind fun r2 =>
((some r2.1).bind getS).bind fun l3 =>
(run (Et base) 84 [(.slice v0 v0n v0n), (.func (.func 86) #[] #[(.pointer (some ⟨(List.length h), 0, none⟩))])] r2.2).bind fun r4 =>
((some r4.1).bind getS).bind fun l5 =>
some ((.tuple #[(.slice l3.1 l3.2 l3.2), (.slice l5.1 l5.2 l5.2)]), r4.2) : Option (Value × AH)) := by kernel_rfl
theorem r48 {base : Nat} {v0 : Option Addr} {v0n : Nat} {v1 : Int} {h : AH} {r : Value × AH} (hx :
((some (h ++ [some ⟨[(.int .i64 v1)], 3⟩])).bind fun h1 =>
(run (Et base) 84 [(.slice v0 v0n v0n), (.func (.func 85) #[] #[(.pointer (some ⟨(List.length h), 0, none⟩))])] h1).bind fun r2 =>
((some r2.1).bind getS).bind fun l3 =>
(run (Et base) 84 [(.slice v0 v0n v0n), (.func (.func 86) #[] #[(.pointer (some ⟨(List.length h), 0, none⟩))])] r2.2).bind fun r4 =>
((some r4.1).bind getS).bind fun l5 =>
some ((.tuple #[(.slice l3.1 l3.2 l3.2), (.slice l5.1 l5.2 l5.2)]), r4.2)) = some r) : run (Et base) 48 [(.slice v0 v0n v0n), (.int .i64 v1)] h = some r := run_i Try.func48 (by kernel_rfl) ((f48_eq base v0 v0n v1 h).trans hx)
/-! spec.DropTimers (gates 0) -/
noncomputable def B49_0 (base : Nat) : Body := fun l h => lay s49_0 l fun s => exCode (Et base) (run (Et base)) loopL a49_0 (subC [1, 1, 1, 0, 1, 0, 0] (bodyC Try.f49)) s h (keepK s49_0 e49_0)
theorem B49_0_eq (base : Nat) (v1 : Int) (v5 : Option Addr) (v5n : Nat) (v6 : Option Addr) (v6n : Nat) (v7 : Int) (h : AH) : B49_0 base [some (.int .i64 v1), some (.slice v5 v5n v5n), some (.slice v6 v6n v6n), some (.int .i64 v7)] h =
((if (decide (v7 < ((v6n : Nat) : Int))) = true then
((if 0 ≤ v7 ∧ v7 < ((v6n : Nat) : Int) then
((v6 : Option Addr)).bind fun a2 =>
((cell h a2.block ((a2.off + Int.toNat v7 * 6) + 1)).bind (getI .i64)).bind fun n3 =>
(if (n3 != v1) = true then
(if 0 ≤ v7 ∧ v7 < ((v6n : Nat) : Int) then
((v6 : Option Addr)).bind fun a4 =>
((cell h a4.block (a4.off + Int.toNat v7 * 6)).bind (getI .i64)).bind fun n5 =>
((cell h a4.block ((a4.off + Int.toNat v7 * 6) + 1)).bind (getI .i64)).bind fun n6 =>
((cell h a4.block (((a4.off + Int.toNat v7 * 6) + 1) + 1)).bind (getI .i64)).bind fun n7 =>
((cell h a4.block ((((a4.off + Int.toNat v7 * 6) + 1) + 1) + 1)).bind (getI .i64)).bind fun n8 =>
((cell h a4.block (((((a4.off + Int.toNat v7 * 6) + 1) + 1) + 1) + 1)).bind getStr).bind fun s9 =>
((cell h a4.block ((((((a4.off + Int.toNat v7 * 6) + 1) + 1) + 1) + 1) + 1)).bind getS).bind fun l10 =>
(some (h ++ [some ⟨[(.int .i64 n5), (.int .i64 n6), (.int .i64 n7), (.int .i64 n8), (.string s9), (.slice l10.1 l10.2 l10.2)], 70⟩])).bind fun h11 =>
(app base h11 70 6 72 v5 v5n (rawAt h11 (some ⟨(List.length h), 0, none⟩) (1 * 6)) 1).bind fun p12 =>
((some p12.1).bind getS).bind fun l13 =>
some (.inl ([some (.int .i64 v1), some (.slice l13.1 l13.2 l13.2), some (.slice v6 v6n v6n), some (.int .i64 v7)], p12.2))
else none)
else
some (.inl ([some (.int .i64 v1), some (.slice v5 v5n v5n), some (.slice v6 v6n v6n), some (.int .i64 v7)], h)))
else none)).bind fun j1 => joinK j1 fun j1 =>
((sget j1.1 0).bind (getI .i64)).bind fun n14 =>
((sget (j1.1.tail) 0).bind getS).bind fun l15 =>
((sget (j1.1.tail.tail) 0).bind getS).bind fun l16 =>
((sget (j1.1.tail.tail.tail) 0).bind (getI .i64)).bind fun n17 =>
some (0, [some (.int .i64 n14), some (.slice l15.1 l15.2 l15.2), some (.slice l16.1 l16.2 l16.2), some (.int .i64 (IntKind.wrap .i64 (n17 + (1 : Int))))], j1.2)
else
some (2, [some (.slice v5 v5n v5n)], h)) : Option (Nat × Slots × AH)) := by kernel_rfl
theorem f49_eq (base : Nat) (v0 : Option Addr) (v0n : Nat) (v1 : Int) (h : AH) : exFun (Et base) (run (Et base)) loopL a49 Try.f49 [(.slice v0 v0n v0n), (.int .i64 v1)] h =
((some (h ++ [some ⟨[], 70⟩])).bind fun h1 =>
(run (Et base) 87 [(.slice v0 v0n v0n)] h1).bind fun r2 =>
((some r2.1).bind getS).bind fun l3 =>
(loopL (B49_0 base) [some (.int .i64 v1), some (.slice (some ⟨(List.length h), 0, none⟩) 0 0), some (.slice l3.1 l3.2 l3.2), some (.int .i64 (0 : Int))] r2.2).bind fun q4 =>
(if q4.1 = 2 then
((sget q4.2.1 0).bind getS).bind fun l5 =>
some ((.slice l5.1 l5.2 l5.2), q4.2.2)
else
none) : Option (Value × AH)) := by kernel_rfl
theorem r49 {base : Nat} {v0 : Option Addr} {v0n : Nat} {v1 : Int} {h : AH} {r : Value × AH} (hx :
((some (h ++ [some ⟨[], 70⟩])).bind fun h1 =>
(run (Et base) 87 [(.slice v0 v0n v0n)] h1).bind fun r2 =>
((some r2.1).bind getS).bind fun l3 =>
(loopL (B49_0 base) [some (.int .i64 v1), some (.slice (some ⟨(List.length h), 0, none⟩) 0 0), some (.slice l3.1 l3.2 l3.2), some (.int .i64 (0 : Int))] r2.2).bind fun q4 =>
(if q4.1 = 2 then
((sget q4.2.1 0).bind getS).bind fun l5 =>
some ((.slice l5.1 l5.2 l5.2), q4.2.2)
else
none)) = some r) : run (Et base) 49 [(.slice v0 v0n v0n), (.int .i64 v1)] h = some r := run_i Try.func49 (by kernel_rfl) ((f49_eq base v0 v0n v1 h).trans hx)
/-! impl.DropTimers (gates 0) -/
theorem f50_eq (base : Nat) (v0 : Option Addr) (v0n : Nat) (v1 : Int) (h : AH) : exFun (Et base) (run (Et base)) loopL a50 Try.f50 [(.slice v0 v0n v0n), (.int .i64 v1)] h =
((some (h ++ [some ⟨[(.int .i64 v1)], 3⟩])).bind fun h1 =>
(run (Et base) 84 [(.slice v0 v0n v0n), (.func (.func 88) #[] #[(.pointer (some ⟨(List.length h), 0, none⟩))])] h1).bind fun r2 =>
((some r2.1).bind getS).bind fun l3 =>
some ((.slice l3.1 l3.2 l3.2), r2.2) : Option (Value × AH)) := by kernel_rfl
theorem r50 {base : Nat} {v0 : Option Addr} {v0n : Nat} {v1 : Int} {h : AH} {r : Value × AH} (hx :
((some (h ++ [some ⟨[(.int .i64 v1)], 3⟩])).bind fun h1 =>
(run (Et base) 84 [(.slice v0 v0n v0n), (.func (.func 88) #[] #[(.pointer (some ⟨(List.length h), 0, none⟩))])] h1).bind fun r2 =>
((some r2.1).bind getS).bind fun l3 =>
some ((.slice l3.1 l3.2 l3.2), r2.2)) = some r) : run (Et base) 50 [(.slice v0 v0n v0n), (.int .i64 v1)] h = some r := run_i Try.func50 (by kernel_rfl) ((f50_eq base v0 v0n v1 h).trans hx)
/-! laws.markTimerS (gates 0) -/
noncomputable def B51_0 (base : Nat) : Body := fun l h => lay s51_0 l fun s => exCode (Et base) (run (Et base)) loopL a51_0 (subC [1, 0, 1, 0, 0] (bodyC Try.f51)) s h (keepK s51_0 e51_0)
theorem B51_0_eq (base : Nat) (v0 : Option Addr) (v0n : Nat) (v1 : Int) (v5 : Int) (h : AH) : B51_0 base [some (.slice v0 v0n v0n), some (.int .i64 v1), some (.int .i64 v5)] h =
((if (decide (v5 < ((v0n : Nat) : Int))) = true then
(if 0 ≤ v5 ∧ v5 < ((v0n : Nat) : Int) then
((v0 : Option Addr)).bind fun a1 =>
(wr base h a1.block ((a1.off + Int.toNat v5 * 6) + 0) [(.int .i64 v1)]).bind fun h2 =>
(if 0 ≤ v5 ∧ v5 < ((v0n : Nat) : Int) then
((v0 : Option Addr)).bind fun a3 =>
(wr base h2 a3.block ((a3.off + Int.toNat v5 * 6) + 1) [(.int .i64 (IntKind.wrap .i64 (v1 + (1 : Int))))]).bind fun h4 =>
(if 0 ≤ v5 ∧ v5 < ((v0n : Nat) : Int) then
((v0 : Option Addr)).bind fun a5 =>
(wr base h4 a5.block (((a5.off + Int.toNat v5 * 6) + 2) + 0) [(.int .i64 (IntKind.wrap .i64 ((IntKind.wrap .i64 (v1 + (1 : Int))) + (1 : Int))))]).bind fun h6 =>
(if 0 ≤ v5 ∧ v5 < ((v0n : Nat) : Int) then
((v0 : Option Addr)).bind fun a7 =>
(wr base h6 a7.block (((a7.off + Int.toNat v5 * 6) + 2) + 1) [(.int .i64 (IntKind.wrap .i64 ((IntKind.wrap .i64 ((IntKind.wrap .i64 (v1 + (1 : Int))) + (1 : Int))) + (1 : Int))))]).bind fun h8 =>
(run (Et base) 89 [(.int .i64 (IntKind.wrap .i64 ((IntKind.wrap .i64 ((IntKind.wrap .i64 ((IntKind.wrap .i64 (v1 + (1 : Int))) + (1 : Int))) + (1 : Int))) + (1 : Int))))] h8).bind fun r9 =>
((some r9.1).bind getStr).bind fun s10 =>
(if 0 ≤ v5 ∧ v5 < ((v0n : Nat) : Int) then
((v0 : Option Addr)).bind fun a11 =>
(wr base r9.2 a11.block (((a11.off + Int.toNat v5 * 6) + 2) + 2) [(.string s10)]).bind fun h12 =>
(if 0 ≤ v5 ∧ v5 < ((v0n : Nat) : Int) then
((v0 : Option Addr)).bind fun a13 =>
((cell h12 a13.block (((a13.off + Int.toNat v5 * 6) + 2) + 3)).bind getS).bind fun l14 =>
(run (Et base) 90 [(.slice l14.1 l14.2 l14.2), (.int .i64 (IntKind.wrap .i64 ((IntKind.wrap .i64 ((IntKind.wrap .i64 ((IntKind.wrap .i64 ((IntKind.wrap .i64 (v1 + (1 : Int))) + (1 : Int))) + (1 : Int))) + (1 : Int))) + (1 : Int))))] h12).bind fun r15 =>
((some r15.1).bind (getI .i64)).bind fun n16 =>
some (0, [some (.slice v0 v0n v0n), some (.int .i64 n16), some (.int .i64 (IntKind.wrap .i64 (v5 + (1 : Int))))], r15.2)
else none)
else none)
else none)
else none)
else none)
else none)
else
some (2, [some (.int .i64 v1)], h)) : Option (Nat × Slots × AH)) := by kernel_rfl
theorem f51_eq (base : Nat) (v0 : Option Addr) (v0n : Nat) (v1 : Int) (h : AH) : exFun (Et base) (run (Et base)) loopL a51 Try.f51 [(.slice v0 v0n v0n), (.int .i64 v1)] h =
((loopL (B51_0 base) [some (.slice v0 v0n v0n), some (.int .i64 v1), some (.int .i64 (0 : Int))] h).bind fun q1 =>
(if q1.1 = 2 then
((sget q1.2.1 0).bind (getI .i64)).bind fun n2 =>
some ((.int .i64 n2), q1.2.2)
else
none) : Option (Value × AH)) := by kernel_rfl
theorem r51 {base : Nat} {v0 : Option Addr} {v0n : Nat} {v1 : Int} {h : AH} {r : Value × AH} (hx :
((loopL (B51_0 base) [some (.slice v0 v0n v0n), some (.int .i64 v1), some (.int .i64 (0 : Int))] h).bind fun q1 =>
(if q1.1 = 2 then
((sget q1.2.1 0).bind (getI .i64)).bind fun n2 =>
some ((.int .i64 n2), q1.2.2)
else
none)) = some r) : run (Et base) 51 [(.slice v0 v0n v0n), (.int .i64 v1)] h = some r := run_i Try.func51 (by kernel_rfl) ((f51_eq base v0 v0n v1 h).trans hx)
/-! laws.heldTimerS (gates 0) -/
noncomputable def B52_0 (base : Nat) : Body := fun l h => lay s52_0 l fun s => exCode (Et base) (run (Et base)) loopL a52_0 (subC [1, 0, 1, 0, 0] (bodyC Try.f52)) s h (keepK s52_0 e52_0)
theorem B52_0_eq (base : Nat) (v0 : Option Addr) (v0n : Nat) (v1 : Int) (v5 : Int) (h : AH) : B52_0 base [some (.slice v0 v0n v0n), some (.int .i64 v1), some (.int .i64 v5)] h =
((if (decide (v5 < ((v0n : Nat) : Int))) = true then
(if 0 ≤ v5 ∧ v5 < ((v0n : Nat) : Int) then
((v0 : Option Addr)).bind fun a1 =>
((cell h a1.block ((a1.off + Int.toNat v5 * 6) + 0)).bind (getI .i64)).bind fun n2 =>
(if (n2 != v1) = true then
some (1, [some (.int .i64 (-1 : Int))], h)
else
(if 0 ≤ v5 ∧ v5 < ((v0n : Nat) : Int) then
((v0 : Option Addr)).bind fun a3 =>
((cell h a3.block ((a3.off + Int.toNat v5 * 6) + 1)).bind (getI .i64)).bind fun n4 =>
(if (n4 != (IntKind.wrap .i64 (v1 + (1 : Int)))) = true then
some (1, [some (.int .i64 (-1 : Int))], h)
else
(if 0 ≤ v5 ∧ v5 < ((v0n : Nat) : Int) then
((v0 : Option Addr)).bind fun a5 =>
((cell h a5.block (((a5.off + Int.toNat v5 * 6) + 2) + 0)).bind (getI .i64)).bind fun n6 =>
(if (n6 != (IntKind.wrap .i64 ((IntKind.wrap .i64 (v1 + (1 : Int))) + (1 : Int)))) = true then
some (1, [some (.int .i64 (-1 : Int))], h)
else
(if 0 ≤ v5 ∧ v5 < ((v0n : Nat) : Int) then
((v0 : Option Addr)).bind fun a7 =>
((cell h a7.block (((a7.off + Int.toNat v5 * 6) + 2) + 1)).bind (getI .i64)).bind fun n8 =>
(if (n8 != (IntKind.wrap .i64 ((IntKind.wrap .i64 ((IntKind.wrap .i64 (v1 + (1 : Int))) + (1 : Int))) + (1 : Int)))) = true then
some (1, [some (.int .i64 (-1 : Int))], h)
else
(if 0 ≤ v5 ∧ v5 < ((v0n : Nat) : Int) then
((v0 : Option Addr)).bind fun a9 =>
((cell h a9.block (((a9.off + Int.toNat v5 * 6) + 2) + 2)).bind getStr).bind fun s10 =>
(run (Et base) 89 [(.int .i64 (IntKind.wrap .i64 ((IntKind.wrap .i64 ((IntKind.wrap .i64 ((IntKind.wrap .i64 (v1 + (1 : Int))) + (1 : Int))) + (1 : Int))) + (1 : Int))))] h).bind fun r11 =>
((some r11.1).bind getStr).bind fun s12 =>
(gate (sameA h r11.2 (some ⟨a9.block, (((a9.off + Int.toNat v5 * 6) + 2) + 2), none⟩) 1)
((if (!(s10.toList == s12.toList)) = true then
some (1, [some (.int .i64 (-1 : Int))], r11.2)
else
(if 0 ≤ v5 ∧ v5 < ((v0n : Nat) : Int) then
((v0 : Option Addr)).bind fun a13 =>
((cell r11.2 a13.block (((a13.off + Int.toNat v5 * 6) + 2) + 3)).bind getS).bind fun l14 =>
(run (Et base) 91 [(.slice l14.1 l14.2 l14.2), (.int .i64 (IntKind.wrap .i64 ((IntKind.wrap .i64 ((IntKind.wrap .i64 ((IntKind.wrap .i64 ((IntKind.wrap .i64 (v1 + (1 : Int))) + (1 : Int))) + (1 : Int))) + (1 : Int))) + (1 : Int))))] r11.2).bind fun r15 =>
((some r15.1).bind (getI .i64)).bind fun n16 =>
(if (decide (n16 < (0 : Int))) = true then
some (1, [some (.int .i64 (-1 : Int))], r15.2)
else
some (0, [some (.slice v0 v0n v0n), some (.int .i64 n16), some (.int .i64 (IntKind.wrap .i64 (v5 + (1 : Int))))], r15.2))
else none))))
else none))
else none))
else none))
else none))
else none)
else
some (2, [some (.int .i64 v1)], h)) : Option (Nat × Slots × AH)) := by kernel_rfl
theorem f52_eq (base : Nat) (v0 : Option Addr) (v0n : Nat) (v1 : Int) (h : AH) : exFun (Et base) (run (Et base)) loopL a52 Try.f52 [(.slice v0 v0n v0n), (.int .i64 v1)] h =
((loopL (B52_0 base) [some (.slice v0 v0n v0n), some (.int .i64 v1), some (.int .i64 (0 : Int))] h).bind fun q1 =>
(if q1.1 = 1 then
((sget q1.2.1 0).bind (getI .i64)).bind fun n2 =>
some ((.int .i64 n2), q1.2.2)
else
(if q1.1 = 2 then
((sget q1.2.1 0).bind (getI .i64)).bind fun n3 =>
some ((.int .i64 n3), q1.2.2)
else
none)) : Option (Value × AH)) := by kernel_rfl
theorem r52 {base : Nat} {v0 : Option Addr} {v0n : Nat} {v1 : Int} {h : AH} {r : Value × AH} (hx :
((loopL (B52_0 base) [some (.slice v0 v0n v0n), some (.int .i64 v1), some (.int .i64 (0 : Int))] h).bind fun q1 =>
(if q1.1 = 1 then
((sget q1.2.1 0).bind (getI .i64)).bind fun n2 =>
some ((.int .i64 n2), q1.2.2)
else
(if q1.1 = 2 then
((sget q1.2.1 0).bind (getI .i64)).bind fun n3 =>
some ((.int .i64 n3), q1.2.2)
else
none))) = some r) : run (Et base) 52 [(.slice v0 v0n v0n), (.int .i64 v1)] h = some r := run_i Try.func52 (by kernel_rfl) ((f52_eq base v0 v0n v1 h).trans hx)
/-! spec.DueTimers (gates 0) -/
noncomputable def B53_0 (base : Nat) : Body := fun l h => lay s53_0 l fun s => exCode (Et base) (run (Et base)) loopL a53_0 (subC [1, 1, 1, 1, 0, 1, 0, 0] (bodyC Try.f53)) s h (keepK s53_0 e53_0)
theorem B53_0_eq (base : Nat) (v1 : Int) (v6 : Option Addr) (v6n : Nat) (v7 : Option Addr) (v7n : Nat) (v8 : Option Addr) (v8n : Nat) (v9 : Int) (h : AH) : B53_0 base [some (.int .i64 v1), some (.slice v6 v6n v6n), some (.slice v7 v7n v7n), some (.slice v8 v8n v8n), some (.int .i64 v9)] h =
((if (decide (v9 < ((v8n : Nat) : Int))) = true then
((if 0 ≤ v9 ∧ v9 < ((v8n : Nat) : Int) then
((v8 : Option Addr)).bind fun a2 =>
((cell h a2.block ((a2.off + Int.toNat v9 * 6) + 0)).bind (getI .i64)).bind fun n3 =>
(if (decide (n3 ≤ v1)) = true then
(if 0 ≤ v9 ∧ v9 < ((v8n : Nat) : Int) then
((v8 : Option Addr)).bind fun a4 =>
((cell h a4.block (a4.off + Int.toNat v9 * 6)).bind (getI .i64)).bind fun n5 =>
((cell h a4.block ((a4.off + Int.toNat v9 * 6) + 1)).bind (getI .i64)).bind fun n6 =>
((cell h a4.block (((a4.off + Int.toNat v9 * 6) + 1) + 1)).bind (getI .i64)).bind fun n7 =>
((cell h a4.block ((((a4.off + Int.toNat v9 * 6) + 1) + 1) + 1)).bind (getI .i64)).bind fun n8 =>
((cell h a4.block (((((a4.off + Int.toNat v9 * 6) + 1) + 1) + 1) + 1)).bind getStr).bind fun s9 =>
((cell h a4.block ((((((a4.off + Int.toNat v9 * 6) + 1) + 1) + 1) + 1) + 1)).bind getS).bind fun l10 =>
(some (h ++ [some ⟨[(.int .i64 n5), (.int .i64 n6), (.int .i64 n7), (.int .i64 n8), (.string s9), (.slice l10.1 l10.2 l10.2)], 70⟩])).bind fun h11 =>
(app base h11 70 6 72 v6 v6n (rawAt h11 (some ⟨(List.length h), 0, none⟩) (1 * 6)) 1).bind fun p12 =>
((some p12.1).bind getS).bind fun l13 =>
some (.inl ([some (.int .i64 v1), some (.slice l13.1 l13.2 l13.2), some (.slice v7 v7n v7n), some (.slice v8 v8n v8n), some (.int .i64 v9)], p12.2))
else none)
else
(if 0 ≤ v9 ∧ v9 < ((v8n : Nat) : Int) then
((v8 : Option Addr)).bind fun a14 =>
((cell h a14.block (a14.off + Int.toNat v9 * 6)).bind (getI .i64)).bind fun n15 =>
((cell h a14.block ((a14.off + Int.toNat v9 * 6) + 1)).bind (getI .i64)).bind fun n16 =>
((cell h a14.block (((a14.off + Int.toNat v9 * 6) + 1) + 1)).bind (getI .i64)).bind fun n17 =>
((cell h a14.block ((((a14.off + Int.toNat v9 * 6) + 1) + 1) + 1)).bind (getI .i64)).bind fun n18 =>
((cell h a14.block (((((a14.off + Int.toNat v9 * 6) + 1) + 1) + 1) + 1)).bind getStr).bind fun s19 =>
((cell h a14.block ((((((a14.off + Int.toNat v9 * 6) + 1) + 1) + 1) + 1) + 1)).bind getS).bind fun l20 =>
(some (h ++ [some ⟨[(.int .i64 n15), (.int .i64 n16), (.int .i64 n17), (.int .i64 n18), (.string s19), (.slice l20.1 l20.2 l20.2)], 70⟩])).bind fun h21 =>
(app base h21 70 6 72 v7 v7n (rawAt h21 (some ⟨(List.length h), 0, none⟩) (1 * 6)) 1).bind fun p22 =>
((some p22.1).bind getS).bind fun l23 =>
some (.inl ([some (.int .i64 v1), some (.slice v6 v6n v6n), some (.slice l23.1 l23.2 l23.2), some (.slice v8 v8n v8n), some (.int .i64 v9)], p22.2))
else none))
else none)).bind fun j1 => joinK j1 fun j1 =>
((sget j1.1 0).bind (getI .i64)).bind fun n24 =>
((sget (j1.1.tail) 0).bind getS).bind fun l25 =>
((sget (j1.1.tail.tail) 0).bind getS).bind fun l26 =>
((sget (j1.1.tail.tail.tail) 0).bind getS).bind fun l27 =>
((sget (j1.1.tail.tail.tail.tail) 0).bind (getI .i64)).bind fun n28 =>
some (0, [some (.int .i64 n24), some (.slice l25.1 l25.2 l25.2), some (.slice l26.1 l26.2 l26.2), some (.slice l27.1 l27.2 l27.2), some (.int .i64 (IntKind.wrap .i64 (n28 + (1 : Int))))], j1.2)
else
some (2, [some (.slice v6 v6n v6n), some (.slice v7 v7n v7n)], h)) : Option (Nat × Slots × AH)) := by kernel_rfl
theorem f53_eq (base : Nat) (v0 : Option Addr) (v0n : Nat) (v1 : Int) (h : AH) : exFun (Et base) (run (Et base)) loopL a53 Try.f53 [(.slice v0 v0n v0n), (.int .i64 v1)] h =
((some (h ++ [some ⟨[], 70⟩])).bind fun h1 =>
(some (h1 ++ [some ⟨[], 70⟩])).bind fun h2 =>
(run (Et base) 87 [(.slice v0 v0n v0n)] h2).bind fun r3 =>
((some r3.1).bind getS).bind fun l4 =>
(loopL (B53_0 base) [some (.int .i64 v1), some (.slice (some ⟨(List.length h), 0, none⟩) 0 0), some (.slice (some ⟨(List.length h1), 0, none⟩) 0 0), some (.slice l4.1 l4.2 l4.2), some (.int .i64 (0 : Int))] r3.2).bind fun q5 =>
(if q5.1 = 2 then
((sget q5.2.1 0).bind getS).bind fun l6 =>
((sget (q5.2.1.tail) 0).bind getS).bind fun l7 =>
some ((.tuple #[(.slice l6.1 l6.2 l6.2), (.slice l7.1 l7.2 l7.2)]), q5.2.2)
else
none) : Option (Value × AH)) := by kernel_rfl
theorem r53 {base : Nat} {v0 : Option Addr} {v0n : Nat} {v1 : Int} {h : AH} {r : Value × AH} (hx :
((some (h ++ [some ⟨[], 70⟩])).bind fun h1 =>
(some (h1 ++ [some ⟨[], 70⟩])).bind fun h2 =>
(run (Et base) 87 [(.slice v0 v0n v0n)] h2).bind fun r3 =>
((some r3.1).bind getS).bind fun l4 =>
(loopL (B53_0 base) [some (.int .i64 v1), some (.slice (some ⟨(List.length h), 0, none⟩) 0 0), some (.slice (some ⟨(List.length h1), 0, none⟩) 0 0), some (.slice l4.1 l4.2 l4.2), some (.int .i64 (0 : Int))] r3.2).bind fun q5 =>
(if q5.1 = 2 then
((sget q5.2.1 0).bind getS).bind fun l6 =>
((sget (q5.2.1.tail) 0).bind getS).bind fun l7 =>
some ((.tuple #[(.slice l6.1 l6.2 l6.2), (.slice l7.1 l7.2 l7.2)]), q5.2.2)
else
none)) = some r) : run (Et base) 53 [(.slice v0 v0n v0n), (.int .i64 v1)] h = some r := run_i Try.func53 (by kernel_rfl) ((f53_eq base v0 v0n v1 h).trans hx)
/-! spec.DrawDropTimers (gates 0) -/
theorem f54_eq (base : Nat) (v0 : Option Addr) (v0n : Nat) (h : AH) : exFun (Et base) (run (Et base)) loopL a54 Try.f54 [(.slice v0 v0n v0n)] h =
((run (Et base) 66 [(.slice v0 v0n v0n)] h).bind fun r1 =>
((some r1.1).bind getP).bind fun p2 =>
(run (Et base) 83 [(.pointer p2)] r1.2).bind fun r3 =>
((some r3.1).bind getS).bind fun l4 =>
(run (Et base) 67 [(.pointer p2), (.int .i64 (5 : Int))] r3.2).bind fun r5 =>
((some r5.1).bind (getI .i64)).bind fun n6 =>
some ((.tuple #[(.slice l4.1 l4.2 l4.2), (.int .i64 n6)]), r5.2) : Option (Value × AH)) := by kernel_rfl
theorem r54 {base : Nat} {v0 : Option Addr} {v0n : Nat} {h : AH} {r : Value × AH} (hx :
((run (Et base) 66 [(.slice v0 v0n v0n)] h).bind fun r1 =>
((some r1.1).bind getP).bind fun p2 =>
(run (Et base) 83 [(.pointer p2)] r1.2).bind fun r3 =>
((some r3.1).bind getS).bind fun l4 =>
(run (Et base) 67 [(.pointer p2), (.int .i64 (5 : Int))] r3.2).bind fun r5 =>
((some r5.1).bind (getI .i64)).bind fun n6 =>
some ((.tuple #[(.slice l4.1 l4.2 l4.2), (.int .i64 n6)]), r5.2)) = some r) : run (Et base) 54 [(.slice v0 v0n v0n)] h = some r := run_i Try.func54 (by kernel_rfl) ((f54_eq base v0 v0n h).trans hx)
/-! spec.DrawTimersOk (gates 0) -/
theorem f56_eq (base : Nat) (v0 : Option Addr) (v0n : Nat) (h : AH) : exFun (Et base) (run (Et base)) loopL a56 Try.f56 [(.slice v0 v0n v0n)] h =
((run (Et base) 66 [(.slice v0 v0n v0n)] h).bind fun r1 =>
((some r1.1).bind getP).bind fun p2 =>
(run (Et base) 83 [(.pointer p2)] r1.2).bind fun r3 =>
((some r3.1).bind getS).bind fun l4 =>
(((if (decide (((l4.2 : Nat) : Int) > (0 : Int))) = true then
(run (Et base) 69 [(.pointer p2), (.int .i64 (4 : Int))] r3.2).bind fun r7 =>
((some r7.1).bind getB).bind fun b8 =>
some (.inl ([some (.pointer p2), some (.slice l4.1 l4.2 l4.2), some (.bool b8)], r7.2))
else
some (.inl ([some (.pointer p2), some (.slice l4.1 l4.2 l4.2), some (.bool false)], r3.2)))).bind fun j6 => joinK j6 fun j6 =>
((sget j6.1 0).bind getP).bind fun p9 =>
((sget (j6.1.tail) 0).bind getS).bind fun l10 =>
((sget (j6.1.tail.tail) 0).bind getB).bind fun b11 =>
(if b11 = true then
(run (Et base) 67 [(.pointer p9), (.int .i64 ((l10.2 : Nat) : Int))] j6.2).bind fun r12 =>
((some r12.1).bind (getI .i64)).bind fun n13 =>
(run (Et base) 92 [(.pointer p9)] r12.2).bind fun r14 =>
((some r14.1).bind (getAgg 6)).bind fun l15 =>
((l15[0]?).bind (getI .i64)).bind fun n16 =>
((l15[1]?).bind (getI .i64)).bind fun n17 =>
((l15[2]?).bind (getI .i64)).bind fun n18 =>
((l15[3]?).bind (getI .i64)).bind fun n19 =>
((l15[4]?).bind getStr).bind fun s20 =>
((l15[5]?).bind getS).bind fun l21 =>
(if 0 ≤ n13 ∧ n13 < ((l10.2 : Nat) : Int) then
((l10.1 : Option Addr)).bind fun a22 =>
(wr base r14.2 a22.block (a22.off + Int.toNat n13 * 6) [(.int .i64 n16), (.int .i64 n17), (.int .i64 n18), (.int .i64 n19), (.string s20), (.slice l21.1 l21.2 l21.2)]).bind fun h23 =>
some (.inl ([some (.slice l10.1 l10.2 l10.2)], h23))
else none)
else
some (.inl ([some (.slice l10.1 l10.2 l10.2)], j6.2)))).bind fun j5 => joinK j5 fun j5 =>
((sget j5.1 0).bind getS).bind fun l24 =>
some ((.slice l24.1 l24.2 l24.2), j5.2) : Option (Value × AH)) := by kernel_rfl
theorem r56 {base : Nat} {v0 : Option Addr} {v0n : Nat} {h : AH} {r : Value × AH} (hx :
((run (Et base) 66 [(.slice v0 v0n v0n)] h).bind fun r1 =>
((some r1.1).bind getP).bind fun p2 =>
(run (Et base) 83 [(.pointer p2)] r1.2).bind fun r3 =>
((some r3.1).bind getS).bind fun l4 =>
(((if (decide (((l4.2 : Nat) : Int) > (0 : Int))) = true then
(run (Et base) 69 [(.pointer p2), (.int .i64 (4 : Int))] r3.2).bind fun r7 =>
((some r7.1).bind getB).bind fun b8 =>
some (.inl ([some (.pointer p2), some (.slice l4.1 l4.2 l4.2), some (.bool b8)], r7.2))
else
some (.inl ([some (.pointer p2), some (.slice l4.1 l4.2 l4.2), some (.bool false)], r3.2)))).bind fun j6 => joinK j6 fun j6 =>
((sget j6.1 0).bind getP).bind fun p9 =>
((sget (j6.1.tail) 0).bind getS).bind fun l10 =>
((sget (j6.1.tail.tail) 0).bind getB).bind fun b11 =>
(if b11 = true then
(run (Et base) 67 [(.pointer p9), (.int .i64 ((l10.2 : Nat) : Int))] j6.2).bind fun r12 =>
((some r12.1).bind (getI .i64)).bind fun n13 =>
(run (Et base) 92 [(.pointer p9)] r12.2).bind fun r14 =>
((some r14.1).bind (getAgg 6)).bind fun l15 =>
((l15[0]?).bind (getI .i64)).bind fun n16 =>
((l15[1]?).bind (getI .i64)).bind fun n17 =>
((l15[2]?).bind (getI .i64)).bind fun n18 =>
((l15[3]?).bind (getI .i64)).bind fun n19 =>
((l15[4]?).bind getStr).bind fun s20 =>
((l15[5]?).bind getS).bind fun l21 =>
(if 0 ≤ n13 ∧ n13 < ((l10.2 : Nat) : Int) then
((l10.1 : Option Addr)).bind fun a22 =>
(wr base r14.2 a22.block (a22.off + Int.toNat n13 * 6) [(.int .i64 n16), (.int .i64 n17), (.int .i64 n18), (.int .i64 n19), (.string s20), (.slice l21.1 l21.2 l21.2)]).bind fun h23 =>
some (.inl ([some (.slice l10.1 l10.2 l10.2)], h23))
else none)
else
some (.inl ([some (.slice l10.1 l10.2 l10.2)], j6.2)))).bind fun j5 => joinK j5 fun j5 =>
((sget j5.1 0).bind getS).bind fun l24 =>
some ((.slice l24.1 l24.2 l24.2), j5.2)) = some r) : run (Et base) 56 [(.slice v0 v0n v0n)] h = some r := run_i Try.func56 (by kernel_rfl) ((f56_eq base v0 v0n h).trans hx)
/-! spec.DrawAddTimer (gates 0) -/
theorem f57_eq (base : Nat) (v0 : Option Addr) (v0n : Nat) (h : AH) : exFun (Et base) (run (Et base)) loopL a57 Try.f57 [(.slice v0 v0n v0n)] h =
((some (h ++ [some ⟨[(.int .i64 0), (.int .i64 0), (.int .i64 0), (.int .i64 0), (.string ⟨#[]⟩), (.slice none 0 0)], 70⟩])).bind fun h1 =>
(run (Et base) 66 [(.slice v0 v0n v0n)] h1).bind fun r2 =>
((some r2.1).bind getP).bind fun p3 =>
(run (Et base) 83 [(.pointer p3)] r2.2).bind fun r4 =>
((some r4.1).bind getS).bind fun l5 =>
(run (Et base) 92 [(.pointer p3)] r4.2).bind fun r6 =>
((some r6.1).bind (getAgg 6)).bind fun l7 =>
((l7[0]?).bind (getI .i64)).bind fun n8 =>
((l7[1]?).bind (getI .i64)).bind fun n9 =>
((l7[2]?).bind (getI .i64)).bind fun n10 =>
((l7[3]?).bind (getI .i64)).bind fun n11 =>
((l7[4]?).bind getStr).bind fun s12 =>
((l7[5]?).bind getS).bind fun l13 =>
(wr base r6.2 (List.length h) 0 [(.int .i64 n8), (.int .i64 n9), (.int .i64 n10), (.int .i64 n11), (.string s12), (.slice l13.1 l13.2 l13.2)]).bind fun h14 =>
((cell h14 (List.length h) 0).bind (getI .i64)).bind fun n15 =>
((cell h14 (List.length h) 1).bind (getI .i64)).bind fun n16 =>
((cell h14 (List.length h) 2).bind (getI .i64)).bind fun n17 =>
((cell h14 (List.length h) 3).bind (getI .i64)).bind fun n18 =>
((cell h14 (List.length h) 4).bind getStr).bind fun s19 =>
((cell h14 (List.length h) 5).bind getS).bind fun l20 =>
some ((.tuple #[(.slice l5.1 l5.2 l5.2), (.agg #[(.int .i64 n15), (.int .i64 n16), (.int .i64 n17), (.int .i64 n18), (.string s19), (.slice l20.1 l20.2 l20.2)])]), h14) : Option (Value × AH)) := by kernel_rfl
theorem r57 {base : Nat} {v0 : Option Addr} {v0n : Nat} {h : AH} {r : Value × AH} (hx :
((some (h ++ [some ⟨[(.int .i64 0), (.int .i64 0), (.int .i64 0), (.int .i64 0), (.string ⟨#[]⟩), (.slice none 0 0)], 70⟩])).bind fun h1 =>
(run (Et base) 66 [(.slice v0 v0n v0n)] h1).bind fun r2 =>
((some r2.1).bind getP).bind fun p3 =>
(run (Et base) 83 [(.pointer p3)] r2.2).bind fun r4 =>
((some r4.1).bind getS).bind fun l5 =>
(run (Et base) 92 [(.pointer p3)] r4.2).bind fun r6 =>
((some r6.1).bind (getAgg 6)).bind fun l7 =>
((l7[0]?).bind (getI .i64)).bind fun n8 =>
((l7[1]?).bind (getI .i64)).bind fun n9 =>
((l7[2]?).bind (getI .i64)).bind fun n10 =>
((l7[3]?).bind (getI .i64)).bind fun n11 =>
((l7[4]?).bind getStr).bind fun s12 =>
((l7[5]?).bind getS).bind fun l13 =>
(wr base r6.2 (List.length h) 0 [(.int .i64 n8), (.int .i64 n9), (.int .i64 n10), (.int .i64 n11), (.string s12), (.slice l13.1 l13.2 l13.2)]).bind fun h14 =>
((cell h14 (List.length h) 0).bind (getI .i64)).bind fun n15 =>
((cell h14 (List.length h) 1).bind (getI .i64)).bind fun n16 =>
((cell h14 (List.length h) 2).bind (getI .i64)).bind fun n17 =>
((cell h14 (List.length h) 3).bind (getI .i64)).bind fun n18 =>
((cell h14 (List.length h) 4).bind getStr).bind fun s19 =>
((cell h14 (List.length h) 5).bind getS).bind fun l20 =>
some ((.tuple #[(.slice l5.1 l5.2 l5.2), (.agg #[(.int .i64 n15), (.int .i64 n16), (.int .i64 n17), (.int .i64 n18), (.string s19), (.slice l20.1 l20.2 l20.2)])]), h14)) = some r) : run (Et base) 57 [(.slice v0 v0n v0n)] h = some r := run_i Try.func57 (by kernel_rfl) ((f57_eq base v0 v0n h).trans hx)
/-! impl.AddTimer (gates 1) -/
noncomputable def B58_0 (base : Nat) : Body := fun l h => lay s58_0 l fun s => exCode (Et base) (run (Et base)) loopL a58_0 (subC [1, 1, 1, 0, 0, 0] (bodyC Try.f58)) s h (keepK s58_0 e58_0)
theorem B58_0_eq (base : Nat) (v0 : Option Addr) (v0n : Nat) (v3 : Addr) (v6 : Int) (h : AH) : B58_0 base [some (.slice v0 v0n v0n), some (.pointer (some v3)), some (.int .i64 v6)] h =
(((if (decide (v6 < ((v0n : Nat) : Int))) = true then
(if 0 ≤ v6 ∧ v6 < ((v0n : Nat) : Int) then
((v0 : Option Addr)).bind fun a2 =>
((cell h a2.block ((a2.off + Int.toNat v6 * 6) + 0)).bind (getI .i64)).bind fun n3 =>
((cell h v3.block (v3.off + 0)).bind (getI .i64)).bind fun n4 =>
some (.inl ([some (.slice v0 v0n v0n), some (.pointer (some v3)), some (.int .i64 v6), some (.bool (decide (n3 ≤ n4)))], h))
else none)
else
some (.inl ([some (.slice v0 v0n v0n), some (.pointer (some v3)), some (.int .i64 v6), some (.bool false)], h)))).bind fun j1 => joinK j1 fun j1 =>
((sget j1.1 0).bind getS).bind fun l5 =>
((sget (j1.1.tail) 0).bind getA).bind fun d6 =>
((sget (j1.1.tail.tail) 0).bind (getI .i64)).bind fun n7 =>
((sget (j1.1.tail.tail.tail) 0).bind getB).bind fun b8 =>
(if b8 = true then
some (0, [some (.slice l5.1 l5.2 l5.2), some (.pointer (some d6)), some (.int .i64 (IntKind.wrap .i64 (n7 + (1 : Int))))], j1.2)
else
some (2, [some (.slice l5.1 l5.2 l5.2), some (.pointer (some d6)), some (.int .i64 n7)], j1.2)) : Option (Nat × Slots × AH)) := by kernel_rfl
theorem f58_eq (base : Nat) (v0 : Option Addr) (v0n : Nat) (v1_0 : Int) (v1_1 : Int) (v1_2 : Int) (v1_3 : Int) (v1_4 : ByteArray) (v1_5 : Option Addr) (v1_5n : Nat) (h : AH) : exFun (Et base) (run (Et base)) loopL a58 Try.f58 [(.slice v0 v0n v0n), (.agg #[(.int .i64 v1_0), (.int .i64 v1_1), (.int .i64 v1_2), (.int .i64 v1_3), (.string v1_4), (.slice v1_5 v1_5n v1_5n)])] h =
((some (h ++ [some ⟨[(.int .i64 v1_0), (.int .i64 v1_1), (.int .i64 v1_2), (.int .i64 v1_3), (.string v1_4), (.slice v1_5 v1_5n v1_5n)], 70⟩])).bind fun h1 =>
((run (Et base) 45 [(.slice v0 v0n v0n)] h1).bind fun r3 =>
((some r3.1).bind getB).bind fun b4 =>
(if (!b4) = true then
some (.inl ([some (.slice v0 v0n v0n), some (.pointer (some ⟨(List.length h), 0, none⟩)), some (.bool true)], r3.2))
else
((cell r3.2 (List.length h) 0).bind (getI .i64)).bind fun n5 =>
((cell r3.2 (List.length h) 1).bind (getI .i64)).bind fun n6 =>
((cell r3.2 (List.length h) 2).bind (getI .i64)).bind fun n7 =>
((cell r3.2 (List.length h) 3).bind (getI .i64)).bind fun n8 =>
((cell r3.2 (List.length h) 4).bind getStr).bind fun s9 =>
((cell r3.2 (List.length h) 5).bind getS).bind fun l10 =>
(run (Et base) 81 [(.agg #[(.int .i64 n5), (.int .i64 n6), (.int .i64 n7), (.int .i64 n8), (.string s9), (.slice l10.1 l10.2 l10.2)])] r3.2).bind fun r11 =>
((some r11.1).bind getB).bind fun b12 =>
(if (!b12) = true then
some (.inl ([some (.slice v0 v0n v0n), some (.pointer (some ⟨(List.length h), 0, none⟩)), some (.bool true)], r11.2))
else
some (.inl ([some (.slice v0 v0n v0n), some (.pointer (some ⟨(List.length h), 0, none⟩)), some (.bool (decide (((v0n : Nat) : Int) ≥ (50 : Int))))], r11.2))))).bind fun j2 => joinK j2 fun j2 =>
((sget j2.1 0).bind getS).bind fun l13 =>
((sget (j2.1.tail) 0).bind getA).bind fun d14 =>
((sget (j2.1.tail.tail) 0).bind getB).bind fun b15 =>
(if b15 = true then
(run (Et base) 84 [(.slice l13.1 l13.2 l13.2), (.func (.func 93) #[] #[])] j2.2).bind fun r16 =>
((some r16.1).bind getS).bind fun l17 =>
some ((.tuple #[(.slice l17.1 l17.2 l17.2), (.bool false)]), r16.2)
else
(loopL (B58_0 base) [some (.slice l13.1 l13.2 l13.2), some (.pointer (some d14)), some (.int .i64 (0 : Int))] j2.2).bind fun q18 =>
(if q18.1 = 2 then
((sget q18.2.1 0).bind getS).bind fun l19 =>
((sget (q18.2.1.tail) 0).bind getA).bind fun d20 =>
((sget (q18.2.1.tail.tail) 0).bind (getI .i64)).bind fun n21 =>
(if 0 ≤ (0 : Int) ∧ (0 : Int) ≤ n21 ∧ n21 ≤ ((l19.2 : Nat) : Int) ∧ okTy base q18.2.2 l19.1 70 (Int.toNat (0 : Int)) = true then
(app base q18.2.2 70 6 72 none 0 (rawAt q18.2.2 (shiftA l19.1 (Int.toNat (0 : Int) * 6)) ((Int.toNat n21 - Int.toNat (0 : Int)) * 6)) (Int.toNat n21 - Int.toNat (0 : Int))).bind fun p22 =>
((some p22.1).bind getS).bind fun l23 =>
(gate (sameA q18.2.2 p22.2 (some d20) 6)
(((cell p22.2 d20.block d20.off).bind (getI .i64)).bind fun n24 =>
((cell p22.2 d20.block (d20.off + 1)).bind (getI .i64)).bind fun n25 =>
((cell p22.2 d20.block ((d20.off + 1) + 1)).bind (getI .i64)).bind fun n26 =>
((cell p22.2 d20.block (((d20.off + 1) + 1) + 1)).bind (getI .i64)).bind fun n27 =>
((cell p22.2 d20.block ((((d20.off + 1) + 1) + 1) + 1)).bind getStr).bind fun s28 =>
((cell p22.2 d20.block (((((d20.off + 1) + 1) + 1) + 1) + 1)).bind getS).bind fun l29 =>
none))
else none)
else
none)) : Option (Value × AH)) := by kernel_rfl
theorem r58 {base : Nat} {v0 : Option Addr} {v0n : Nat} {v1_0 : Int} {v1_1 : Int} {v1_2 : Int} {v1_3 : Int} {v1_4 : ByteArray} {v1_5 : Option Addr} {v1_5n : Nat} {h : AH} {r : Value × AH} (hx :
((some (h ++ [some ⟨[(.int .i64 v1_0), (.int .i64 v1_1), (.int .i64 v1_2), (.int .i64 v1_3), (.string v1_4), (.slice v1_5 v1_5n v1_5n)], 70⟩])).bind fun h1 =>
((run (Et base) 45 [(.slice v0 v0n v0n)] h1).bind fun r3 =>
((some r3.1).bind getB).bind fun b4 =>
(if (!b4) = true then
some (.inl ([some (.slice v0 v0n v0n), some (.pointer (some ⟨(List.length h), 0, none⟩)), some (.bool true)], r3.2))
else
((cell r3.2 (List.length h) 0).bind (getI .i64)).bind fun n5 =>
((cell r3.2 (List.length h) 1).bind (getI .i64)).bind fun n6 =>
((cell r3.2 (List.length h) 2).bind (getI .i64)).bind fun n7 =>
((cell r3.2 (List.length h) 3).bind (getI .i64)).bind fun n8 =>
((cell r3.2 (List.length h) 4).bind getStr).bind fun s9 =>
((cell r3.2 (List.length h) 5).bind getS).bind fun l10 =>
(run (Et base) 81 [(.agg #[(.int .i64 n5), (.int .i64 n6), (.int .i64 n7), (.int .i64 n8), (.string s9), (.slice l10.1 l10.2 l10.2)])] r3.2).bind fun r11 =>
((some r11.1).bind getB).bind fun b12 =>
(if (!b12) = true then
some (.inl ([some (.slice v0 v0n v0n), some (.pointer (some ⟨(List.length h), 0, none⟩)), some (.bool true)], r11.2))
else
some (.inl ([some (.slice v0 v0n v0n), some (.pointer (some ⟨(List.length h), 0, none⟩)), some (.bool (decide (((v0n : Nat) : Int) ≥ (50 : Int))))], r11.2))))).bind fun j2 => joinK j2 fun j2 =>
((sget j2.1 0).bind getS).bind fun l13 =>
((sget (j2.1.tail) 0).bind getA).bind fun d14 =>
((sget (j2.1.tail.tail) 0).bind getB).bind fun b15 =>
(if b15 = true then
(run (Et base) 84 [(.slice l13.1 l13.2 l13.2), (.func (.func 93) #[] #[])] j2.2).bind fun r16 =>
((some r16.1).bind getS).bind fun l17 =>
some ((.tuple #[(.slice l17.1 l17.2 l17.2), (.bool false)]), r16.2)
else
(loopL (B58_0 base) [some (.slice l13.1 l13.2 l13.2), some (.pointer (some d14)), some (.int .i64 (0 : Int))] j2.2).bind fun q18 =>
(if q18.1 = 2 then
((sget q18.2.1 0).bind getS).bind fun l19 =>
((sget (q18.2.1.tail) 0).bind getA).bind fun d20 =>
((sget (q18.2.1.tail.tail) 0).bind (getI .i64)).bind fun n21 =>
(if 0 ≤ (0 : Int) ∧ (0 : Int) ≤ n21 ∧ n21 ≤ ((l19.2 : Nat) : Int) ∧ okTy base q18.2.2 l19.1 70 (Int.toNat (0 : Int)) = true then
(app base q18.2.2 70 6 72 none 0 (rawAt q18.2.2 (shiftA l19.1 (Int.toNat (0 : Int) * 6)) ((Int.toNat n21 - Int.toNat (0 : Int)) * 6)) (Int.toNat n21 - Int.toNat (0 : Int))).bind fun p22 =>
((some p22.1).bind getS).bind fun l23 =>
(gate (sameA q18.2.2 p22.2 (some d20) 6)
(((cell p22.2 d20.block d20.off).bind (getI .i64)).bind fun n24 =>
((cell p22.2 d20.block (d20.off + 1)).bind (getI .i64)).bind fun n25 =>
((cell p22.2 d20.block ((d20.off + 1) + 1)).bind (getI .i64)).bind fun n26 =>
((cell p22.2 d20.block (((d20.off + 1) + 1) + 1)).bind (getI .i64)).bind fun n27 =>
((cell p22.2 d20.block ((((d20.off + 1) + 1) + 1) + 1)).bind getStr).bind fun s28 =>
((cell p22.2 d20.block (((((d20.off + 1) + 1) + 1) + 1) + 1)).bind getS).bind fun l29 =>
none))
else none)
else
none))) = some r) : run (Et base) 58 [(.slice v0 v0n v0n), (.agg #[(.int .i64 v1_0), (.int .i64 v1_1), (.int .i64 v1_2), (.int .i64 v1_3), (.string v1_4), (.slice v1_5 v1_5n v1_5n)])] h = some r := run_i Try.func58 (by kernel_rfl) ((f58_eq base v0 v0n v1_0 v1_1 v1_2 v1_3 v1_4 v1_5 v1_5n h).trans hx)
/-! spec.AddTimer (gates 0) -/
noncomputable def B59_0 (base : Nat) : Body := fun l h => lay s59_0 l fun s => exCode (Et base) (run (Et base)) loopL a59_0 (subC [1, 1, 1, 1, 1, 1, 0, 0, 0] (bodyC Try.f59)) s h (keepK s59_0 e59_0)
theorem B59_0_eq (base : Nat) (v3 : Addr) (v6 : Option Addr) (v6n : Nat) (v7 : Int) (h : AH) : B59_0 base [some (.pointer (some v3)), some (.slice v6 v6n v6n), some (.int .i64 v7)] h =
(((if (decide (v7 > (0 : Int))) = true then
(if 0 ≤ (IntKind.wrap .i64 (v7 - (1 : Int))) ∧ (IntKind.wrap .i64 (v7 - (1 : Int))) < ((v6n : Nat) : Int) then
((v6 : Option Addr)).bind fun a2 =>
((cell h a2.block ((a2.off + Int.toNat (IntKind.wrap .i64 (v7 - (1 : Int))) * 6) + 0)).bind (getI .i64)).bind fun n3 =>
((cell h v3.block (v3.off + 0)).bind (getI .i64)).bind fun n4 =>
some (.inl ([some (.pointer (some v3)), some (.slice v6 v6n v6n), some (.int .i64 v7), some (.bool (decide (n3 > n4)))], h))
else none)
else
some (.inl ([some (.pointer (some v3)), some (.slice v6 v6n v6n), some (.int .i64 v7), some (.bool false)], h)))).bind fun j1 => joinK j1 fun j1 =>
((sget j1.1 0).bind getA).bind fun d5 =>
((sget (j1.1.tail) 0).bind getS).bind fun l6 =>
((sget (j1.1.tail.tail) 0).bind (getI .i64)).bind fun n7 =>
((sget (j1.1.tail.tail.tail) 0).bind getB).bind fun b8 =>
(if b8 = true then
(if 0 ≤ (IntKind.wrap .i64 (n7 - (1 : Int))) ∧ (IntKind.wrap .i64 (n7 - (1 : Int))) < ((l6.2 : Nat) : Int) then
((l6.1 : Option Addr)).bind fun a9 =>
((cell j1.2 a9.block (a9.off + Int.toNat (IntKind.wrap .i64 (n7 - (1 : Int))) * 6)).bind (getI .i64)).bind fun n10 =>
((cell j1.2 a9.block ((a9.off + Int.toNat (IntKind.wrap .i64 (n7 - (1 : Int))) * 6) + 1)).bind (getI .i64)).bind fun n11 =>
((cell j1.2 a9.block (((a9.off + Int.toNat (IntKind.wrap .i64 (n7 - (1 : Int))) * 6) + 1) + 1)).bind (getI .i64)).bind fun n12 =>
((cell j1.2 a9.block ((((a9.off + Int.toNat (IntKind.wrap .i64 (n7 - (1 : Int))) * 6) + 1) + 1) + 1)).bind (getI .i64)).bind fun n13 =>
((cell j1.2 a9.block (((((a9.off + Int.toNat (IntKind.wrap .i64 (n7 - (1 : Int))) * 6) + 1) + 1) + 1) + 1)).bind getStr).bind fun s14 =>
((cell j1.2 a9.block ((((((a9.off + Int.toNat (IntKind.wrap .i64 (n7 - (1 : Int))) * 6) + 1) + 1) + 1) + 1) + 1)).bind getS).bind fun l15 =>
(if 0 ≤ n7 ∧ n7 < ((l6.2 : Nat) : Int) then
((l6.1 : Option Addr)).bind fun a16 =>
(wr base j1.2 a16.block (a16.off + Int.toNat n7 * 6) [(.int .i64 n10), (.int .i64 n11), (.int .i64 n12), (.int .i64 n13), (.string s14), (.slice l15.1 l15.2 l15.2)]).bind fun h17 =>
some (0, [some (.pointer (some d5)), some (.slice l6.1 l6.2 l6.2), some (.int .i64 (IntKind.wrap .i64 (n7 - (1 : Int))))], h17)
else none)
else none)
else
some (2, [some (.pointer (some d5)), some (.slice l6.1 l6.2 l6.2), some (.int .i64 n7)], j1.2)) : Option (Nat × Slots × AH)) := by kernel_rfl
theorem f59_eq (base : Nat) (v0 : Option Addr) (v0n : Nat) (v1_0 : Int) (v1_1 : Int) (v1_2 : Int) (v1_3 : Int) (v1_4 : ByteArray) (v1_5 : Option Addr) (v1_5n : Nat) (h : AH) : exFun (Et base) (run (Et base)) loopL a59 Try.f59 [(.slice v0 v0n v0n), (.agg #[(.int .i64 v1_0), (.int .i64 v1_1), (.int .i64 v1_2), (.int .i64 v1_3), (.string v1_4), (.slice v1_5 v1_5n v1_5n)])] h =
((some (h ++ [some ⟨[(.int .i64 v1_0), (.int .i64 v1_1), (.int .i64 v1_2), (.int .i64 v1_3), (.string v1_4), (.slice v1_5 v1_5n v1_5n)], 70⟩])).bind fun h1 =>
(run (Et base) 87 [(.slice v0 v0n v0n)] h1).bind fun r2 =>
((some r2.1).bind getS).bind fun l3 =>
((run (Et base) 43 [(.slice v0 v0n v0n)] r2.2).bind fun r5 =>
((some r5.1).bind getB).bind fun b6 =>
(if (!b6) = true then
some (.inl ([some (.pointer (some ⟨(List.length h), 0, none⟩)), some (.slice l3.1 l3.2 l3.2), some (.bool true)], r5.2))
else
((cell r5.2 (List.length h) 0).bind (getI .i64)).bind fun n7 =>
((cell r5.2 (List.length h) 1).bind (getI .i64)).bind fun n8 =>
((cell r5.2 (List.length h) 2).bind (getI .i64)).bind fun n9 =>
((cell r5.2 (List.length h) 3).bind (getI .i64)).bind fun n10 =>
((cell r5.2 (List.length h) 4).bind getStr).bind fun s11 =>
((cell r5.2 (List.length h) 5).bind getS).bind fun l12 =>
(run (Et base) 79 [(.agg #[(.int .i64 n7), (.int .i64 n8), (.int .i64 n9), (.int .i64 n10), (.string s11), (.slice l12.1 l12.2 l12.2)])] r5.2).bind fun r13 =>
((some r13.1).bind getB).bind fun b14 =>
(if (!b14) = true then
some (.inl ([some (.pointer (some ⟨(List.length h), 0, none⟩)), some (.slice l3.1 l3.2 l3.2), some (.bool true)], r13.2))
else
some (.inl ([some (.pointer (some ⟨(List.length h), 0, none⟩)), some (.slice l3.1 l3.2 l3.2), some (.bool (((v0n : Nat) : Int) == (50 : Int)))], r13.2))))).bind fun j4 => joinK j4 fun j4 =>
((sget j4.1 0).bind getA).bind fun d15 =>
((sget (j4.1.tail) 0).bind getS).bind fun l16 =>
((sget (j4.1.tail.tail) 0).bind getB).bind fun b17 =>
(if b17 = true then
some ((.tuple #[(.slice l16.1 l16.2 l16.2), (.bool false)]), j4.2)
else
((cell j4.2 d15.block (d15.off + 2)).bind (getI .i64)).bind fun n18 =>
((cell j4.2 d15.block ((d15.off + 2) + 1)).bind (getI .i64)).bind fun n19 =>
((cell j4.2 d15.block (((d15.off + 2) + 1) + 1)).bind getStr).bind fun s20 =>
((cell j4.2 d15.block ((((d15.off + 2) + 1) + 1) + 1)).bind getS).bind fun l21 =>
(run (Et base) 94 [(.agg #[(.int .i64 n18), (.int .i64 n19), (.string s20), (.slice l21.1 l21.2 l21.2)])] j4.2).bind fun r22 =>
((some r22.1).bind (getAgg 4)).bind fun l23 =>
((l23[0]?).bind (getI .i64)).bind fun n24 =>
((l23[1]?).bind (getI .i64)).bind fun n25 =>
((l23[2]?).bind getStr).bind fun s26 =>
((l23[3]?).bind getS).bind fun l27 =>
(wr base r22.2 d15.block (d15.off + 2) [(.int .i64 n24), (.int .i64 n25), (.string s26), (.slice l27.1 l27.2 l27.2)]).bind fun h28 =>
((cell h28 d15.block d15.off).bind (getI .i64)).bind fun n29 =>
((cell h28 d15.block (d15.off + 1)).bind (getI .i64)).bind fun n30 =>
((cell h28 d15.block ((d15.off + 1) + 1)).bind (getI .i64)).bind fun n31 =>
((cell h28 d15.block (((d15.off + 1) + 1) + 1)).bind (getI .i64)).bind fun n32 =>
((cell h28 d15.block ((((d15.off + 1) + 1) + 1) + 1)).bind getStr).bind fun s33 =>
((cell h28 d15.block (((((d15.off + 1) + 1) + 1) + 1) + 1)).bind getS).bind fun l34 =>
(some (h28 ++ [some ⟨[(.int .i64 n29), (.int .i64 n30), (.int .i64 n31), (.int .i64 n32), (.string s33), (.slice l34.1 l34.2 l34.2)], 70⟩])).bind fun h35 =>
(app base h35 70 6 72 l16.1 l16.2 (rawAt h35 (some ⟨(List.length h28), 0, none⟩) (1 * 6)) 1).bind fun p36 =>
((some p36.1).bind getS).bind fun l37 =>
(loopL (B59_0 base) [some (.pointer (some d15)), some (.slice l37.1 l37.2 l37.2), some (.int .i64 ((l16.2 : Nat) : Int))] p36.2).bind fun q38 =>
(if q38.1 = 2 then
((sget q38.2.1 0).bind getA).bind fun d39 =>
((sget (q38.2.1.tail) 0).bind getS).bind fun l40 =>
((sget (q38.2.1.tail.tail) 0).bind (getI .i64)).bind fun n41 =>
((cell q38.2.2 d39.block d39.off).bind (getI .i64)).bind fun n42 =>
((cell q38.2.2 d39.block (d39.off + 1)).bind (getI .i64)).bind fun n43 =>
((cell q38.2.2 d39.block ((d39.off + 1) + 1)).bind (getI .i64)).bind fun n44 =>
((cell q38.2.2 d39.block (((d39.off + 1) + 1) + 1)).bind (getI .i64)).bind fun n45 =>
((cell q38.2.2 d39.block ((((d39.off + 1) + 1) + 1) + 1)).bind getStr).bind fun s46 =>
((cell q38.2.2 d39.block (((((d39.off + 1) + 1) + 1) + 1) + 1)).bind getS).bind fun l47 =>
(if 0 ≤ n41 ∧ n41 < ((l40.2 : Nat) : Int) then
((l40.1 : Option Addr)).bind fun a48 =>
(wr base q38.2.2 a48.block (a48.off + Int.toNat n41 * 6) [(.int .i64 n42), (.int .i64 n43), (.int .i64 n44), (.int .i64 n45), (.string s46), (.slice l47.1 l47.2 l47.2)]).bind fun h49 =>
some ((.tuple #[(.slice l40.1 l40.2 l40.2), (.bool true)]), h49)
else none)
else
none)) : Option (Value × AH)) := by kernel_rfl
theorem r59 {base : Nat} {v0 : Option Addr} {v0n : Nat} {v1_0 : Int} {v1_1 : Int} {v1_2 : Int} {v1_3 : Int} {v1_4 : ByteArray} {v1_5 : Option Addr} {v1_5n : Nat} {h : AH} {r : Value × AH} (hx :
((some (h ++ [some ⟨[(.int .i64 v1_0), (.int .i64 v1_1), (.int .i64 v1_2), (.int .i64 v1_3), (.string v1_4), (.slice v1_5 v1_5n v1_5n)], 70⟩])).bind fun h1 =>
(run (Et base) 87 [(.slice v0 v0n v0n)] h1).bind fun r2 =>
((some r2.1).bind getS).bind fun l3 =>
((run (Et base) 43 [(.slice v0 v0n v0n)] r2.2).bind fun r5 =>
((some r5.1).bind getB).bind fun b6 =>
(if (!b6) = true then
some (.inl ([some (.pointer (some ⟨(List.length h), 0, none⟩)), some (.slice l3.1 l3.2 l3.2), some (.bool true)], r5.2))
else
((cell r5.2 (List.length h) 0).bind (getI .i64)).bind fun n7 =>
((cell r5.2 (List.length h) 1).bind (getI .i64)).bind fun n8 =>
((cell r5.2 (List.length h) 2).bind (getI .i64)).bind fun n9 =>
((cell r5.2 (List.length h) 3).bind (getI .i64)).bind fun n10 =>
((cell r5.2 (List.length h) 4).bind getStr).bind fun s11 =>
((cell r5.2 (List.length h) 5).bind getS).bind fun l12 =>
(run (Et base) 79 [(.agg #[(.int .i64 n7), (.int .i64 n8), (.int .i64 n9), (.int .i64 n10), (.string s11), (.slice l12.1 l12.2 l12.2)])] r5.2).bind fun r13 =>
((some r13.1).bind getB).bind fun b14 =>
(if (!b14) = true then
some (.inl ([some (.pointer (some ⟨(List.length h), 0, none⟩)), some (.slice l3.1 l3.2 l3.2), some (.bool true)], r13.2))
else
some (.inl ([some (.pointer (some ⟨(List.length h), 0, none⟩)), some (.slice l3.1 l3.2 l3.2), some (.bool (((v0n : Nat) : Int) == (50 : Int)))], r13.2))))).bind fun j4 => joinK j4 fun j4 =>
((sget j4.1 0).bind getA).bind fun d15 =>
((sget (j4.1.tail) 0).bind getS).bind fun l16 =>
((sget (j4.1.tail.tail) 0).bind getB).bind fun b17 =>
(if b17 = true then
some ((.tuple #[(.slice l16.1 l16.2 l16.2), (.bool false)]), j4.2)
else
((cell j4.2 d15.block (d15.off + 2)).bind (getI .i64)).bind fun n18 =>
((cell j4.2 d15.block ((d15.off + 2) + 1)).bind (getI .i64)).bind fun n19 =>
((cell j4.2 d15.block (((d15.off + 2) + 1) + 1)).bind getStr).bind fun s20 =>
((cell j4.2 d15.block ((((d15.off + 2) + 1) + 1) + 1)).bind getS).bind fun l21 =>
(run (Et base) 94 [(.agg #[(.int .i64 n18), (.int .i64 n19), (.string s20), (.slice l21.1 l21.2 l21.2)])] j4.2).bind fun r22 =>
((some r22.1).bind (getAgg 4)).bind fun l23 =>
((l23[0]?).bind (getI .i64)).bind fun n24 =>
((l23[1]?).bind (getI .i64)).bind fun n25 =>
((l23[2]?).bind getStr).bind fun s26 =>
((l23[3]?).bind getS).bind fun l27 =>
(wr base r22.2 d15.block (d15.off + 2) [(.int .i64 n24), (.int .i64 n25), (.string s26), (.slice l27.1 l27.2 l27.2)]).bind fun h28 =>
((cell h28 d15.block d15.off).bind (getI .i64)).bind fun n29 =>
((cell h28 d15.block (d15.off + 1)).bind (getI .i64)).bind fun n30 =>
((cell h28 d15.block ((d15.off + 1) + 1)).bind (getI .i64)).bind fun n31 =>
((cell h28 d15.block (((d15.off + 1) + 1) + 1)).bind (getI .i64)).bind fun n32 =>
((cell h28 d15.block ((((d15.off + 1) + 1) + 1) + 1)).bind getStr).bind fun s33 =>
((cell h28 d15.block (((((d15.off + 1) + 1) + 1) + 1) + 1)).bind getS).bind fun l34 =>
(some (h28 ++ [some ⟨[(.int .i64 n29), (.int .i64 n30), (.int .i64 n31), (.int .i64 n32), (.string s33), (.slice l34.1 l34.2 l34.2)], 70⟩])).bind fun h35 =>
(app base h35 70 6 72 l16.1 l16.2 (rawAt h35 (some ⟨(List.length h28), 0, none⟩) (1 * 6)) 1).bind fun p36 =>
((some p36.1).bind getS).bind fun l37 =>
(loopL (B59_0 base) [some (.pointer (some d15)), some (.slice l37.1 l37.2 l37.2), some (.int .i64 ((l16.2 : Nat) : Int))] p36.2).bind fun q38 =>
(if q38.1 = 2 then
((sget q38.2.1 0).bind getA).bind fun d39 =>
((sget (q38.2.1.tail) 0).bind getS).bind fun l40 =>
((sget (q38.2.1.tail.tail) 0).bind (getI .i64)).bind fun n41 =>
((cell q38.2.2 d39.block d39.off).bind (getI .i64)).bind fun n42 =>
((cell q38.2.2 d39.block (d39.off + 1)).bind (getI .i64)).bind fun n43 =>
((cell q38.2.2 d39.block ((d39.off + 1) + 1)).bind (getI .i64)).bind fun n44 =>
((cell q38.2.2 d39.block (((d39.off + 1) + 1) + 1)).bind (getI .i64)).bind fun n45 =>
((cell q38.2.2 d39.block ((((d39.off + 1) + 1) + 1) + 1)).bind getStr).bind fun s46 =>
((cell q38.2.2 d39.block (((((d39.off + 1) + 1) + 1) + 1) + 1)).bind getS).bind fun l47 =>
(if 0 ≤ n41 ∧ n41 < ((l40.2 : Nat) : Int) then
((l40.1 : Option Addr)).bind fun a48 =>
(wr base q38.2.2 a48.block (a48.off + Int.toNat n41 * 6) [(.int .i64 n42), (.int .i64 n43), (.int .i64 n44), (.int .i64 n45), (.string s46), (.slice l47.1 l47.2 l47.2)]).bind fun h49 =>
some ((.tuple #[(.slice l40.1 l40.2 l40.2), (.bool true)]), h49)
else none)
else
none))) = some r) : run (Et base) 59 [(.slice v0 v0n v0n), (.agg #[(.int .i64 v1_0), (.int .i64 v1_1), (.int .i64 v1_2), (.int .i64 v1_3), (.string v1_4), (.slice v1_5 v1_5n v1_5n)])] h = some r := run_i Try.func59 (by kernel_rfl) ((f59_eq base v0 v0n v1_0 v1_1 v1_2 v1_3 v1_4 v1_5 v1_5n h).trans hx)
/-! spec.l1In (gates 0) -/
theorem f60_eq (base : Nat) (v0 : Int) (v1 : Int) (v2 : Int) (h : AH) : exFun (Et base) (run (Et base)) loopL a60 Try.f60 [(.int .i64 v0), (.int .i64 v1), (.int .i64 v2)] h =
((if (decide (v0 ≥ v1)) = true then
some ((.bool (decide (v0 ≤ v2))), h)
else
some ((.bool false), h)) : Option (Value × AH)) := by kernel_rfl
theorem r60 {base : Nat} {v0 : Int} {v1 : Int} {v2 : Int} {h : AH} {r : Value × AH} (hx :
((if (decide (v0 ≥ v1)) = true then
some ((.bool (decide (v0 ≤ v2))), h)
else
some ((.bool false), h))) = some r) : run (Et base) 60 [(.int .i64 v0), (.int .i64 v1), (.int .i64 v2)] h = some r := run_i Try.func60 (by kernel_rfl) ((f60_eq base v0 v1 v2 h).trans hx)
/-! impl.in (gates 0) -/
theorem f61_eq (base : Nat) (v0 : Int) (v1 : Int) (v2 : Int) (h : AH) : exFun (Et base) (run (Et base)) loopL a61 Try.f61 [(.int .i64 v0), (.int .i64 v1), (.int .i64 v2)] h =
((if (decide (v0 ≥ v1)) = true then
some ((.bool (decide (v0 ≤ v2))), h)
else
some ((.bool false), h)) : Option (Value × AH)) := by kernel_rfl
theorem r61 {base : Nat} {v0 : Int} {v1 : Int} {v2 : Int} {h : AH} {r : Value × AH} (hx :
((if (decide (v0 ≥ v1)) = true then
some ((.bool (decide (v0 ≤ v2))), h)
else
some ((.bool false), h))) = some r) : run (Et base) 61 [(.int .i64 v0), (.int .i64 v1), (.int .i64 v2)] h = some r := run_i Try.func61 (by kernel_rfl) ((f61_eq base v0 v1 v2 h).trans hx)
/-! laws.szTimer (gates 0) -/
theorem f78_eq (base : Nat) (v0_0 : Int) (v0_1 : Int) (v0_2 : Int) (v0_3 : Int) (v0_4 : ByteArray) (v0_5 : Option Addr) (v0_5n : Nat) (v1 : Int) (h : AH) : exFun (Et base) (run (Et base)) loopL a78 Try.f78 [(.agg #[(.int .i64 v0_0), (.int .i64 v0_1), (.int .i64 v0_2), (.int .i64 v0_3), (.string v0_4), (.slice v0_5 v0_5n v0_5n)]), (.int .i64 v1)] h =
((some (h ++ [some ⟨[(.int .i64 v0_0), (.int .i64 v0_1), (.int .i64 v0_2), (.int .i64 v0_3), (.string v0_4), (.slice v0_5 v0_5n v0_5n)], 102⟩])).bind fun h1 =>
((cell h1 (List.length h) 2).bind (getI .i64)).bind fun n2 =>
((cell h1 (List.length h) 3).bind (getI .i64)).bind fun n3 =>
((cell h1 (List.length h) 4).bind getStr).bind fun s4 =>
((cell h1 (List.length h) 5).bind getS).bind fun l5 =>
(run (Et base) 98 [(.agg #[(.int .i64 n2), (.int .i64 n3), (.string s4), (.slice l5.1 l5.2 l5.2)]), (.int .i64 v1)] h1).bind fun r6 =>
((some r6.1).bind (getI .i64)).bind fun n7 =>
(if (decide (n7 < (0 : Int))) = true then
some ((.int .i64 (-1 : Int)), r6.2)
else
some ((.int .i64 n7), r6.2)) : Option (Value × AH)) := by kernel_rfl
theorem r78 {base : Nat} {v0_0 : Int} {v0_1 : Int} {v0_2 : Int} {v0_3 : Int} {v0_4 : ByteArray} {v0_5 : Option Addr} {v0_5n : Nat} {v1 : Int} {h : AH} {r : Value × AH} (hx :
((some (h ++ [some ⟨[(.int .i64 v0_0), (.int .i64 v0_1), (.int .i64 v0_2), (.int .i64 v0_3), (.string v0_4), (.slice v0_5 v0_5n v0_5n)], 102⟩])).bind fun h1 =>
((cell h1 (List.length h) 2).bind (getI .i64)).bind fun n2 =>
((cell h1 (List.length h) 3).bind (getI .i64)).bind fun n3 =>
((cell h1 (List.length h) 4).bind getStr).bind fun s4 =>
((cell h1 (List.length h) 5).bind getS).bind fun l5 =>
(run (Et base) 98 [(.agg #[(.int .i64 n2), (.int .i64 n3), (.string s4), (.slice l5.1 l5.2 l5.2)]), (.int .i64 v1)] h1).bind fun r6 =>
((some r6.1).bind (getI .i64)).bind fun n7 =>
(if (decide (n7 < (0 : Int))) = true then
some ((.int .i64 (-1 : Int)), r6.2)
else
some ((.int .i64 n7), r6.2))) = some r) : run (Et base) 78 [(.agg #[(.int .i64 v0_0), (.int .i64 v0_1), (.int .i64 v0_2), (.int .i64 v0_3), (.string v0_4), (.slice v0_5 v0_5n v0_5n)]), (.int .i64 v1)] h = some r := run_i Try.func78 (by kernel_rfl) ((f78_eq base v0_0 v0_1 v0_2 v0_3 v0_4 v0_5 v0_5n v1 h).trans hx)
/-! spec.l14Timer (gates 0) -/
theorem f79_eq (base : Nat) (v0_0 : Int) (v0_1 : Int) (v0_2 : Int) (v0_3 : Int) (v0_4 : ByteArray) (v0_5 : Option Addr) (v0_5n : Nat) (h : AH) : exFun (Et base) (run (Et base)) loopL a79 Try.f79 [(.agg #[(.int .i64 v0_0), (.int .i64 v0_1), (.int .i64 v0_2), (.int .i64 v0_3), (.string v0_4), (.slice v0_5 v0_5n v0_5n)])] h =
((some (h ++ [some ⟨[(.int .i64 v0_0), (.int .i64 v0_1), (.int .i64 v0_2), (.int .i64 v0_3), (.string v0_4), (.slice v0_5 v0_5n v0_5n)], 70⟩])).bind fun h1 =>
((cell h1 (List.length h) 0).bind (getI .i64)).bind fun n2 =>
(run (Et base) 60 [(.int .i64 n2), (.int .i64 (0 : Int)), (.int .i64 (1000000000 : Int))] h1).bind fun r3 =>
((some r3.1).bind getB).bind fun b4 =>
(if b4 = true then
((cell r3.2 (List.length h) 1).bind (getI .i64)).bind fun n5 =>
(run (Et base) 60 [(.int .i64 n5), (.int .i64 (1 : Int)), (.int .i64 (99999 : Int))] r3.2).bind fun r6 =>
((some r6.1).bind getB).bind fun b7 =>
(if b7 = true then
((cell r6.2 (List.length h) 2).bind (getI .i64)).bind fun n8 =>
((cell r6.2 (List.length h) 3).bind (getI .i64)).bind fun n9 =>
((cell r6.2 (List.length h) 4).bind getStr).bind fun s10 =>
((cell r6.2 (List.length h) 5).bind getS).bind fun l11 =>
(run (Et base) 101 [(.agg #[(.int .i64 n8), (.int .i64 n9), (.string s10), (.slice l11.1 l11.2 l11.2)])] r6.2).bind fun r12 =>
((some r12.1).bind getB).bind fun b13 =>
some ((.bool b13), r12.2)
else
some ((.bool false), r6.2))
else
some ((.bool false), r3.2)) : Option (Value × AH)) := by kernel_rfl
theorem r79 {base : Nat} {v0_0 : Int} {v0_1 : Int} {v0_2 : Int} {v0_3 : Int} {v0_4 : ByteArray} {v0_5 : Option Addr} {v0_5n : Nat} {h : AH} {r : Value × AH} (hx :
((some (h ++ [some ⟨[(.int .i64 v0_0), (.int .i64 v0_1), (.int .i64 v0_2), (.int .i64 v0_3), (.string v0_4), (.slice v0_5 v0_5n v0_5n)], 70⟩])).bind fun h1 =>
((cell h1 (List.length h) 0).bind (getI .i64)).bind fun n2 =>
(run (Et base) 60 [(.int .i64 n2), (.int .i64 (0 : Int)), (.int .i64 (1000000000 : Int))] h1).bind fun r3 =>
((some r3.1).bind getB).bind fun b4 =>
(if b4 = true then
((cell r3.2 (List.length h) 1).bind (getI .i64)).bind fun n5 =>
(run (Et base) 60 [(.int .i64 n5), (.int .i64 (1 : Int)), (.int .i64 (99999 : Int))] r3.2).bind fun r6 =>
((some r6.1).bind getB).bind fun b7 =>
(if b7 = true then
((cell r6.2 (List.length h) 2).bind (getI .i64)).bind fun n8 =>
((cell r6.2 (List.length h) 3).bind (getI .i64)).bind fun n9 =>
((cell r6.2 (List.length h) 4).bind getStr).bind fun s10 =>
((cell r6.2 (List.length h) 5).bind getS).bind fun l11 =>
(run (Et base) 101 [(.agg #[(.int .i64 n8), (.int .i64 n9), (.string s10), (.slice l11.1 l11.2 l11.2)])] r6.2).bind fun r12 =>
((some r12.1).bind getB).bind fun b13 =>
some ((.bool b13), r12.2)
else
some ((.bool false), r6.2))
else
some ((.bool false), r3.2))) = some r) : run (Et base) 79 [(.agg #[(.int .i64 v0_0), (.int .i64 v0_1), (.int .i64 v0_2), (.int .i64 v0_3), (.string v0_4), (.slice v0_5 v0_5n v0_5n)])] h = some r := run_i Try.func79 (by kernel_rfl) ((f79_eq base v0_0 v0_1 v0_2 v0_3 v0_4 v0_5 v0_5n h).trans hx)
/-! laws.toTimer (gates 0) -/
theorem f80_eq (base : Nat) (v0_0 : Int) (v0_1 : Int) (v0_2 : Int) (v0_3 : Int) (v0_4 : ByteArray) (v0_5 : Option Addr) (v0_5n : Nat) (h : AH) : exFun (Et base) (run (Et base)) loopL a80 Try.f80 [(.agg #[(.int .i64 v0_0), (.int .i64 v0_1), (.int .i64 v0_2), (.int .i64 v0_3), (.string v0_4), (.slice v0_5 v0_5n v0_5n)])] h =
((some (h ++ [some ⟨[(.int .i64 v0_0), (.int .i64 v0_1), (.int .i64 v0_2), (.int .i64 v0_3), (.string v0_4), (.slice v0_5 v0_5n v0_5n)], 102⟩])).bind fun h1 =>
(some (h1 ++ [some ⟨[(.int .i64 0), (.int .i64 0), (.int .i64 0), (.int .i64 0), (.string ⟨#[]⟩), (.slice none 0 0)], 70⟩])).bind fun h2 =>
(some (h2 ++ [some ⟨[(.int .i64 0), (.int .i64 0), (.int .i64 0), (.int .i64 0), (.string ⟨#[]⟩), (.slice none 0 0)], 70⟩])).bind fun h3 =>
((cell h3 (List.length h) 0).bind (getI .i64)).bind fun n4 =>
(wr base h3 (List.length h2) 0 [(.int .i64 n4)]).bind fun h5 =>
((cell h5 (List.length h) 1).bind (getI .i64)).bind fun n6 =>
(wr base h5 (List.length h2) 1 [(.int .i64 n6)]).bind fun h7 =>
((cell h7 (List.length h) 2).bind (getI .i64)).bind fun n8 =>
((cell h7 (List.length h) 3).bind (getI .i64)).bind fun n9 =>
((cell h7 (List.length h) 4).bind getStr).bind fun s10 =>
((cell h7 (List.length h) 5).bind getS).bind fun l11 =>
(run (Et base) 99 [(.agg #[(.int .i64 n8), (.int .i64 n9), (.string s10), (.slice l11.1 l11.2 l11.2)])] h7).bind fun r12 =>
((some r12.1).bind (getAgg 4)).bind fun l13 =>
((l13[0]?).bind (getI .i64)).bind fun n14 =>
((l13[1]?).bind (getI .i64)).bind fun n15 =>
((l13[2]?).bind getStr).bind fun s16 =>
((l13[3]?).bind getS).bind fun l17 =>
(wr base r12.2 (List.length h2) 2 [(.int .i64 n14), (.int .i64 n15), (.string s16), (.slice l17.1 l17.2 l17.2)]).bind fun h18 =>
((cell h18 (List.length h2) 0).bind (getI .i64)).bind fun n19 =>
((cell h18 (List.length h2) 1).bind (getI .i64)).bind fun n20 =>
((cell h18 (List.length h2) 2).bind (getI .i64)).bind fun n21 =>
((cell h18 (List.length h2) 3).bind (getI .i64)).bind fun n22 =>
((cell h18 (List.length h2) 4).bind getStr).bind fun s23 =>
((cell h18 (List.length h2) 5).bind getS).bind fun l24 =>
(wr base h18 (List.length h1) 0 [(.int .i64 n19), (.int .i64 n20), (.int .i64 n21), (.int .i64 n22), (.string s23), (.slice l24.1 l24.2 l24.2)]).bind fun h25 =>
((cell h25 (List.length h1) 0).bind (getI .i64)).bind fun n26 =>
((cell h25 (List.length h1) 1).bind (getI .i64)).bind fun n27 =>
((cell h25 (List.length h1) 2).bind (getI .i64)).bind fun n28 =>
((cell h25 (List.length h1) 3).bind (getI .i64)).bind fun n29 =>
((cell h25 (List.length h1) 4).bind getStr).bind fun s30 =>
((cell h25 (List.length h1) 5).bind getS).bind fun l31 =>
some ((.agg #[(.int .i64 n26), (.int .i64 n27), (.int .i64 n28), (.int .i64 n29), (.string s30), (.slice l31.1 l31.2 l31.2)]), h25) : Option (Value × AH)) := by kernel_rfl
theorem r80 {base : Nat} {v0_0 : Int} {v0_1 : Int} {v0_2 : Int} {v0_3 : Int} {v0_4 : ByteArray} {v0_5 : Option Addr} {v0_5n : Nat} {h : AH} {r : Value × AH} (hx :
((some (h ++ [some ⟨[(.int .i64 v0_0), (.int .i64 v0_1), (.int .i64 v0_2), (.int .i64 v0_3), (.string v0_4), (.slice v0_5 v0_5n v0_5n)], 102⟩])).bind fun h1 =>
(some (h1 ++ [some ⟨[(.int .i64 0), (.int .i64 0), (.int .i64 0), (.int .i64 0), (.string ⟨#[]⟩), (.slice none 0 0)], 70⟩])).bind fun h2 =>
(some (h2 ++ [some ⟨[(.int .i64 0), (.int .i64 0), (.int .i64 0), (.int .i64 0), (.string ⟨#[]⟩), (.slice none 0 0)], 70⟩])).bind fun h3 =>
((cell h3 (List.length h) 0).bind (getI .i64)).bind fun n4 =>
(wr base h3 (List.length h2) 0 [(.int .i64 n4)]).bind fun h5 =>
((cell h5 (List.length h) 1).bind (getI .i64)).bind fun n6 =>
(wr base h5 (List.length h2) 1 [(.int .i64 n6)]).bind fun h7 =>
((cell h7 (List.length h) 2).bind (getI .i64)).bind fun n8 =>
((cell h7 (List.length h) 3).bind (getI .i64)).bind fun n9 =>
((cell h7 (List.length h) 4).bind getStr).bind fun s10 =>
((cell h7 (List.length h) 5).bind getS).bind fun l11 =>
(run (Et base) 99 [(.agg #[(.int .i64 n8), (.int .i64 n9), (.string s10), (.slice l11.1 l11.2 l11.2)])] h7).bind fun r12 =>
((some r12.1).bind (getAgg 4)).bind fun l13 =>
((l13[0]?).bind (getI .i64)).bind fun n14 =>
((l13[1]?).bind (getI .i64)).bind fun n15 =>
((l13[2]?).bind getStr).bind fun s16 =>
((l13[3]?).bind getS).bind fun l17 =>
(wr base r12.2 (List.length h2) 2 [(.int .i64 n14), (.int .i64 n15), (.string s16), (.slice l17.1 l17.2 l17.2)]).bind fun h18 =>
((cell h18 (List.length h2) 0).bind (getI .i64)).bind fun n19 =>
((cell h18 (List.length h2) 1).bind (getI .i64)).bind fun n20 =>
((cell h18 (List.length h2) 2).bind (getI .i64)).bind fun n21 =>
((cell h18 (List.length h2) 3).bind (getI .i64)).bind fun n22 =>
((cell h18 (List.length h2) 4).bind getStr).bind fun s23 =>
((cell h18 (List.length h2) 5).bind getS).bind fun l24 =>
(wr base h18 (List.length h1) 0 [(.int .i64 n19), (.int .i64 n20), (.int .i64 n21), (.int .i64 n22), (.string s23), (.slice l24.1 l24.2 l24.2)]).bind fun h25 =>
((cell h25 (List.length h1) 0).bind (getI .i64)).bind fun n26 =>
((cell h25 (List.length h1) 1).bind (getI .i64)).bind fun n27 =>
((cell h25 (List.length h1) 2).bind (getI .i64)).bind fun n28 =>
((cell h25 (List.length h1) 3).bind (getI .i64)).bind fun n29 =>
((cell h25 (List.length h1) 4).bind getStr).bind fun s30 =>
((cell h25 (List.length h1) 5).bind getS).bind fun l31 =>
some ((.agg #[(.int .i64 n26), (.int .i64 n27), (.int .i64 n28), (.int .i64 n29), (.string s30), (.slice l31.1 l31.2 l31.2)]), h25)) = some r) : run (Et base) 80 [(.agg #[(.int .i64 v0_0), (.int .i64 v0_1), (.int .i64 v0_2), (.int .i64 v0_3), (.string v0_4), (.slice v0_5 v0_5n v0_5n)])] h = some r := run_i Try.func80 (by kernel_rfl) ((f80_eq base v0_0 v0_1 v0_2 v0_3 v0_4 v0_5 v0_5n h).trans hx)
/-! impl.timerOk (gates 0) -/
theorem f81_eq (base : Nat) (v0_0 : Int) (v0_1 : Int) (v0_2 : Int) (v0_3 : Int) (v0_4 : ByteArray) (v0_5 : Option Addr) (v0_5n : Nat) (h : AH) : exFun (Et base) (run (Et base)) loopL a81 Try.f81 [(.agg #[(.int .i64 v0_0), (.int .i64 v0_1), (.int .i64 v0_2), (.int .i64 v0_3), (.string v0_4), (.slice v0_5 v0_5n v0_5n)])] h =
((some (h ++ [some ⟨[(.int .i64 v0_0), (.int .i64 v0_1), (.int .i64 v0_2), (.int .i64 v0_3), (.string v0_4), (.slice v0_5 v0_5n v0_5n)], 70⟩])).bind fun h1 =>
((cell h1 (List.length h) 0).bind (getI .i64)).bind fun n2 =>
(run (Et base) 61 [(.int .i64 n2), (.int .i64 (0 : Int)), (.int .i64 (1000000000 : Int))] h1).bind fun r3 =>
((some r3.1).bind getB).bind fun b4 =>
(if b4 = true then
((cell r3.2 (List.length h) 1).bind (getI .i64)).bind fun n5 =>
(run (Et base) 61 [(.int .i64 n5), (.int .i64 (1 : Int)), (.int .i64 (99999 : Int))] r3.2).bind fun r6 =>
((some r6.1).bind getB).bind fun b7 =>
(if b7 = true then
((cell r6.2 (List.length h) 2).bind (getI .i64)).bind fun n8 =>
((cell r6.2 (List.length h) 3).bind (getI .i64)).bind fun n9 =>
((cell r6.2 (List.length h) 4).bind getStr).bind fun s10 =>
((cell r6.2 (List.length h) 5).bind getS).bind fun l11 =>
(run (Et base) 102 [(.agg #[(.int .i64 n8), (.int .i64 n9), (.string s10), (.slice l11.1 l11.2 l11.2)])] r6.2).bind fun r12 =>
((some r12.1).bind getB).bind fun b13 =>
some ((.bool b13), r12.2)
else
some ((.bool false), r6.2))
else
some ((.bool false), r3.2)) : Option (Value × AH)) := by kernel_rfl
theorem r81 {base : Nat} {v0_0 : Int} {v0_1 : Int} {v0_2 : Int} {v0_3 : Int} {v0_4 : ByteArray} {v0_5 : Option Addr} {v0_5n : Nat} {h : AH} {r : Value × AH} (hx :
((some (h ++ [some ⟨[(.int .i64 v0_0), (.int .i64 v0_1), (.int .i64 v0_2), (.int .i64 v0_3), (.string v0_4), (.slice v0_5 v0_5n v0_5n)], 70⟩])).bind fun h1 =>
((cell h1 (List.length h) 0).bind (getI .i64)).bind fun n2 =>
(run (Et base) 61 [(.int .i64 n2), (.int .i64 (0 : Int)), (.int .i64 (1000000000 : Int))] h1).bind fun r3 =>
((some r3.1).bind getB).bind fun b4 =>
(if b4 = true then
((cell r3.2 (List.length h) 1).bind (getI .i64)).bind fun n5 =>
(run (Et base) 61 [(.int .i64 n5), (.int .i64 (1 : Int)), (.int .i64 (99999 : Int))] r3.2).bind fun r6 =>
((some r6.1).bind getB).bind fun b7 =>
(if b7 = true then
((cell r6.2 (List.length h) 2).bind (getI .i64)).bind fun n8 =>
((cell r6.2 (List.length h) 3).bind (getI .i64)).bind fun n9 =>
((cell r6.2 (List.length h) 4).bind getStr).bind fun s10 =>
((cell r6.2 (List.length h) 5).bind getS).bind fun l11 =>
(run (Et base) 102 [(.agg #[(.int .i64 n8), (.int .i64 n9), (.string s10), (.slice l11.1 l11.2 l11.2)])] r6.2).bind fun r12 =>
((some r12.1).bind getB).bind fun b13 =>
some ((.bool b13), r12.2)
else
some ((.bool false), r6.2))
else
some ((.bool false), r3.2))) = some r) : run (Et base) 81 [(.agg #[(.int .i64 v0_0), (.int .i64 v0_1), (.int .i64 v0_2), (.int .i64 v0_3), (.string v0_4), (.slice v0_5 v0_5n v0_5n)])] h = some r := run_i Try.func81 (by kernel_rfl) ((f81_eq base v0_0 v0_1 v0_2 v0_3 v0_4 v0_5 v0_5n h).trans hx)
/-! laws.eqTimer (gates 0) -/
theorem f82_eq (base : Nat) (v0_0 : Int) (v0_1 : Int) (v0_2 : Int) (v0_3 : Int) (v0_4 : ByteArray) (v0_5 : Option Addr) (v0_5n : Nat) (v1_0 : Int) (v1_1 : Int) (v1_2 : Int) (v1_3 : Int) (v1_4 : ByteArray) (v1_5 : Option Addr) (v1_5n : Nat) (h : AH) : exFun (Et base) (run (Et base)) loopL a82 Try.f82 [(.agg #[(.int .i64 v0_0), (.int .i64 v0_1), (.int .i64 v0_2), (.int .i64 v0_3), (.string v0_4), (.slice v0_5 v0_5n v0_5n)]), (.agg #[(.int .i64 v1_0), (.int .i64 v1_1), (.int .i64 v1_2), (.int .i64 v1_3), (.string v1_4), (.slice v1_5 v1_5n v1_5n)])] h =
((some (h ++ [some ⟨[(.int .i64 v0_0), (.int .i64 v0_1), (.int .i64 v0_2), (.int .i64 v0_3), (.string v0_4), (.slice v0_5 v0_5n v0_5n)], 70⟩])).bind fun h1 =>
(some (h1 ++ [some ⟨[(.int .i64 v1_0), (.int .i64 v1_1), (.int .i64 v1_2), (.int .i64 v1_3), (.string v1_4), (.slice v1_5 v1_5n v1_5n)], 70⟩])).bind fun h2 =>
((cell h2 (List.length h) 0).bind (getI .i64)).bind fun n3 =>
((cell h2 (List.length h1) 0).bind (getI .i64)).bind fun n4 =>
(if (n3 != n4) = true then
some ((.bool false), h2)
else
((cell h2 (List.length h) 1).bind (getI .i64)).bind fun n5 =>
((cell h2 (List.length h1) 1).bind (getI .i64)).bind fun n6 =>
(if (n5 != n6) = true then
some ((.bool false), h2)
else
((cell h2 (List.length h) 2).bind (getI .i64)).bind fun n7 =>
((cell h2 (List.length h) 3).bind (getI .i64)).bind fun n8 =>
((cell h2 (List.length h) 4).bind getStr).bind fun s9 =>
((cell h2 (List.length h) 5).bind getS).bind fun l10 =>
((cell h2 (List.length h1) 2).bind (getI .i64)).bind fun n11 =>
((cell h2 (List.length h1) 3).bind (getI .i64)).bind fun n12 =>
((cell h2 (List.length h1) 4).bind getStr).bind fun s13 =>
((cell h2 (List.length h1) 5).bind getS).bind fun l14 =>
(run (Et base) 100 [(.agg #[(.int .i64 n7), (.int .i64 n8), (.string s9), (.slice l10.1 l10.2 l10.2)]), (.agg #[(.int .i64 n11), (.int .i64 n12), (.string s13), (.slice l14.1 l14.2 l14.2)])] h2).bind fun r15 =>
((some r15.1).bind getB).bind fun b16 =>
(if (!b16) = true then
some ((.bool false), r15.2)
else
some ((.bool true), r15.2)))) : Option (Value × AH)) := by kernel_rfl
theorem r82 {base : Nat} {v0_0 : Int} {v0_1 : Int} {v0_2 : Int} {v0_3 : Int} {v0_4 : ByteArray} {v0_5 : Option Addr} {v0_5n : Nat} {v1_0 : Int} {v1_1 : Int} {v1_2 : Int} {v1_3 : Int} {v1_4 : ByteArray} {v1_5 : Option Addr} {v1_5n : Nat} {h : AH} {r : Value × AH} (hx :
((some (h ++ [some ⟨[(.int .i64 v0_0), (.int .i64 v0_1), (.int .i64 v0_2), (.int .i64 v0_3), (.string v0_4), (.slice v0_5 v0_5n v0_5n)], 70⟩])).bind fun h1 =>
(some (h1 ++ [some ⟨[(.int .i64 v1_0), (.int .i64 v1_1), (.int .i64 v1_2), (.int .i64 v1_3), (.string v1_4), (.slice v1_5 v1_5n v1_5n)], 70⟩])).bind fun h2 =>
((cell h2 (List.length h) 0).bind (getI .i64)).bind fun n3 =>
((cell h2 (List.length h1) 0).bind (getI .i64)).bind fun n4 =>
(if (n3 != n4) = true then
some ((.bool false), h2)
else
((cell h2 (List.length h) 1).bind (getI .i64)).bind fun n5 =>
((cell h2 (List.length h1) 1).bind (getI .i64)).bind fun n6 =>
(if (n5 != n6) = true then
some ((.bool false), h2)
else
((cell h2 (List.length h) 2).bind (getI .i64)).bind fun n7 =>
((cell h2 (List.length h) 3).bind (getI .i64)).bind fun n8 =>
((cell h2 (List.length h) 4).bind getStr).bind fun s9 =>
((cell h2 (List.length h) 5).bind getS).bind fun l10 =>
((cell h2 (List.length h1) 2).bind (getI .i64)).bind fun n11 =>
((cell h2 (List.length h1) 3).bind (getI .i64)).bind fun n12 =>
((cell h2 (List.length h1) 4).bind getStr).bind fun s13 =>
((cell h2 (List.length h1) 5).bind getS).bind fun l14 =>
(run (Et base) 100 [(.agg #[(.int .i64 n7), (.int .i64 n8), (.string s9), (.slice l10.1 l10.2 l10.2)]), (.agg #[(.int .i64 n11), (.int .i64 n12), (.string s13), (.slice l14.1 l14.2 l14.2)])] h2).bind fun r15 =>
((some r15.1).bind getB).bind fun b16 =>
(if (!b16) = true then
some ((.bool false), r15.2)
else
some ((.bool true), r15.2))))) = some r) : run (Et base) 82 [(.agg #[(.int .i64 v0_0), (.int .i64 v0_1), (.int .i64 v0_2), (.int .i64 v0_3), (.string v0_4), (.slice v0_5 v0_5n v0_5n)]), (.agg #[(.int .i64 v1_0), (.int .i64 v1_1), (.int .i64 v1_2), (.int .i64 v1_3), (.string v1_4), (.slice v1_5 v1_5n v1_5n)])] h = some r := run_i Try.func82 (by kernel_rfl) ((f82_eq base v0_0 v0_1 v0_2 v0_3 v0_4 v0_5 v0_5n v1_0 v1_1 v1_2 v1_3 v1_4 v1_5 v1_5n h).trans hx)
/-! spec.l14Any (gates 0) -/
noncomputable def B83_0 (base : Nat) : Body := fun l h => lay s83_0 l fun s => exCode (Et base) (run (Et base)) loopL a83_0 (subC [1, 1, 1, 0, 1, 0, 0, 0] (bodyC Try.f83)) s h (keepK s83_0 e83_0)
theorem B83_0_eq (base : Nat) (v0 : Option Addr) (v3 : Option Addr) (v3n : Nat) (h : AH) : B83_0 base [some (.pointer v0), some (.slice v3 v3n v3n)] h =
((run (Et base) 67 [(.pointer v0), (.int .i64 (3 : Int))] h).bind fun r1 =>
((some r1.1).bind (getI .i64)).bind fun n2 =>
(if (decide (((v3n : Nat) : Int) < (IntKind.wrap .i64 ((49 : Int) + n2)))) = true then
(run (Et base) 105 [(.int .i64 (1 : Int))] r1.2).bind fun r3 =>
((some r3.1).bind (getAgg 4)).bind fun l4 =>
((l4[0]?).bind (getI .i64)).bind fun n5 =>
((l4[1]?).bind (getI .i64)).bind fun n6 =>
((l4[2]?).bind getStr).bind fun s7 =>
((l4[3]?).bind getS).bind fun l8 =>
(some (r3.2 ++ [some ⟨[(.int .i64 (1000000000 : Int)), (.int .i64 (1 : Int)), (.int .i64 n5), (.int .i64 n6), (.string s7), (.slice l8.1 l8.2 l8.2)], 70⟩])).bind fun h9 =>
(app base h9 70 6 72 v3 v3n (rawAt h9 (some ⟨(List.length r3.2), 0, none⟩) (1 * 6)) 1).bind fun p10 =>
((some p10.1).bind getS).bind fun l11 =>
some (0, [some (.pointer v0), some (.slice l11.1 l11.2 l11.2)], p10.2)
else
some (2, [some (.slice v3 v3n v3n)], r1.2)) : Option (Nat × Slots × AH)) := by kernel_rfl
theorem f83_eq (base : Nat) (v0 : Option Addr) (h : AH) : exFun (Et base) (run (Et base)) loopL a83 Try.f83 [(.pointer v0)] h =
((run (Et base) 103 [(.pointer v0)] h).bind fun r1 =>
((some r1.1).bind getS).bind fun l2 =>
((run (Et base) 69 [(.pointer v0), (.int .i64 (4 : Int))] r1.2).bind fun r4 =>
((some r4.1).bind getB).bind fun b5 =>
(if b5 = true then
(run (Et base) 104 [(.pointer v0)] r4.2).bind fun r6 =>
((some r6.1).bind (getAgg 6)).bind fun l7 =>
((l7[0]?).bind (getI .i64)).bind fun n8 =>
((l7[1]?).bind (getI .i64)).bind fun n9 =>
((l7[2]?).bind (getI .i64)).bind fun n10 =>
((l7[3]?).bind (getI .i64)).bind fun n11 =>
((l7[4]?).bind getStr).bind fun s12 =>
((l7[5]?).bind getS).bind fun l13 =>
(some (r6.2 ++ [some ⟨[(.int .i64 n8), (.int .i64 n9), (.int .i64 n10), (.int .i64 n11), (.string s12), (.slice l13.1 l13.2 l13.2)], 70⟩])).bind fun h14 =>
(app base h14 70 6 72 l2.1 l2.2 (rawAt h14 (some ⟨(List.length r6.2), 0, none⟩) (1 * 6)) 1).bind fun p15 =>
((some p15.1).bind getS).bind fun l16 =>
some (.inl ([some (.pointer v0), some (.slice l16.1 l16.2 l16.2)], p15.2))
else
some (.inl ([some (.pointer v0), some (.slice l2.1 l2.2 l2.2)], r4.2)))).bind fun j3 => joinK j3 fun j3 =>
((sget j3.1 0).bind getP).bind fun p17 =>
((sget (j3.1.tail) 0).bind getS).bind fun l18 =>
((run (Et base) 69 [(.pointer p17), (.int .i64 (30 : Int))] j3.2).bind fun r20 =>
((some r20.1).bind getB).bind fun b21 =>
(if b21 = true then
(loopL (B83_0 base) [some (.pointer p17), some (.slice l18.1 l18.2 l18.2)] r20.2).bind fun q22 =>
(if q22.1 = 2 then
((sget q22.2.1 0).bind getS).bind fun l23 =>
some (.inl ([some (.slice l23.1 l23.2 l23.2)], q22.2.2))
else
none)
else
some (.inl ([some (.slice l18.1 l18.2 l18.2)], r20.2)))).bind fun j19 => joinK j19 fun j19 =>
((sget j19.1 0).bind getS).bind fun l24 =>
some ((.slice l24.1 l24.2 l24.2), j19.2) : Option (Value × AH)) := by kernel_rfl
theorem r83 {base : Nat} {v0 : Option Addr} {h : AH} {r : Value × AH} (hx :
((run (Et base) 103 [(.pointer v0)] h).bind fun r1 =>
((some r1.1).bind getS).bind fun l2 =>
((run (Et base) 69 [(.pointer v0), (.int .i64 (4 : Int))] r1.2).bind fun r4 =>
((some r4.1).bind getB).bind fun b5 =>
(if b5 = true then
(run (Et base) 104 [(.pointer v0)] r4.2).bind fun r6 =>
((some r6.1).bind (getAgg 6)).bind fun l7 =>
((l7[0]?).bind (getI .i64)).bind fun n8 =>
((l7[1]?).bind (getI .i64)).bind fun n9 =>
((l7[2]?).bind (getI .i64)).bind fun n10 =>
((l7[3]?).bind (getI .i64)).bind fun n11 =>
((l7[4]?).bind getStr).bind fun s12 =>
((l7[5]?).bind getS).bind fun l13 =>
(some (r6.2 ++ [some ⟨[(.int .i64 n8), (.int .i64 n9), (.int .i64 n10), (.int .i64 n11), (.string s12), (.slice l13.1 l13.2 l13.2)], 70⟩])).bind fun h14 =>
(app base h14 70 6 72 l2.1 l2.2 (rawAt h14 (some ⟨(List.length r6.2), 0, none⟩) (1 * 6)) 1).bind fun p15 =>
((some p15.1).bind getS).bind fun l16 =>
some (.inl ([some (.pointer v0), some (.slice l16.1 l16.2 l16.2)], p15.2))
else
some (.inl ([some (.pointer v0), some (.slice l2.1 l2.2 l2.2)], r4.2)))).bind fun j3 => joinK j3 fun j3 =>
((sget j3.1 0).bind getP).bind fun p17 =>
((sget (j3.1.tail) 0).bind getS).bind fun l18 =>
((run (Et base) 69 [(.pointer p17), (.int .i64 (30 : Int))] j3.2).bind fun r20 =>
((some r20.1).bind getB).bind fun b21 =>
(if b21 = true then
(loopL (B83_0 base) [some (.pointer p17), some (.slice l18.1 l18.2 l18.2)] r20.2).bind fun q22 =>
(if q22.1 = 2 then
((sget q22.2.1 0).bind getS).bind fun l23 =>
some (.inl ([some (.slice l23.1 l23.2 l23.2)], q22.2.2))
else
none)
else
some (.inl ([some (.slice l18.1 l18.2 l18.2)], r20.2)))).bind fun j19 => joinK j19 fun j19 =>
((sget j19.1 0).bind getS).bind fun l24 =>
some ((.slice l24.1 l24.2 l24.2), j19.2)) = some r) : run (Et base) 83 [(.pointer v0)] h = some r := run_i Try.func83 (by kernel_rfl) ((f83_eq base v0 h).trans hx)
/-! impl.timersIf (gates 0) -/
noncomputable def B84_0 (base : Nat) : Body := fun l h => lay s84_0 l fun s => exCode (Et base) (run (Et base)) loopL a84_0 (subC [1, 1, 0, 1, 0, 0] (bodyC Try.f84)) s h (keepK s84_0 e84_0)
theorem B84_0_eq_any (base : Nat) (v5 : Option Addr) (v5n : Nat) (v8 : Option Addr) (v8n : Nat) (v9 : Int) (v10 : Int) (h : AH) : B84_0 base [some (.func (.func 93) #[] #[]), some (.slice v5 v5n v5n), some (.slice v8 v8n v8n), some (.int .i64 v9), some (.int .i64 v10)] h =
((if (decide (v10 < v9)) = true then
(if 0 ≤ v10 ∧ v10 < ((v8n : Nat) : Int) then
((v8 : Option Addr)).bind fun a1 =>
((cell h a1.block (a1.off + Int.toNat v10 * 6)).bind (getI .i64)).bind fun n2 =>
((cell h a1.block ((a1.off + Int.toNat v10 * 6) + 1)).bind (getI .i64)).bind fun n3 =>
((cell h a1.block (((a1.off + Int.toNat v10 * 6) + 1) + 1)).bind (getI .i64)).bind fun n4 =>
((cell h a1.block ((((a1.off + Int.toNat v10 * 6) + 1) + 1) + 1)).bind (getI .i64)).bind fun n5 =>
((cell h a1.block (((((a1.off + Int.toNat v10 * 6) + 1) + 1) + 1) + 1)).bind getStr).bind fun s6 =>
((cell h a1.block ((((((a1.off + Int.toNat v10 * 6) + 1) + 1) + 1) + 1) + 1)).bind getS).bind fun l7 =>
(some (h ++ [some ⟨[(.int .i64 0), (.int .i64 0), (.int .i64 0), (.int .i64 0), (.string ⟨#[]⟩), (.slice none 0 0)], 70⟩])).bind fun h8 =>
(wr base h8 (List.length h) 0 [(.int .i64 n2), (.int .i64 n3), (.int .i64 n4), (.int .i64 n5), (.string s6), (.slice l7.1 l7.2 l7.2)]).bind fun h9 =>
((cell h9 (List.length h) 0).bind (getI .i64)).bind fun n10 =>
((cell h9 (List.length h) 1).bind (getI .i64)).bind fun n11 =>
((cell h9 (List.length h) 2).bind (getI .i64)).bind fun n12 =>
((cell h9 (List.length h) 3).bind (getI .i64)).bind fun n13 =>
((cell h9 (List.length h) 4).bind getStr).bind fun s14 =>
((cell h9 (List.length h) 5).bind getS).bind fun l15 =>
(run (Et base) 93 [(.agg #[(.int .i64 n10), (.int .i64 n11), (.int .i64 n12), (.int .i64 n13), (.string s14), (.slice l15.1 l15.2 l15.2)])] h9).bind fun r16 =>
((some r16.1).bind getB).bind fun b17 =>
(if b17 = true then
((cell r16.2 (List.length h) 2).bind (getI .i64)).bind fun n18 =>
((cell r16.2 (List.length h) 3).bind (getI .i64)).bind fun n19 =>
((cell r16.2 (List.length h) 4).bind getStr).bind fun s20 =>
((cell r16.2 (List.length h) 5).bind getS).bind fun l21 =>
(run (Et base) 106 [(.agg #[(.int .i64 n18), (.int .i64 n19), (.string s20), (.slice l21.1 l21.2 l21.2)])] r16.2).bind fun r22 =>
((some r22.1).bind (getAgg 4)).bind fun l23 =>
((l23[0]?).bind (getI .i64)).bind fun n24 =>
((l23[1]?).bind (getI .i64)).bind fun n25 =>
((l23[2]?).bind getStr).bind fun s26 =>
((l23[3]?).bind getS).bind fun l27 =>
(wr base r22.2 (List.length h) 2 [(.int .i64 n24), (.int .i64 n25), (.string s26), (.slice l27.1 l27.2 l27.2)]).bind fun h28 =>
((cell h28 (List.length h) 0).bind (getI .i64)).bind fun n29 =>
((cell h28 (List.length h) 1).bind (getI .i64)).bind fun n30 =>
((cell h28 (List.length h) 2).bind (getI .i64)).bind fun n31 =>
((cell h28 (List.length h) 3).bind (getI .i64)).bind fun n32 =>
((cell h28 (List.length h) 4).bind getStr).bind fun s33 =>
((cell h28 (List.length h) 5).bind getS).bind fun l34 =>
(some (h28 ++ [some ⟨[(.int .i64 n29), (.int .i64 n30), (.int .i64 n31), (.int .i64 n32), (.string s33), (.slice l34.1 l34.2 l34.2)], 70⟩])).bind fun h35 =>
(app base h35 70 6 72 v5 v5n (rawAt h35 (some ⟨(List.length h28), 0, none⟩) (1 * 6)) 1).bind fun p36 =>
((some p36.1).bind getS).bind fun l37 =>
some (0, [some (.func (.func 93) #[] #[]), some (.slice l37.1 l37.2 l37.2), some (.slice v8 v8n v8n), some (.int .i64 v9), some (.int .i64 (IntKind.wrap .i64 (v10 + (1 : Int))))], p36.2)
else
some (0, [some (.func (.func 93) #[] #[]), some (.slice v5 v5n v5n), some (.slice v8 v8n v8n), some (.int .i64 v9), some (.int .i64 (IntKind.wrap .i64 (v10 + (1 : Int))))], r16.2))
else none)
else
some (2, [some (.slice v5 v5n v5n)], h)) : Option (Nat × Slots × AH)) := by kernel_rfl
theorem f84_eq_any (base : Nat) (v0 : Option Addr) (v0n : Nat) (h : AH) : exFun (Et base) (run (Et base)) loopL a84 Try.f84 [(.slice v0 v0n v0n), (.func (.func 93) #[] #[])] h =
((loopL (B84_0 base) [some (.func (.func 93) #[] #[]), some (.slice none 0 0), some (.slice v0 v0n v0n), some (.int .i64 ((v0n : Nat) : Int)), some (.int .i64 (0 : Int))] h).bind fun q1 =>
(if q1.1 = 2 then
((sget q1.2.1 0).bind getS).bind fun l2 =>
some ((.slice l2.1 l2.2 l2.2), q1.2.2)
else
none) : Option (Value × AH)) := by kernel_rfl
theorem r84_any {base : Nat} {v0 : Option Addr} {v0n : Nat} {h : AH} {r : Value × AH} (hx :
((loopL (B84_0 base) [some (.func (.func 93) #[] #[]), some (.slice none 0 0), some (.slice v0 v0n v0n), some (.int .i64 ((v0n : Nat) : Int)), some (.int .i64 (0 : Int))] h).bind fun q1 =>
(if q1.1 = 2 then
((sget q1.2.1 0).bind getS).bind fun l2 =>
some ((.slice l2.1 l2.2 l2.2), q1.2.2)
else
none)) = some r) : run (Et base) 84 [(.slice v0 v0n v0n), (.func (.func 93) #[] #[])] h = some r := run_i Try.func84 (by kernel_rfl) ((f84_eq_any base v0 v0n h).trans hx)
theorem B84_0_eq_drop (base : Nat) (v1c0 : Addr) (v5 : Option Addr) (v5n : Nat) (v8 : Option Addr) (v8n : Nat) (v9 : Int) (v10 : Int) (h : AH) : B84_0 base [some (.func (.func 88) #[] #[(.pointer (some v1c0))]), some (.slice v5 v5n v5n), some (.slice v8 v8n v8n), some (.int .i64 v9), some (.int .i64 v10)] h =
((if (decide (v10 < v9)) = true then
(if 0 ≤ v10 ∧ v10 < ((v8n : Nat) : Int) then
((v8 : Option Addr)).bind fun a1 =>
((cell h a1.block (a1.off + Int.toNat v10 * 6)).bind (getI .i64)).bind fun n2 =>
((cell h a1.block ((a1.off + Int.toNat v10 * 6) + 1)).bind (getI .i64)).bind fun n3 =>
((cell h a1.block (((a1.off + Int.toNat v10 * 6) + 1) + 1)).bind (getI .i64)).bind fun n4 =>
((cell h a1.block ((((a1.off + Int.toNat v10 * 6) + 1) + 1) + 1)).bind (getI .i64)).bind fun n5 =>
((cell h a1.block (((((a1.off + Int.toNat v10 * 6) + 1) + 1) + 1) + 1)).bind getStr).bind fun s6 =>
((cell h a1.block ((((((a1.off + Int.toNat v10 * 6) + 1) + 1) + 1) + 1) + 1)).bind getS).bind fun l7 =>
(some (h ++ [some ⟨[(.int .i64 0), (.int .i64 0), (.int .i64 0), (.int .i64 0), (.string ⟨#[]⟩), (.slice none 0 0)], 70⟩])).bind fun h8 =>
(wr base h8 (List.length h) 0 [(.int .i64 n2), (.int .i64 n3), (.int .i64 n4), (.int .i64 n5), (.string s6), (.slice l7.1 l7.2 l7.2)]).bind fun h9 =>
((cell h9 (List.length h) 0).bind (getI .i64)).bind fun n10 =>
((cell h9 (List.length h) 1).bind (getI .i64)).bind fun n11 =>
((cell h9 (List.length h) 2).bind (getI .i64)).bind fun n12 =>
((cell h9 (List.length h) 3).bind (getI .i64)).bind fun n13 =>
((cell h9 (List.length h) 4).bind getStr).bind fun s14 =>
((cell h9 (List.length h) 5).bind getS).bind fun l15 =>
(run (Et base) 88 [(.agg #[(.int .i64 n10), (.int .i64 n11), (.int .i64 n12), (.int .i64 n13), (.string s14), (.slice l15.1 l15.2 l15.2)]), (.pointer (some v1c0))] h9).bind fun r16 =>
((some r16.1).bind getB).bind fun b17 =>
(if b17 = true then
((cell r16.2 (List.length h) 2).bind (getI .i64)).bind fun n18 =>
((cell r16.2 (List.length h) 3).bind (getI .i64)).bind fun n19 =>
((cell r16.2 (List.length h) 4).bind getStr).bind fun s20 =>
((cell r16.2 (List.length h) 5).bind getS).bind fun l21 =>
(run (Et base) 106 [(.agg #[(.int .i64 n18), (.int .i64 n19), (.string s20), (.slice l21.1 l21.2 l21.2)])] r16.2).bind fun r22 =>
((some r22.1).bind (getAgg 4)).bind fun l23 =>
((l23[0]?).bind (getI .i64)).bind fun n24 =>
((l23[1]?).bind (getI .i64)).bind fun n25 =>
((l23[2]?).bind getStr).bind fun s26 =>
((l23[3]?).bind getS).bind fun l27 =>
(wr base r22.2 (List.length h) 2 [(.int .i64 n24), (.int .i64 n25), (.string s26), (.slice l27.1 l27.2 l27.2)]).bind fun h28 =>
((cell h28 (List.length h) 0).bind (getI .i64)).bind fun n29 =>
((cell h28 (List.length h) 1).bind (getI .i64)).bind fun n30 =>
((cell h28 (List.length h) 2).bind (getI .i64)).bind fun n31 =>
((cell h28 (List.length h) 3).bind (getI .i64)).bind fun n32 =>
((cell h28 (List.length h) 4).bind getStr).bind fun s33 =>
((cell h28 (List.length h) 5).bind getS).bind fun l34 =>
(some (h28 ++ [some ⟨[(.int .i64 n29), (.int .i64 n30), (.int .i64 n31), (.int .i64 n32), (.string s33), (.slice l34.1 l34.2 l34.2)], 70⟩])).bind fun h35 =>
(app base h35 70 6 72 v5 v5n (rawAt h35 (some ⟨(List.length h28), 0, none⟩) (1 * 6)) 1).bind fun p36 =>
((some p36.1).bind getS).bind fun l37 =>
some (0, [some (.func (.func 88) #[] #[(.pointer (some v1c0))]), some (.slice l37.1 l37.2 l37.2), some (.slice v8 v8n v8n), some (.int .i64 v9), some (.int .i64 (IntKind.wrap .i64 (v10 + (1 : Int))))], p36.2)
else
some (0, [some (.func (.func 88) #[] #[(.pointer (some v1c0))]), some (.slice v5 v5n v5n), some (.slice v8 v8n v8n), some (.int .i64 v9), some (.int .i64 (IntKind.wrap .i64 (v10 + (1 : Int))))], r16.2))
else none)
else
some (2, [some (.slice v5 v5n v5n)], h)) : Option (Nat × Slots × AH)) := by kernel_rfl
theorem f84_eq_drop (base : Nat) (v0 : Option Addr) (v0n : Nat) (v1c0 : Addr) (h : AH) : exFun (Et base) (run (Et base)) loopL a84 Try.f84 [(.slice v0 v0n v0n), (.func (.func 88) #[] #[(.pointer (some v1c0))])] h =
((loopL (B84_0 base) [some (.func (.func 88) #[] #[(.pointer (some v1c0))]), some (.slice none 0 0), some (.slice v0 v0n v0n), some (.int .i64 ((v0n : Nat) : Int)), some (.int .i64 (0 : Int))] h).bind fun q1 =>
(if q1.1 = 2 then
((sget q1.2.1 0).bind getS).bind fun l2 =>
some ((.slice l2.1 l2.2 l2.2), q1.2.2)
else
none) : Option (Value × AH)) := by kernel_rfl
theorem r84_drop {base : Nat} {v0 : Option Addr} {v0n : Nat} {v1c0 : Addr} {h : AH} {r : Value × AH} (hx :
((loopL (B84_0 base) [some (.func (.func 88) #[] #[(.pointer (some v1c0))]), some (.slice none 0 0), some (.slice v0 v0n v0n), some (.int .i64 ((v0n : Nat) : Int)), some (.int .i64 (0 : Int))] h).bind fun q1 =>
(if q1.1 = 2 then
((sget q1.2.1 0).bind getS).bind fun l2 =>
some ((.slice l2.1 l2.2 l2.2), q1.2.2)
else
none)) = some r) : run (Et base) 84 [(.slice v0 v0n v0n), (.func (.func 88) #[] #[(.pointer (some v1c0))])] h = some r := run_i Try.func84 (by kernel_rfl) ((f84_eq_drop base v0 v0n v1c0 h).trans hx)
theorem B84_0_eq_due (base : Nat) (v1c0 : Addr) (v5 : Option Addr) (v5n : Nat) (v8 : Option Addr) (v8n : Nat) (v9 : Int) (v10 : Int) (h : AH) : B84_0 base [some (.func (.func 85) #[] #[(.pointer (some v1c0))]), some (.slice v5 v5n v5n), some (.slice v8 v8n v8n), some (.int .i64 v9), some (.int .i64 v10)] h =
((if (decide (v10 < v9)) = true then
(if 0 ≤ v10 ∧ v10 < ((v8n : Nat) : Int) then
((v8 : Option Addr)).bind fun a1 =>
((cell h a1.block (a1.off + Int.toNat v10 * 6)).bind (getI .i64)).bind fun n2 =>
((cell h a1.block ((a1.off + Int.toNat v10 * 6) + 1)).bind (getI .i64)).bind fun n3 =>
((cell h a1.block (((a1.off + Int.toNat v10 * 6) + 1) + 1)).bind (getI .i64)).bind fun n4 =>
((cell h a1.block ((((a1.off + Int.toNat v10 * 6) + 1) + 1) + 1)).bind (getI .i64)).bind fun n5 =>
((cell h a1.block (((((a1.off + Int.toNat v10 * 6) + 1) + 1) + 1) + 1)).bind getStr).bind fun s6 =>
((cell h a1.block ((((((a1.off + Int.toNat v10 * 6) + 1) + 1) + 1) + 1) + 1)).bind getS).bind fun l7 =>
(some (h ++ [some ⟨[(.int .i64 0), (.int .i64 0), (.int .i64 0), (.int .i64 0), (.string ⟨#[]⟩), (.slice none 0 0)], 70⟩])).bind fun h8 =>
(wr base h8 (List.length h) 0 [(.int .i64 n2), (.int .i64 n3), (.int .i64 n4), (.int .i64 n5), (.string s6), (.slice l7.1 l7.2 l7.2)]).bind fun h9 =>
((cell h9 (List.length h) 0).bind (getI .i64)).bind fun n10 =>
((cell h9 (List.length h) 1).bind (getI .i64)).bind fun n11 =>
((cell h9 (List.length h) 2).bind (getI .i64)).bind fun n12 =>
((cell h9 (List.length h) 3).bind (getI .i64)).bind fun n13 =>
((cell h9 (List.length h) 4).bind getStr).bind fun s14 =>
((cell h9 (List.length h) 5).bind getS).bind fun l15 =>
(run (Et base) 85 [(.agg #[(.int .i64 n10), (.int .i64 n11), (.int .i64 n12), (.int .i64 n13), (.string s14), (.slice l15.1 l15.2 l15.2)]), (.pointer (some v1c0))] h9).bind fun r16 =>
((some r16.1).bind getB).bind fun b17 =>
(if b17 = true then
((cell r16.2 (List.length h) 2).bind (getI .i64)).bind fun n18 =>
((cell r16.2 (List.length h) 3).bind (getI .i64)).bind fun n19 =>
((cell r16.2 (List.length h) 4).bind getStr).bind fun s20 =>
((cell r16.2 (List.length h) 5).bind getS).bind fun l21 =>
(run (Et base) 106 [(.agg #[(.int .i64 n18), (.int .i64 n19), (.string s20), (.slice l21.1 l21.2 l21.2)])] r16.2).bind fun r22 =>
((some r22.1).bind (getAgg 4)).bind fun l23 =>
((l23[0]?).bind (getI .i64)).bind fun n24 =>
((l23[1]?).bind (getI .i64)).bind fun n25 =>
((l23[2]?).bind getStr).bind fun s26 =>
((l23[3]?).bind getS).bind fun l27 =>
(wr base r22.2 (List.length h) 2 [(.int .i64 n24), (.int .i64 n25), (.string s26), (.slice l27.1 l27.2 l27.2)]).bind fun h28 =>
((cell h28 (List.length h) 0).bind (getI .i64)).bind fun n29 =>
((cell h28 (List.length h) 1).bind (getI .i64)).bind fun n30 =>
((cell h28 (List.length h) 2).bind (getI .i64)).bind fun n31 =>
((cell h28 (List.length h) 3).bind (getI .i64)).bind fun n32 =>
((cell h28 (List.length h) 4).bind getStr).bind fun s33 =>
((cell h28 (List.length h) 5).bind getS).bind fun l34 =>
(some (h28 ++ [some ⟨[(.int .i64 n29), (.int .i64 n30), (.int .i64 n31), (.int .i64 n32), (.string s33), (.slice l34.1 l34.2 l34.2)], 70⟩])).bind fun h35 =>
(app base h35 70 6 72 v5 v5n (rawAt h35 (some ⟨(List.length h28), 0, none⟩) (1 * 6)) 1).bind fun p36 =>
((some p36.1).bind getS).bind fun l37 =>
some (0, [some (.func (.func 85) #[] #[(.pointer (some v1c0))]), some (.slice l37.1 l37.2 l37.2), some (.slice v8 v8n v8n), some (.int .i64 v9), some (.int .i64 (IntKind.wrap .i64 (v10 + (1 : Int))))], p36.2)
else
some (0, [some (.func (.func 85) #[] #[(.pointer (some v1c0))]), some (.slice v5 v5n v5n), some (.slice v8 v8n v8n), some (.int .i64 v9), some (.int .i64 (IntKind.wrap .i64 (v10 + (1 : Int))))], r16.2))
else none)
else
some (2, [some (.slice v5 v5n v5n)], h)) : Option (Nat × Slots × AH)) := by kernel_rfl
theorem f84_eq_due (base : Nat) (v0 : Option Addr) (v0n : Nat) (v1c0 : Addr) (h : AH) : exFun (Et base) (run (Et base)) loopL a84 Try.f84 [(.slice v0 v0n v0n), (.func (.func 85) #[] #[(.pointer (some v1c0))])] h =
((loopL (B84_0 base) [some (.func (.func 85) #[] #[(.pointer (some v1c0))]), some (.slice none 0 0), some (.slice v0 v0n v0n), some (.int .i64 ((v0n : Nat) : Int)), some (.int .i64 (0 : Int))] h).bind fun q1 =>
(if q1.1 = 2 then
((sget q1.2.1 0).bind getS).bind fun l2 =>
some ((.slice l2.1 l2.2 l2.2), q1.2.2)
else
none) : Option (Value × AH)) := by kernel_rfl
theorem r84_due {base : Nat} {v0 : Option Addr} {v0n : Nat} {v1c0 : Addr} {h : AH} {r : Value × AH} (hx :
((loopL (B84_0 base) [some (.func (.func 85) #[] #[(.pointer (some v1c0))]), some (.slice none 0 0), some (.slice v0 v0n v0n), some (.int .i64 ((v0n : Nat) : Int)), some (.int .i64 (0 : Int))] h).bind fun q1 =>
(if q1.1 = 2 then
((sget q1.2.1 0).bind getS).bind fun l2 =>
some ((.slice l2.1 l2.2 l2.2), q1.2.2)
else
none)) = some r) : run (Et base) 84 [(.slice v0 v0n v0n), (.func (.func 85) #[] #[(.pointer (some v1c0))])] h = some r := run_i Try.func84 (by kernel_rfl) ((f84_eq_due base v0 v0n v1c0 h).trans hx)
theorem B84_0_eq_rest (base : Nat) (v1c0 : Addr) (v5 : Option Addr) (v5n : Nat) (v8 : Option Addr) (v8n : Nat) (v9 : Int) (v10 : Int) (h : AH) : B84_0 base [some (.func (.func 86) #[] #[(.pointer (some v1c0))]), some (.slice v5 v5n v5n), some (.slice v8 v8n v8n), some (.int .i64 v9), some (.int .i64 v10)] h =
((if (decide (v10 < v9)) = true then
(if 0 ≤ v10 ∧ v10 < ((v8n : Nat) : Int) then
((v8 : Option Addr)).bind fun a1 =>
((cell h a1.block (a1.off + Int.toNat v10 * 6)).bind (getI .i64)).bind fun n2 =>
((cell h a1.block ((a1.off + Int.toNat v10 * 6) + 1)).bind (getI .i64)).bind fun n3 =>
((cell h a1.block (((a1.off + Int.toNat v10 * 6) + 1) + 1)).bind (getI .i64)).bind fun n4 =>
((cell h a1.block ((((a1.off + Int.toNat v10 * 6) + 1) + 1) + 1)).bind (getI .i64)).bind fun n5 =>
((cell h a1.block (((((a1.off + Int.toNat v10 * 6) + 1) + 1) + 1) + 1)).bind getStr).bind fun s6 =>
((cell h a1.block ((((((a1.off + Int.toNat v10 * 6) + 1) + 1) + 1) + 1) + 1)).bind getS).bind fun l7 =>
(some (h ++ [some ⟨[(.int .i64 0), (.int .i64 0), (.int .i64 0), (.int .i64 0), (.string ⟨#[]⟩), (.slice none 0 0)], 70⟩])).bind fun h8 =>
(wr base h8 (List.length h) 0 [(.int .i64 n2), (.int .i64 n3), (.int .i64 n4), (.int .i64 n5), (.string s6), (.slice l7.1 l7.2 l7.2)]).bind fun h9 =>
((cell h9 (List.length h) 0).bind (getI .i64)).bind fun n10 =>
((cell h9 (List.length h) 1).bind (getI .i64)).bind fun n11 =>
((cell h9 (List.length h) 2).bind (getI .i64)).bind fun n12 =>
((cell h9 (List.length h) 3).bind (getI .i64)).bind fun n13 =>
((cell h9 (List.length h) 4).bind getStr).bind fun s14 =>
((cell h9 (List.length h) 5).bind getS).bind fun l15 =>
(run (Et base) 86 [(.agg #[(.int .i64 n10), (.int .i64 n11), (.int .i64 n12), (.int .i64 n13), (.string s14), (.slice l15.1 l15.2 l15.2)]), (.pointer (some v1c0))] h9).bind fun r16 =>
((some r16.1).bind getB).bind fun b17 =>
(if b17 = true then
((cell r16.2 (List.length h) 2).bind (getI .i64)).bind fun n18 =>
((cell r16.2 (List.length h) 3).bind (getI .i64)).bind fun n19 =>
((cell r16.2 (List.length h) 4).bind getStr).bind fun s20 =>
((cell r16.2 (List.length h) 5).bind getS).bind fun l21 =>
(run (Et base) 106 [(.agg #[(.int .i64 n18), (.int .i64 n19), (.string s20), (.slice l21.1 l21.2 l21.2)])] r16.2).bind fun r22 =>
((some r22.1).bind (getAgg 4)).bind fun l23 =>
((l23[0]?).bind (getI .i64)).bind fun n24 =>
((l23[1]?).bind (getI .i64)).bind fun n25 =>
((l23[2]?).bind getStr).bind fun s26 =>
((l23[3]?).bind getS).bind fun l27 =>
(wr base r22.2 (List.length h) 2 [(.int .i64 n24), (.int .i64 n25), (.string s26), (.slice l27.1 l27.2 l27.2)]).bind fun h28 =>
((cell h28 (List.length h) 0).bind (getI .i64)).bind fun n29 =>
((cell h28 (List.length h) 1).bind (getI .i64)).bind fun n30 =>
((cell h28 (List.length h) 2).bind (getI .i64)).bind fun n31 =>
((cell h28 (List.length h) 3).bind (getI .i64)).bind fun n32 =>
((cell h28 (List.length h) 4).bind getStr).bind fun s33 =>
((cell h28 (List.length h) 5).bind getS).bind fun l34 =>
(some (h28 ++ [some ⟨[(.int .i64 n29), (.int .i64 n30), (.int .i64 n31), (.int .i64 n32), (.string s33), (.slice l34.1 l34.2 l34.2)], 70⟩])).bind fun h35 =>
(app base h35 70 6 72 v5 v5n (rawAt h35 (some ⟨(List.length h28), 0, none⟩) (1 * 6)) 1).bind fun p36 =>
((some p36.1).bind getS).bind fun l37 =>
some (0, [some (.func (.func 86) #[] #[(.pointer (some v1c0))]), some (.slice l37.1 l37.2 l37.2), some (.slice v8 v8n v8n), some (.int .i64 v9), some (.int .i64 (IntKind.wrap .i64 (v10 + (1 : Int))))], p36.2)
else
some (0, [some (.func (.func 86) #[] #[(.pointer (some v1c0))]), some (.slice v5 v5n v5n), some (.slice v8 v8n v8n), some (.int .i64 v9), some (.int .i64 (IntKind.wrap .i64 (v10 + (1 : Int))))], r16.2))
else none)
else
some (2, [some (.slice v5 v5n v5n)], h)) : Option (Nat × Slots × AH)) := by kernel_rfl
theorem f84_eq_rest (base : Nat) (v0 : Option Addr) (v0n : Nat) (v1c0 : Addr) (h : AH) : exFun (Et base) (run (Et base)) loopL a84 Try.f84 [(.slice v0 v0n v0n), (.func (.func 86) #[] #[(.pointer (some v1c0))])] h =
((loopL (B84_0 base) [some (.func (.func 86) #[] #[(.pointer (some v1c0))]), some (.slice none 0 0), some (.slice v0 v0n v0n), some (.int .i64 ((v0n : Nat) : Int)), some (.int .i64 (0 : Int))] h).bind fun q1 =>
(if q1.1 = 2 then
((sget q1.2.1 0).bind getS).bind fun l2 =>
some ((.slice l2.1 l2.2 l2.2), q1.2.2)
else
none) : Option (Value × AH)) := by kernel_rfl
theorem r84_rest {base : Nat} {v0 : Option Addr} {v0n : Nat} {v1c0 : Addr} {h : AH} {r : Value × AH} (hx :
((loopL (B84_0 base) [some (.func (.func 86) #[] #[(.pointer (some v1c0))]), some (.slice none 0 0), some (.slice v0 v0n v0n), some (.int .i64 ((v0n : Nat) : Int)), some (.int .i64 (0 : Int))] h).bind fun q1 =>
(if q1.1 = 2 then
((sget q1.2.1 0).bind getS).bind fun l2 =>
some ((.slice l2.1 l2.2 l2.2), q1.2.2)
else
none)) = some r) : run (Et base) 84 [(.slice v0 v0n v0n), (.func (.func 86) #[] #[(.pointer (some v1c0))])] h = some r := run_i Try.func84 (by kernel_rfl) ((f84_eq_rest base v0 v0n v1c0 h).trans hx)
/-! impl.DueTimers$1 (gates 0) -/
theorem f85_eq (base : Nat) (v0_0 : Int) (v0_1 : Int) (v0_2 : Int) (v0_3 : Int) (v0_4 : ByteArray) (v0_5 : Option Addr) (v0_5n : Nat) (w0 : Addr) (h : AH) : exFun (Et base) (run (Et base)) loopL a85 Try.f85 [(.agg #[(.int .i64 v0_0), (.int .i64 v0_1), (.int .i64 v0_2), (.int .i64 v0_3), (.string v0_4), (.slice v0_5 v0_5n v0_5n)]), (.pointer (some w0))] h =
((some (h ++ [some ⟨[(.int .i64 v0_0), (.int .i64 v0_1), (.int .i64 v0_2), (.int .i64 v0_3), (.string v0_4), (.slice v0_5 v0_5n v0_5n)], 70⟩])).bind fun h1 =>
((cell h1 (List.length h) 0).bind (getI .i64)).bind fun n2 =>
((cell h1 w0.block w0.off).bind (getI .i64)).bind fun n3 =>
some ((.bool (decide (n2 ≤ n3))), h1) : Option (Value × AH)) := by kernel_rfl
theorem r85 {base : Nat} {v0_0 : Int} {v0_1 : Int} {v0_2 : Int} {v0_3 : Int} {v0_4 : ByteArray} {v0_5 : Option Addr} {v0_5n : Nat} {w0 : Addr} {h : AH} {r : Value × AH} (hx :
((some (h ++ [some ⟨[(.int .i64 v0_0), (.int .i64 v0_1), (.int .i64 v0_2), (.int .i64 v0_3), (.string v0_4), (.slice v0_5 v0_5n v0_5n)], 70⟩])).bind fun h1 =>
((cell h1 (List.length h) 0).bind (getI .i64)).bind fun n2 =>
((cell h1 w0.block w0.off).bind (getI .i64)).bind fun n3 =>
some ((.bool (decide (n2 ≤ n3))), h1)) = some r) : run (Et base) 85 [(.agg #[(.int .i64 v0_0), (.int .i64 v0_1), (.int .i64 v0_2), (.int .i64 v0_3), (.string v0_4), (.slice v0_5 v0_5n v0_5n)]), (.pointer (some w0))] h = some r := run_i Try.func85 (by kernel_rfl) ((f85_eq base v0_0 v0_1 v0_2 v0_3 v0_4 v0_5 v0_5n w0 h).trans hx)
/-! impl.DueTimers$2 (gates 0) -/
theorem f86_eq (base : Nat) (v0_0 : Int) (v0_1 : Int) (v0_2 : Int) (v0_3 : Int) (v0_4 : ByteArray) (v0_5 : Option Addr) (v0_5n : Nat) (w0 : Addr) (h : AH) : exFun (Et base) (run (Et base)) loopL a86 Try.f86 [(.agg #[(.int .i64 v0_0), (.int .i64 v0_1), (.int .i64 v0_2), (.int .i64 v0_3), (.string v0_4), (.slice v0_5 v0_5n v0_5n)]), (.pointer (some w0))] h =
((some (h ++ [some ⟨[(.int .i64 v0_0), (.int .i64 v0_1), (.int .i64 v0_2), (.int .i64 v0_3), (.string v0_4), (.slice v0_5 v0_5n v0_5n)], 70⟩])).bind fun h1 =>
((cell h1 (List.length h) 0).bind (getI .i64)).bind fun n2 =>
((cell h1 w0.block w0.off).bind (getI .i64)).bind fun n3 =>
some ((.bool (decide (n2 > n3))), h1) : Option (Value × AH)) := by kernel_rfl
theorem r86 {base : Nat} {v0_0 : Int} {v0_1 : Int} {v0_2 : Int} {v0_3 : Int} {v0_4 : ByteArray} {v0_5 : Option Addr} {v0_5n : Nat} {w0 : Addr} {h : AH} {r : Value × AH} (hx :
((some (h ++ [some ⟨[(.int .i64 v0_0), (.int .i64 v0_1), (.int .i64 v0_2), (.int .i64 v0_3), (.string v0_4), (.slice v0_5 v0_5n v0_5n)], 70⟩])).bind fun h1 =>
((cell h1 (List.length h) 0).bind (getI .i64)).bind fun n2 =>
((cell h1 w0.block w0.off).bind (getI .i64)).bind fun n3 =>
some ((.bool (decide (n2 > n3))), h1)) = some r) : run (Et base) 86 [(.agg #[(.int .i64 v0_0), (.int .i64 v0_1), (.int .i64 v0_2), (.int .i64 v0_3), (.string v0_4), (.slice v0_5 v0_5n v0_5n)]), (.pointer (some w0))] h = some r := run_i Try.func86 (by kernel_rfl) ((f86_eq base v0_0 v0_1 v0_2 v0_3 v0_4 v0_5 v0_5n w0 h).trans hx)
/-! spec.l14Copy (gates 0) -/
noncomputable def B87_0 (base : Nat) : Body := fun l h => lay s87_0 l fun s => exCode (Et base) (run (Et base)) loopL a87_0 (subC [1, 1, 0, 1, 0, 0] (bodyC Try.f87)) s h (keepK s87_0 e87_0)
theorem B87_0_eq (base : Nat) (v0 : Option Addr) (v0n : Nat) (v3 : Option Addr) (v3n : Nat) (v4 : Int) (h : AH) : B87_0 base [some (.slice v0 v0n v0n), some (.slice v3 v3n v3n), some (.int .i64 v4)] h =
((if (decide (v4 < ((v0n : Nat) : Int))) = true then
(if 0 ≤ v4 ∧ v4 < ((v0n : Nat) : Int) then
((v0 : Option Addr)).bind fun a1 =>
((cell h a1.block (a1.off + Int.toNat v4 * 6)).bind (getI .i64)).bind fun n2 =>
((cell h a1.block ((a1.off + Int.toNat v4 * 6) + 1)).bind (getI .i64)).bind fun n3 =>
((cell h a1.block (((a1.off + Int.toNat v4 * 6) + 1) + 1)).bind (getI .i64)).bind fun n4 =>
((cell h a1.block ((((a1.off + Int.toNat v4 * 6) + 1) + 1) + 1)).bind (getI .i64)).bind fun n5 =>
((cell h a1.block (((((a1.off + Int.toNat v4 * 6) + 1) + 1) + 1) + 1)).bind getStr).bind fun s6 =>
((cell h a1.block ((((((a1.off + Int.toNat v4 * 6) + 1) + 1) + 1) + 1) + 1)).bind getS).bind fun l7 =>
(some (h ++ [some ⟨[(.int .i64 0), (.int .i64 0), (.int .i64 0), (.int .i64 0), (.string ⟨#[]⟩), (.slice none 0 0)], 70⟩])).bind fun h8 =>
(wr base h8 (List.length h) 0 [(.int .i64 n2), (.int .i64 n3), (.int .i64 n4), (.int .i64 n5), (.string s6), (.slice l7.1 l7.2 l7.2)]).bind fun h9 =>
((cell h9 (List.length h) 2).bind (getI .i64)).bind fun n10 =>
((cell h9 (List.length h) 3).bind (getI .i64)).bind fun n11 =>
((cell h9 (List.length h) 4).bind getStr).bind fun s12 =>
((cell h9 (List.length h) 5).bind getS).bind fun l13 =>
(run (Et base) 94 [(.agg #[(.int .i64 n10), (.int .i64 n11), (.string s12), (.slice l13.1 l13.2 l13.2)])] h9).bind fun r14 =>
((some r14.1).bind (getAgg 4)).bind fun l15 =>
((l15[0]?).bind (getI .i64)).bind fun n16 =>
((l15[1]?).bind (getI .i64)).bind fun n17 =>
((l15[2]?).bind getStr).bind fun s18 =>
((l15[3]?).bind getS).bind fun l19 =>
(wr base r14.2 (List.length h) 2 [(.int .i64 n16), (.int .i64 n17), (.string s18), (.slice l19.1 l19.2 l19.2)]).bind fun h20 =>
((cell h20 (List.length h) 0).bind (getI .i64)).bind fun n21 =>
((cell h20 (List.length h) 1).bind (getI .i64)).bind fun n22 =>
((cell h20 (List.length h) 2).bind (getI .i64)).bind fun n23 =>
((cell h20 (List.length h) 3).bind (getI .i64)).bind fun n24 =>
((cell h20 (List.length h) 4).bind getStr).bind fun s25 =>
((cell h20 (List.length h) 5).bind getS).bind fun l26 =>
(some (h20 ++ [some ⟨[(.int .i64 n21), (.int .i64 n22), (.int .i64 n23), (.int .i64 n24), (.string s25), (.slice l26.1 l26.2 l26.2)], 70⟩])).bind fun h27 =>
(app base h27 70 6 72 v3 v3n (rawAt h27 (some ⟨(List.length h20), 0, none⟩) (1 * 6)) 1).bind fun p28 =>
((some p28.1).bind getS).bind fun l29 =>
some (0, [some (.slice v0 v0n v0n), some (.slice l29.1 l29.2 l29.2), some (.int .i64 (IntKind.wrap .i64 (v4 + (1 : Int))))], p28.2)
else none)
else
some (2, [some (.slice v3 v3n v3n)], h)) : Option (Nat × Slots × AH)) := by kernel_rfl
theorem f87_eq (base : Nat) (v0 : Option Addr) (v0n : Nat) (h : AH) : exFun (Et base) (run (Et base)) loopL a87 Try.f87 [(.slice v0 v0n v0n)] h =
((some (h ++ [some ⟨[], 70⟩])).bind fun h1 =>
(loopL (B87_0 base) [some (.slice v0 v0n v0n), some (.slice (some ⟨(List.length h), 0, none⟩) 0 0), some (.int .i64 (0 : Int))] h1).bind fun q2 =>
(if q2.1 = 2 then
((sget q2.2.1 0).bind getS).bind fun l3 =>
some ((.slice l3.1 l3.2 l3.2), q2.2.2)
else
none) : Option (Value × AH)) := by kernel_rfl
theorem r87 {base : Nat} {v0 : Option Addr} {v0n : Nat} {h : AH} {r : Value × AH} (hx :
((some (h ++ [some ⟨[], 70⟩])).bind fun h1 =>
(loopL (B87_0 base) [some (.slice v0 v0n v0n), some (.slice (some ⟨(List.length h), 0, none⟩) 0 0), some (.int .i64 (0 : Int))] h1).bind fun q2 =>
(if q2.1 = 2 then
((sget q2.2.1 0).bind getS).bind fun l3 =>
some ((.slice l3.1 l3.2 l3.2), q2.2.2)
else
none)) = some r) : run (Et base) 87 [(.slice v0 v0n v0n)] h = some r := run_i Try.func87 (by kernel_rfl) ((f87_eq base v0 v0n h).trans hx)
/-! impl.DropTimers$1 (gates 0) -/
theorem f88_eq (base : Nat) (v0_0 : Int) (v0_1 : Int) (v0_2 : Int) (v0_3 : Int) (v0_4 : ByteArray) (v0_5 : Option Addr) (v0_5n : Nat) (w0 : Addr) (h : AH) : exFun (Et base) (run (Et base)) loopL a88 Try.f88 [(.agg #[(.int .i64 v0_0), (.int .i64 v0_1), (.int .i64 v0_2), (.int .i64 v0_3), (.string v0_4), (.slice v0_5 v0_5n v0_5n)]), (.pointer (some w0))] h =
((some (h ++ [some ⟨[(.int .i64 v0_0), (.int .i64 v0_1), (.int .i64 v0_2), (.int .i64 v0_3), (.string v0_4), (.slice v0_5 v0_5n v0_5n)], 70⟩])).bind fun h1 =>
((cell h1 (List.length h) 1).bind (getI .i64)).bind fun n2 =>
((cell h1 w0.block w0.off).bind (getI .i64)).bind fun n3 =>
some ((.bool (n2 != n3)), h1) : Option (Value × AH)) := by kernel_rfl
theorem r88 {base : Nat} {v0_0 : Int} {v0_1 : Int} {v0_2 : Int} {v0_3 : Int} {v0_4 : ByteArray} {v0_5 : Option Addr} {v0_5n : Nat} {w0 : Addr} {h : AH} {r : Value × AH} (hx :
((some (h ++ [some ⟨[(.int .i64 v0_0), (.int .i64 v0_1), (.int .i64 v0_2), (.int .i64 v0_3), (.string v0_4), (.slice v0_5 v0_5n v0_5n)], 70⟩])).bind fun h1 =>
((cell h1 (List.length h) 1).bind (getI .i64)).bind fun n2 =>
((cell h1 w0.block w0.off).bind (getI .i64)).bind fun n3 =>
some ((.bool (n2 != n3)), h1)) = some r) : run (Et base) 88 [(.agg #[(.int .i64 v0_0), (.int .i64 v0_1), (.int .i64 v0_2), (.int .i64 v0_3), (.string v0_4), (.slice v0_5 v0_5n v0_5n)]), (.pointer (some w0))] h = some r := run_i Try.func88 (by kernel_rfl) ((f88_eq base v0_0 v0_1 v0_2 v0_3 v0_4 v0_5 v0_5n w0 h).trans hx)
/-! laws.markText (gates 0) -/
noncomputable def B89_0 (base : Nat) : Body := fun l h => lay s89_0 l fun s => exCode (Et base) (run (Et base)) loopL a89_0 (subC [1, 1, 1, 0, 0, 0] (bodyC Try.f89)) s h (keepK s89_0 e89_0)
theorem B89_0_eq (base : Nat) (v0 : Int) (v3 : ByteArray) (h : AH) : B89_0 base [some (.int .i64 v0), some (.string v3)] h =
((if (decide (v0 > (0 : Int))) = true then
(some (h ++ [some ⟨[(.int .u8 (IntKind.wrap .u8 (IntKind.wrap .i64 ((48 : Int) + (Int.tmod v0 (10 : Int))))))], 5⟩])).bind fun h1 =>
((rawAt h1 (some ⟨(List.length h), 0, none⟩) 1).bind u8s).bind fun z2 =>
(if (bstr z2).size + v3.size ≤ 9223372036854775807 then
some (0, [some (.int .i64 (IntKind.wrap .i64 (Int.tdiv v0 (10 : Int)))), some (.string ((bstr z2) ++ v3))], h1)
else none)
else
some (2, [some (.string v3)], h)) : Option (Nat × Slots × AH)) := by kernel_rfl
theorem f89_eq (base : Nat) (v0 : Int) (h : AH) : exFun (Et base) (run (Et base)) loopL a89 Try.f89 [(.int .i64 v0)] h =
((if (decide (v0 ≤ (0 : Int))) = true then
some ((.string (⟨#[109, 48]⟩ : ByteArray)), h)
else
(loopL (B89_0 base) [some (.int .i64 v0), some (.string (⟨#[]⟩ : ByteArray))] h).bind fun q1 =>
(if q1.1 = 2 then
((sget q1.2.1 0).bind getStr).bind fun s2 =>
(if (⟨#[109]⟩ : ByteArray).size + s2.size ≤ 9223372036854775807 then
some ((.string ((⟨#[109]⟩ : ByteArray) ++ s2)), q1.2.2)
else none)
else
none)) : Option (Value × AH)) := by kernel_rfl
theorem r89 {base : Nat} {v0 : Int} {h : AH} {r : Value × AH} (hx :
((if (decide (v0 ≤ (0 : Int))) = true then
some ((.string (⟨#[109, 48]⟩ : ByteArray)), h)
else
(loopL (B89_0 base) [some (.int .i64 v0), some (.string (⟨#[]⟩ : ByteArray))] h).bind fun q1 =>
(if q1.1 = 2 then
((sget q1.2.1 0).bind getStr).bind fun s2 =>
(if (⟨#[109]⟩ : ByteArray).size + s2.size ≤ 9223372036854775807 then
some ((.string ((⟨#[109]⟩ : ByteArray) ++ s2)), q1.2.2)
else none)
else
none))) = some r) : run (Et base) 89 [(.int .i64 v0)] h = some r := run_i Try.func89 (by kernel_rfl) ((f89_eq base v0 h).trans hx)
/-! laws.markTermS (gates 0) -/
noncomputable def B90_0 (base : Nat) : Body := fun l h => lay s90_0 l fun s => exCode (Et base) (run (Et base)) loopL a90_0 (subC [1, 0, 1, 0, 0] (bodyC Try.f90)) s h (keepK s90_0 e90_0)
theorem B90_0_eq (base : Nat) (v0 : Option Addr) (v0n : Nat) (v1 : Int) (v5 : Int) (h : AH) : B90_0 base [some (.slice v0 v0n v0n), some (.int .i64 v1), some (.int .i64 v5)] h =
((if (decide (v5 < ((v0n : Nat) : Int))) = true then
(if 0 ≤ v5 ∧ v5 < ((v0n : Nat) : Int) then
((v0 : Option Addr)).bind fun a1 =>
(wr base h a1.block ((a1.off + Int.toNat v5 * 4) + 0) [(.int .i64 v1)]).bind fun h2 =>
(if 0 ≤ v5 ∧ v5 < ((v0n : Nat) : Int) then
((v0 : Option Addr)).bind fun a3 =>
(wr base h2 a3.block ((a3.off + Int.toNat v5 * 4) + 1) [(.int .i64 (IntKind.wrap .i64 (v1 + (1 : Int))))]).bind fun h4 =>
(run (Et base) 89 [(.int .i64 (IntKind.wrap .i64 ((IntKind.wrap .i64 (v1 + (1 : Int))) + (1 : Int))))] h4).bind fun r5 =>
((some r5.1).bind getStr).bind fun s6 =>
(if 0 ≤ v5 ∧ v5 < ((v0n : Nat) : Int) then
((v0 : Option Addr)).bind fun a7 =>
(wr base r5.2 a7.block ((a7.off + Int.toNat v5 * 4) + 2) [(.string s6)]).bind fun h8 =>
(if 0 ≤ v5 ∧ v5 < ((v0n : Nat) : Int) then
((v0 : Option Addr)).bind fun a9 =>
((cell h8 a9.block ((a9.off + Int.toNat v5 * 4) + 3)).bind getS).bind fun l10 =>
(run (Et base) 90 [(.slice l10.1 l10.2 l10.2), (.int .i64 (IntKind.wrap .i64 ((IntKind.wrap .i64 ((IntKind.wrap .i64 (v1 + (1 : Int))) + (1 : Int))) + (1 : Int))))] h8).bind fun r11 =>
((some r11.1).bind (getI .i64)).bind fun n12 =>
some (0, [some (.slice v0 v0n v0n), some (.int .i64 n12), some (.int .i64 (IntKind.wrap .i64 (v5 + (1 : Int))))], r11.2)
else none)
else none)
else none)
else none)
else
some (2, [some (.int .i64 v1)], h)) : Option (Nat × Slots × AH)) := by kernel_rfl
theorem f90_eq (base : Nat) (v0 : Option Addr) (v0n : Nat) (v1 : Int) (h : AH) : exFun (Et base) (run (Et base)) loopL a90 Try.f90 [(.slice v0 v0n v0n), (.int .i64 v1)] h =
((loopL (B90_0 base) [some (.slice v0 v0n v0n), some (.int .i64 v1), some (.int .i64 (0 : Int))] h).bind fun q1 =>
(if q1.1 = 2 then
((sget q1.2.1 0).bind (getI .i64)).bind fun n2 =>
some ((.int .i64 n2), q1.2.2)
else
none) : Option (Value × AH)) := by kernel_rfl
theorem r90 {base : Nat} {v0 : Option Addr} {v0n : Nat} {v1 : Int} {h : AH} {r : Value × AH} (hx :
((loopL (B90_0 base) [some (.slice v0 v0n v0n), some (.int .i64 v1), some (.int .i64 (0 : Int))] h).bind fun q1 =>
(if q1.1 = 2 then
((sget q1.2.1 0).bind (getI .i64)).bind fun n2 =>
some ((.int .i64 n2), q1.2.2)
else
none)) = some r) : run (Et base) 90 [(.slice v0 v0n v0n), (.int .i64 v1)] h = some r := run_i Try.func90 (by kernel_rfl) ((f90_eq base v0 v0n v1 h).trans hx)
/-! laws.heldTermS (gates 0) -/
noncomputable def B91_0 (base : Nat) : Body := fun l h => lay s91_0 l fun s => exCode (Et base) (run (Et base)) loopL a91_0 (subC [1, 0, 1, 0, 0] (bodyC Try.f91)) s h (keepK s91_0 e91_0)
theorem B91_0_eq (base : Nat) (v0 : Option Addr) (v0n : Nat) (v1 : Int) (v5 : Int) (h : AH) : B91_0 base [some (.slice v0 v0n v0n), some (.int .i64 v1), some (.int .i64 v5)] h =
((if (decide (v5 < ((v0n : Nat) : Int))) = true then
(if 0 ≤ v5 ∧ v5 < ((v0n : Nat) : Int) then
((v0 : Option Addr)).bind fun a1 =>
((cell h a1.block ((a1.off + Int.toNat v5 * 4) + 0)).bind (getI .i64)).bind fun n2 =>
(if (n2 != v1) = true then
some (1, [some (.int .i64 (-1 : Int))], h)
else
(if 0 ≤ v5 ∧ v5 < ((v0n : Nat) : Int) then
((v0 : Option Addr)).bind fun a3 =>
((cell h a3.block ((a3.off + Int.toNat v5 * 4) + 1)).bind (getI .i64)).bind fun n4 =>
(if (n4 != (IntKind.wrap .i64 (v1 + (1 : Int)))) = true then
some (1, [some (.int .i64 (-1 : Int))], h)
else
(if 0 ≤ v5 ∧ v5 < ((v0n : Nat) : Int) then
((v0 : Option Addr)).bind fun a5 =>
((cell h a5.block ((a5.off + Int.toNat v5 * 4) + 2)).bind getStr).bind fun s6 =>
(run (Et base) 89 [(.int .i64 (IntKind.wrap .i64 ((IntKind.wrap .i64 (v1 + (1 : Int))) + (1 : Int))))] h).bind fun r7 =>
((some r7.1).bind getStr).bind fun s8 =>
(gate (sameA h r7.2 (some ⟨a5.block, ((a5.off + Int.toNat v5 * 4) + 2), none⟩) 1)
((if (!(s6.toList == s8.toList)) = true then
some (1, [some (.int .i64 (-1 : Int))], r7.2)
else
(if 0 ≤ v5 ∧ v5 < ((v0n : Nat) : Int) then
((v0 : Option Addr)).bind fun a9 =>
((cell r7.2 a9.block ((a9.off + Int.toNat v5 * 4) + 3)).bind getS).bind fun l10 =>
(run (Et base) 91 [(.slice l10.1 l10.2 l10.2), (.int .i64 (IntKind.wrap .i64 ((IntKind.wrap .i64 ((IntKind.wrap .i64 (v1 + (1 : Int))) + (1 : Int))) + (1 : Int))))] r7.2).bind fun r11 =>
((some r11.1).bind (getI .i64)).bind fun n12 =>
(if (decide (n12 < (0 : Int))) = true then
some (1, [some (.int .i64 (-1 : Int))], r11.2)
else
some (0, [some (.slice v0 v0n v0n), some (.int .i64 n12), some (.int .i64 (IntKind.wrap .i64 (v5 + (1 : Int))))], r11.2))
else none))))
else none))
else none))
else none)
else
some (2, [some (.int .i64 v1)], h)) : Option (Nat × Slots × AH)) := by kernel_rfl
theorem f91_eq (base : Nat) (v0 : Option Addr) (v0n : Nat) (v1 : Int) (h : AH) : exFun (Et base) (run (Et base)) loopL a91 Try.f91 [(.slice v0 v0n v0n), (.int .i64 v1)] h =
((loopL (B91_0 base) [some (.slice v0 v0n v0n), some (.int .i64 v1), some (.int .i64 (0 : Int))] h).bind fun q1 =>
(if q1.1 = 1 then
((sget q1.2.1 0).bind (getI .i64)).bind fun n2 =>
some ((.int .i64 n2), q1.2.2)
else
(if q1.1 = 2 then
((sget q1.2.1 0).bind (getI .i64)).bind fun n3 =>
some ((.int .i64 n3), q1.2.2)
else
none)) : Option (Value × AH)) := by kernel_rfl
theorem r91 {base : Nat} {v0 : Option Addr} {v0n : Nat} {v1 : Int} {h : AH} {r : Value × AH} (hx :
((loopL (B91_0 base) [some (.slice v0 v0n v0n), some (.int .i64 v1), some (.int .i64 (0 : Int))] h).bind fun q1 =>
(if q1.1 = 1 then
((sget q1.2.1 0).bind (getI .i64)).bind fun n2 =>
some ((.int .i64 n2), q1.2.2)
else
(if q1.1 = 2 then
((sget q1.2.1 0).bind (getI .i64)).bind fun n3 =>
some ((.int .i64 n3), q1.2.2)
else
none))) = some r) : run (Et base) 91 [(.slice v0 v0n v0n), (.int .i64 v1)] h = some r := run_i Try.func91 (by kernel_rfl) ((f91_eq base v0 v0n v1 h).trans hx)
/-! spec.l14Bent (gates 0) -/
theorem f92_eq (base : Nat) (v0 : Option Addr) (h : AH) : exFun (Et base) (run (Et base)) loopL a92 Try.f92 [(.pointer v0)] h =
((some (h ++ [some ⟨[(.int .i64 0), (.int .i64 0), (.int .i64 0), (.int .i64 0), (.string ⟨#[]⟩), (.slice none 0 0)], 70⟩])).bind fun h1 =>
(run (Et base) 104 [(.pointer v0)] h1).bind fun r2 =>
((some r2.1).bind (getAgg 6)).bind fun l3 =>
((l3[0]?).bind (getI .i64)).bind fun n4 =>
((l3[1]?).bind (getI .i64)).bind fun n5 =>
((l3[2]?).bind (getI .i64)).bind fun n6 =>
((l3[3]?).bind (getI .i64)).bind fun n7 =>
((l3[4]?).bind getStr).bind fun s8 =>
((l3[5]?).bind getS).bind fun l9 =>
(some (r2.2 ++ [some ⟨[(.int .i64 0), (.int .i64 0), (.int .i64 0), (.int .i64 0), (.string ⟨#[]⟩), (.slice none 0 0)], 70⟩])).bind fun h10 =>
(wr base h10 (List.length r2.2) 0 [(.int .i64 n4), (.int .i64 n5), (.int .i64 n6), (.int .i64 n7), (.string s8), (.slice l9.1 l9.2 l9.2)]).bind fun h11 =>
((run (Et base) 67 [(.pointer v0), (.int .i64 (8 : Int))] h11).bind fun r13 =>
((some r13.1).bind (getI .i64)).bind fun n14 =>
(if (n14 == (0 : Int)) = true then
(some (r13.2 ++ [some ⟨[(.int .i64 (-1 : Int)), (.int .i64 (1000000001 : Int))], 3⟩])).bind fun h15 =>
(run (Et base) 74 [(.pointer v0), (.slice (some ⟨(List.length r13.2), 0, none⟩) 2 2)] h15).bind fun r16 =>
((some r16.1).bind (getI .i64)).bind fun n17 =>
(wr base r16.2 (List.length r2.2) 0 [(.int .i64 n17)]).bind fun h18 =>
some (.inl ([some (.pointer (some ⟨(List.length h), 0, none⟩)), some (.pointer (some ⟨(List.length r2.2), 0, none⟩))], h18))
else
(if (n14 == (1 : Int)) = true then
(some (r13.2 ++ [some ⟨[(.int .i64 (0 : Int)), (.int .i64 (99999 : Int)), (.int .i64 (100000 : Int))], 3⟩])).bind fun h19 =>
(run (Et base) 74 [(.pointer v0), (.slice (some ⟨(List.length r13.2), 0, none⟩) 3 3)] h19).bind fun r20 =>
((some r20.1).bind (getI .i64)).bind fun n21 =>
(wr base r20.2 (List.length r2.2) 1 [(.int .i64 n21)]).bind fun h22 =>
some (.inl ([some (.pointer (some ⟨(List.length h), 0, none⟩)), some (.pointer (some ⟨(List.length r2.2), 0, none⟩))], h22))
else
(if (n14 == (2 : Int)) = true then
(run (Et base) 107 [(.pointer v0)] r13.2).bind fun r23 =>
((some r23.1).bind (getAgg 4)).bind fun l24 =>
((l24[0]?).bind (getI .i64)).bind fun n25 =>
((l24[1]?).bind (getI .i64)).bind fun n26 =>
((l24[2]?).bind getStr).bind fun s27 =>
((l24[3]?).bind getS).bind fun l28 =>
(wr base r23.2 (List.length r2.2) 2 [(.int .i64 n25), (.int .i64 n26), (.string s27), (.slice l28.1 l28.2 l28.2)]).bind fun h29 =>
some (.inl ([some (.pointer (some ⟨(List.length h), 0, none⟩)), some (.pointer (some ⟨(List.length r2.2), 0, none⟩))], h29))
else
some (.inl ([some (.pointer (some ⟨(List.length h), 0, none⟩)), some (.pointer (some ⟨(List.length r2.2), 0, none⟩))], r13.2)))))).bind fun j12 => joinK j12 fun j12 =>
((sget j12.1 0).bind getA).bind fun d30 =>
((sget (j12.1.tail) 0).bind getA).bind fun d31 =>
((cell j12.2 d31.block d31.off).bind (getI .i64)).bind fun n32 =>
((cell j12.2 d31.block (d31.off + 1)).bind (getI .i64)).bind fun n33 =>
((cell j12.2 d31.block ((d31.off + 1) + 1)).bind (getI .i64)).bind fun n34 =>
((cell j12.2 d31.block (((d31.off + 1) + 1) + 1)).bind (getI .i64)).bind fun n35 =>
((cell j12.2 d31.block ((((d31.off + 1) + 1) + 1) + 1)).bind getStr).bind fun s36 =>
((cell j12.2 d31.block (((((d31.off + 1) + 1) + 1) + 1) + 1)).bind getS).bind fun l37 =>
(wr base j12.2 d30.block d30.off [(.int .i64 n32), (.int .i64 n33), (.int .i64 n34), (.int .i64 n35), (.string s36), (.slice l37.1 l37.2 l37.2)]).bind fun h38 =>
((cell h38 d30.block d30.off).bind (getI .i64)).bind fun n39 =>
((cell h38 d30.block (d30.off + 1)).bind (getI .i64)).bind fun n40 =>
((cell h38 d30.block ((d30.off + 1) + 1)).bind (getI .i64)).bind fun n41 =>
((cell h38 d30.block (((d30.off + 1) + 1) + 1)).bind (getI .i64)).bind fun n42 =>
((cell h38 d30.block ((((d30.off + 1) + 1) + 1) + 1)).bind getStr).bind fun s43 =>
((cell h38 d30.block (((((d30.off + 1) + 1) + 1) + 1) + 1)).bind getS).bind fun l44 =>
some ((.agg #[(.int .i64 n39), (.int .i64 n40), (.int .i64 n41), (.int .i64 n42), (.string s43), (.slice l44.1 l44.2 l44.2)]), h38) : Option (Value × AH)) := by kernel_rfl
theorem r92 {base : Nat} {v0 : Option Addr} {h : AH} {r : Value × AH} (hx :
((some (h ++ [some ⟨[(.int .i64 0), (.int .i64 0), (.int .i64 0), (.int .i64 0), (.string ⟨#[]⟩), (.slice none 0 0)], 70⟩])).bind fun h1 =>
(run (Et base) 104 [(.pointer v0)] h1).bind fun r2 =>
((some r2.1).bind (getAgg 6)).bind fun l3 =>
((l3[0]?).bind (getI .i64)).bind fun n4 =>
((l3[1]?).bind (getI .i64)).bind fun n5 =>
((l3[2]?).bind (getI .i64)).bind fun n6 =>
((l3[3]?).bind (getI .i64)).bind fun n7 =>
((l3[4]?).bind getStr).bind fun s8 =>
((l3[5]?).bind getS).bind fun l9 =>
(some (r2.2 ++ [some ⟨[(.int .i64 0), (.int .i64 0), (.int .i64 0), (.int .i64 0), (.string ⟨#[]⟩), (.slice none 0 0)], 70⟩])).bind fun h10 =>
(wr base h10 (List.length r2.2) 0 [(.int .i64 n4), (.int .i64 n5), (.int .i64 n6), (.int .i64 n7), (.string s8), (.slice l9.1 l9.2 l9.2)]).bind fun h11 =>
((run (Et base) 67 [(.pointer v0), (.int .i64 (8 : Int))] h11).bind fun r13 =>
((some r13.1).bind (getI .i64)).bind fun n14 =>
(if (n14 == (0 : Int)) = true then
(some (r13.2 ++ [some ⟨[(.int .i64 (-1 : Int)), (.int .i64 (1000000001 : Int))], 3⟩])).bind fun h15 =>
(run (Et base) 74 [(.pointer v0), (.slice (some ⟨(List.length r13.2), 0, none⟩) 2 2)] h15).bind fun r16 =>
((some r16.1).bind (getI .i64)).bind fun n17 =>
(wr base r16.2 (List.length r2.2) 0 [(.int .i64 n17)]).bind fun h18 =>
some (.inl ([some (.pointer (some ⟨(List.length h), 0, none⟩)), some (.pointer (some ⟨(List.length r2.2), 0, none⟩))], h18))
else
(if (n14 == (1 : Int)) = true then
(some (r13.2 ++ [some ⟨[(.int .i64 (0 : Int)), (.int .i64 (99999 : Int)), (.int .i64 (100000 : Int))], 3⟩])).bind fun h19 =>
(run (Et base) 74 [(.pointer v0), (.slice (some ⟨(List.length r13.2), 0, none⟩) 3 3)] h19).bind fun r20 =>
((some r20.1).bind (getI .i64)).bind fun n21 =>
(wr base r20.2 (List.length r2.2) 1 [(.int .i64 n21)]).bind fun h22 =>
some (.inl ([some (.pointer (some ⟨(List.length h), 0, none⟩)), some (.pointer (some ⟨(List.length r2.2), 0, none⟩))], h22))
else
(if (n14 == (2 : Int)) = true then
(run (Et base) 107 [(.pointer v0)] r13.2).bind fun r23 =>
((some r23.1).bind (getAgg 4)).bind fun l24 =>
((l24[0]?).bind (getI .i64)).bind fun n25 =>
((l24[1]?).bind (getI .i64)).bind fun n26 =>
((l24[2]?).bind getStr).bind fun s27 =>
((l24[3]?).bind getS).bind fun l28 =>
(wr base r23.2 (List.length r2.2) 2 [(.int .i64 n25), (.int .i64 n26), (.string s27), (.slice l28.1 l28.2 l28.2)]).bind fun h29 =>
some (.inl ([some (.pointer (some ⟨(List.length h), 0, none⟩)), some (.pointer (some ⟨(List.length r2.2), 0, none⟩))], h29))
else
some (.inl ([some (.pointer (some ⟨(List.length h), 0, none⟩)), some (.pointer (some ⟨(List.length r2.2), 0, none⟩))], r13.2)))))).bind fun j12 => joinK j12 fun j12 =>
((sget j12.1 0).bind getA).bind fun d30 =>
((sget (j12.1.tail) 0).bind getA).bind fun d31 =>
((cell j12.2 d31.block d31.off).bind (getI .i64)).bind fun n32 =>
((cell j12.2 d31.block (d31.off + 1)).bind (getI .i64)).bind fun n33 =>
((cell j12.2 d31.block ((d31.off + 1) + 1)).bind (getI .i64)).bind fun n34 =>
((cell j12.2 d31.block (((d31.off + 1) + 1) + 1)).bind (getI .i64)).bind fun n35 =>
((cell j12.2 d31.block ((((d31.off + 1) + 1) + 1) + 1)).bind getStr).bind fun s36 =>
((cell j12.2 d31.block (((((d31.off + 1) + 1) + 1) + 1) + 1)).bind getS).bind fun l37 =>
(wr base j12.2 d30.block d30.off [(.int .i64 n32), (.int .i64 n33), (.int .i64 n34), (.int .i64 n35), (.string s36), (.slice l37.1 l37.2 l37.2)]).bind fun h38 =>
((cell h38 d30.block d30.off).bind (getI .i64)).bind fun n39 =>
((cell h38 d30.block (d30.off + 1)).bind (getI .i64)).bind fun n40 =>
((cell h38 d30.block ((d30.off + 1) + 1)).bind (getI .i64)).bind fun n41 =>
((cell h38 d30.block (((d30.off + 1) + 1) + 1)).bind (getI .i64)).bind fun n42 =>
((cell h38 d30.block ((((d30.off + 1) + 1) + 1) + 1)).bind getStr).bind fun s43 =>
((cell h38 d30.block (((((d30.off + 1) + 1) + 1) + 1) + 1)).bind getS).bind fun l44 =>
some ((.agg #[(.int .i64 n39), (.int .i64 n40), (.int .i64 n41), (.int .i64 n42), (.string s43), (.slice l44.1 l44.2 l44.2)]), h38)) = some r) : run (Et base) 92 [(.pointer v0)] h = some r := run_i Try.func92 (by kernel_rfl) ((f92_eq base v0 h).trans hx)
/-! impl.anyTimer (gates 0) -/
theorem f93_eq (base : Nat) (v0_0 : Int) (v0_1 : Int) (v0_2 : Int) (v0_3 : Int) (v0_4 : ByteArray) (v0_5 : Option Addr) (v0_5n : Nat) (h : AH) : exFun (Et base) (run (Et base)) loopL a93 Try.f93 [(.agg #[(.int .i64 v0_0), (.int .i64 v0_1), (.int .i64 v0_2), (.int .i64 v0_3), (.string v0_4), (.slice v0_5 v0_5n v0_5n)])] h =
((some (h ++ [some ⟨[(.int .i64 v0_0), (.int .i64 v0_1), (.int .i64 v0_2), (.int .i64 v0_3), (.string v0_4), (.slice v0_5 v0_5n v0_5n)], 70⟩])).bind fun h1 =>
some ((.bool true), h1) : Option (Value × AH)) := by kernel_rfl
theorem r93 {base : Nat} {v0_0 : Int} {v0_1 : Int} {v0_2 : Int} {v0_3 : Int} {v0_4 : ByteArray} {v0_5 : Option Addr} {v0_5n : Nat} {h : AH} {r : Value × AH} (hx :
((some (h ++ [some ⟨[(.int .i64 v0_0), (.int .i64 v0_1), (.int .i64 v0_2), (.int .i64 v0_3), (.string v0_4), (.slice v0_5 v0_5n v0_5n)], 70⟩])).bind fun h1 =>
some ((.bool true), h1)) = some r) : run (Et base) 93 [(.agg #[(.int .i64 v0_0), (.int .i64 v0_1), (.int .i64 v0_2), (.int .i64 v0_3), (.string v0_4), (.slice v0_5 v0_5n v0_5n)])] h = some r := run_i Try.func93 (by kernel_rfl) ((f93_eq base v0_0 v0_1 v0_2 v0_3 v0_4 v0_5 v0_5n h).trans hx)
/-! spec.TermOk (gates 0) -/
theorem f101_eq (base : Nat) (v0_0 : Int) (v0_1 : Int) (v0_2 : ByteArray) (v0_3 : Option Addr) (v0_3n : Nat) (h : AH) : exFun (Et base) (run (Et base)) loopL a101 Try.f101 [(.agg #[(.int .i64 v0_0), (.int .i64 v0_1), (.string v0_2), (.slice v0_3 v0_3n v0_3n)])] h =
((some (h ++ [some ⟨[(.int .i64 v0_0), (.int .i64 v0_1), (.string v0_2), (.slice v0_3 v0_3n v0_3n)], 48⟩])).bind fun h1 =>
((cell h1 (List.length h) 0).bind (getI .i64)).bind fun n2 =>
((cell h1 (List.length h) 1).bind (getI .i64)).bind fun n3 =>
((cell h1 (List.length h) 2).bind getStr).bind fun s4 =>
((cell h1 (List.length h) 3).bind getS).bind fun l5 =>
(run (Et base) 111 [(.agg #[(.int .i64 n2), (.int .i64 n3), (.string s4), (.slice l5.1 l5.2 l5.2)]), (.int .i64 (6 : Int)), (.int .i64 (100 : Int))] h1).bind fun r6 =>
((some r6.1).bind (getI .i64)).bind fun n7 =>
some ((.bool (decide (n7 ≥ (0 : Int)))), r6.2) : Option (Value × AH)) := by kernel_rfl
theorem r101 {base : Nat} {v0_0 : Int} {v0_1 : Int} {v0_2 : ByteArray} {v0_3 : Option Addr} {v0_3n : Nat} {h : AH} {r : Value × AH} (hx :
((some (h ++ [some ⟨[(.int .i64 v0_0), (.int .i64 v0_1), (.string v0_2), (.slice v0_3 v0_3n v0_3n)], 48⟩])).bind fun h1 =>
((cell h1 (List.length h) 0).bind (getI .i64)).bind fun n2 =>
((cell h1 (List.length h) 1).bind (getI .i64)).bind fun n3 =>
((cell h1 (List.length h) 2).bind getStr).bind fun s4 =>
((cell h1 (List.length h) 3).bind getS).bind fun l5 =>
(run (Et base) 111 [(.agg #[(.int .i64 n2), (.int .i64 n3), (.string s4), (.slice l5.1 l5.2 l5.2)]), (.int .i64 (6 : Int)), (.int .i64 (100 : Int))] h1).bind fun r6 =>
((some r6.1).bind (getI .i64)).bind fun n7 =>
some ((.bool (decide (n7 ≥ (0 : Int)))), r6.2)) = some r) : run (Et base) 101 [(.agg #[(.int .i64 v0_0), (.int .i64 v0_1), (.string v0_2), (.slice v0_3 v0_3n v0_3n)])] h = some r := run_i Try.func101 (by kernel_rfl) ((f101_eq base v0_0 v0_1 v0_2 v0_3 v0_3n h).trans hx)
/-! impl.TermOk (gates 0) -/
theorem f102_eq (base : Nat) (v0_0 : Int) (v0_1 : Int) (v0_2 : ByteArray) (v0_3 : Option Addr) (v0_3n : Nat) (h : AH) : exFun (Et base) (run (Et base)) loopL a102 Try.f102 [(.agg #[(.int .i64 v0_0), (.int .i64 v0_1), (.string v0_2), (.slice v0_3 v0_3n v0_3n)])] h =
((some (h ++ [some ⟨[(.int .i64 v0_0), (.int .i64 v0_1), (.string v0_2), (.slice v0_3 v0_3n v0_3n)], 48⟩])).bind fun h1 =>
((cell h1 (List.length h) 0).bind (getI .i64)).bind fun n2 =>
((cell h1 (List.length h) 1).bind (getI .i64)).bind fun n3 =>
((cell h1 (List.length h) 2).bind getStr).bind fun s4 =>
((cell h1 (List.length h) 3).bind getS).bind fun l5 =>
(run (Et base) 112 [(.agg #[(.int .i64 n2), (.int .i64 n3), (.string s4), (.slice l5.1 l5.2 l5.2)]), (.int .i64 (1 : Int)), (.int .i64 (0 : Int))] h1).bind fun r6 =>
(getTup 2 r6.1).bind fun l7 =>
((l7[0]?).bind (getI .i64)).bind fun n8 =>
((l7[1]?).bind getB).bind fun b9 =>
some ((.bool b9), r6.2) : Option (Value × AH)) := by kernel_rfl
theorem r102 {base : Nat} {v0_0 : Int} {v0_1 : Int} {v0_2 : ByteArray} {v0_3 : Option Addr} {v0_3n : Nat} {h : AH} {r : Value × AH} (hx :
((some (h ++ [some ⟨[(.int .i64 v0_0), (.int .i64 v0_1), (.string v0_2), (.slice v0_3 v0_3n v0_3n)], 48⟩])).bind fun h1 =>
((cell h1 (List.length h) 0).bind (getI .i64)).bind fun n2 =>
((cell h1 (List.length h) 1).bind (getI .i64)).bind fun n3 =>
((cell h1 (List.length h) 2).bind getStr).bind fun s4 =>
((cell h1 (List.length h) 3).bind getS).bind fun l5 =>
(run (Et base) 112 [(.agg #[(.int .i64 n2), (.int .i64 n3), (.string s4), (.slice l5.1 l5.2 l5.2)]), (.int .i64 (1 : Int)), (.int .i64 (0 : Int))] h1).bind fun r6 =>
(getTup 2 r6.1).bind fun l7 =>
((l7[0]?).bind (getI .i64)).bind fun n8 =>
((l7[1]?).bind getB).bind fun b9 =>
some ((.bool b9), r6.2)) = some r) : run (Et base) 102 [(.agg #[(.int .i64 v0_0), (.int .i64 v0_1), (.string v0_2), (.slice v0_3 v0_3n v0_3n)])] h = some r := run_i Try.func102 (by kernel_rfl) ((f102_eq base v0_0 v0_1 v0_2 v0_3 v0_3n h).trans hx)
/-! impl.copyTerm (gates 0) -/
theorem f106_eq (base : Nat) (v0_0 : Int) (v0_1 : Int) (v0_2 : ByteArray) (v0_3 : Option Addr) (v0_3n : Nat) (h : AH) : exFun (Et base) (run (Et base)) loopL a106 Try.f106 [(.agg #[(.int .i64 v0_0), (.int .i64 v0_1), (.string v0_2), (.slice v0_3 v0_3n v0_3n)])] h =
((some (h ++ [some ⟨[(.int .i64 v0_0), (.int .i64 v0_1), (.string v0_2), (.slice v0_3 v0_3n v0_3n)], 48⟩])).bind fun h1 =>
(some (h1 ++ [some ⟨[(.int .i64 0), (.int .i64 0), (.string ⟨#[]⟩), (.slice none 0 0)], 48⟩])).bind fun h2 =>
((cell h2 (List.length h) 3).bind getS).bind fun l3 =>
(run (Et base) 113 [(.slice l3.1 l3.2 l3.2)] h2).bind fun r4 =>
((some r4.1).bind getS).bind fun l5 =>
(wr base r4.2 (List.length h) 3 [(.slice l5.1 l5.2 l5.2)]).bind fun h6 =>
((cell h6 (List.length h) 0).bind (getI .i64)).bind fun n7 =>
((cell h6 (List.length h) 1).bind (getI .i64)).bind fun n8 =>
((cell h6 (List.length h) 2).bind getStr).bind fun s9 =>
((cell h6 (List.length h) 3).bind getS).bind fun l10 =>
(wr base h6 (List.length h1) 0 [(.int .i64 n7), (.int .i64 n8), (.string s9), (.slice l10.1 l10.2 l10.2)]).bind fun h11 =>
((cell h11 (List.length h1) 0).bind (getI .i64)).bind fun n12 =>
((cell h11 (List.length h1) 1).bind (getI .i64)).bind fun n13 =>
((cell h11 (List.length h1) 2).bind getStr).bind fun s14 =>
((cell h11 (List.length h1) 3).bind getS).bind fun l15 =>
some ((.agg #[(.int .i64 n12), (.int .i64 n13), (.string s14), (.slice l15.1 l15.2 l15.2)]), h11) : Option (Value × AH)) := by kernel_rfl
theorem r106 {base : Nat} {v0_0 : Int} {v0_1 : Int} {v0_2 : ByteArray} {v0_3 : Option Addr} {v0_3n : Nat} {h : AH} {r : Value × AH} (hx :
((some (h ++ [some ⟨[(.int .i64 v0_0), (.int .i64 v0_1), (.string v0_2), (.slice v0_3 v0_3n v0_3n)], 48⟩])).bind fun h1 =>
(some (h1 ++ [some ⟨[(.int .i64 0), (.int .i64 0), (.string ⟨#[]⟩), (.slice none 0 0)], 48⟩])).bind fun h2 =>
((cell h2 (List.length h) 3).bind getS).bind fun l3 =>
(run (Et base) 113 [(.slice l3.1 l3.2 l3.2)] h2).bind fun r4 =>
((some r4.1).bind getS).bind fun l5 =>
(wr base r4.2 (List.length h) 3 [(.slice l5.1 l5.2 l5.2)]).bind fun h6 =>
((cell h6 (List.length h) 0).bind (getI .i64)).bind fun n7 =>
((cell h6 (List.length h) 1).bind (getI .i64)).bind fun n8 =>
((cell h6 (List.length h) 2).bind getStr).bind fun s9 =>
((cell h6 (List.length h) 3).bind getS).bind fun l10 =>
(wr base h6 (List.length h1) 0 [(.int .i64 n7), (.int .i64 n8), (.string s9), (.slice l10.1 l10.2 l10.2)]).bind fun h11 =>
((cell h11 (List.length h1) 0).bind (getI .i64)).bind fun n12 =>
((cell h11 (List.length h1) 1).bind (getI .i64)).bind fun n13 =>
((cell h11 (List.length h1) 2).bind getStr).bind fun s14 =>
((cell h11 (List.length h1) 3).bind getS).bind fun l15 =>
some ((.agg #[(.int .i64 n12), (.int .i64 n13), (.string s14), (.slice l15.1 l15.2 l15.2)]), h11)) = some r) : run (Et base) 106 [(.agg #[(.int .i64 v0_0), (.int .i64 v0_1), (.string v0_2), (.slice v0_3 v0_3n v0_3n)])] h = some r := run_i Try.func106 (by kernel_rfl) ((f106_eq base v0_0 v0_1 v0_2 v0_3 v0_3n h).trans hx)
/-! spec.l1Look (gates 0) -/
noncomputable def B111_0 (base : Nat) : Body := fun l h => lay s111_0 l fun s => exCode (Et base) (run (Et base)) loopL a111_0 (subC [1, 1, 1, 0, 1, 0, 0] (bodyC Try.f111)) s h (keepK s111_0 e111_0)
theorem B111_0_eq (base : Nat) (v1 : Int) (v2 : Int) (v3 : Addr) (v7 : Int) (h : AH) : B111_0 base [some (.int .i64 v1), some (.int .i64 v2), some (.pointer (some v3)), some (.int .i64 v7)] h =
((((cell h v3.block (v3.off + 3)).bind getS).bind fun l2 =>
(if (decide (v7 < ((l2.2 : Nat) : Int))) = true then
some (.inl ([some (.int .i64 v1), some (.int .i64 v2), some (.pointer (some v3)), some (.int .i64 v7), some (.bool (decide (v2 ≥ (0 : Int))))], h))
else
some (.inl ([some (.int .i64 v1), some (.int .i64 v2), some (.pointer (some v3)), some (.int .i64 v7), some (.bool false)], h)))).bind fun j1 => joinK j1 fun j1 =>
((sget j1.1 0).bind (getI .i64)).bind fun n3 =>
((sget (j1.1.tail) 0).bind (getI .i64)).bind fun n4 =>
((sget (j1.1.tail.tail) 0).bind getA).bind fun d5 =>
((sget (j1.1.tail.tail.tail) 0).bind (getI .i64)).bind fun n6 =>
((sget (j1.1.tail.tail.tail.tail) 0).bind getB).bind fun b7 =>
(if b7 = true then
((cell j1.2 d5.block (d5.off + 3)).bind getS).bind fun l8 =>
(if 0 ≤ n6 ∧ n6 < ((l8.2 : Nat) : Int) then
((l8.1 : Option Addr)).bind fun a9 =>
((cell j1.2 a9.block (a9.off + Int.toNat n6 * 4)).bind (getI .i64)).bind fun n10 =>
((cell j1.2 a9.block ((a9.off + Int.toNat n6 * 4) + 1)).bind (getI .i64)).bind fun n11 =>
((cell j1.2 a9.block (((a9.off + Int.toNat n6 * 4) + 1) + 1)).bind getStr).bind fun s12 =>
((cell j1.2 a9.block ((((a9.off + Int.toNat n6 * 4) + 1) + 1) + 1)).bind getS).bind fun l13 =>
(run (Et base) 111 [(.agg #[(.int .i64 n10), (.int .i64 n11), (.string s12), (.slice l13.1 l13.2 l13.2)]), (.int .i64 (IntKind.wrap .i64 (n3 - (1 : Int)))), (.int .i64 n4)] j1.2).bind fun r14 =>
((some r14.1).bind (getI .i64)).bind fun n15 =>
some (0, [some (.int .i64 n3), some (.int .i64 n15), some (.pointer (some d5)), some (.int .i64 (IntKind.wrap .i64 (n6 + (1 : Int))))], r14.2)
else none)
else
some (2, [some (.int .i64 n4)], j1.2)) : Option (Nat × Slots × AH)) := by kernel_rfl
theorem f111_eq (base : Nat) (v0_0 : Int) (v0_1 : Int) (v0_2 : ByteArray) (v0_3 : Option Addr) (v0_3n : Nat) (v1 : Int) (v2 : Int) (h : AH) : exFun (Et base) (run (Et base)) loopL a111 Try.f111 [(.agg #[(.int .i64 v0_0), (.int .i64 v0_1), (.string v0_2), (.slice v0_3 v0_3n v0_3n)]), (.int .i64 v1), (.int .i64 v2)] h =
((some (h ++ [some ⟨[(.int .i64 v0_0), (.int .i64 v0_1), (.string v0_2), (.slice v0_3 v0_3n v0_3n)], 48⟩])).bind fun h1 =>
((if (decide (v1 < (1 : Int))) = true then
some (.inl ([some (.int .i64 v1), some (.int .i64 v2), some (.pointer (some ⟨(List.length h), 0, none⟩)), some (.bool true)], h1))
else
(if (decide (v2 < (1 : Int))) = true then
some (.inl ([some (.int .i64 v1), some (.int .i64 v2), some (.pointer (some ⟨(List.length h), 0, none⟩)), some (.bool true)], h1))
else
((cell h1 (List.length h) 0).bind (getI .i64)).bind fun n3 =>
((cell h1 (List.length h) 1).bind (getI .i64)).bind fun n4 =>
((cell h1 (List.length h) 2).bind getStr).bind fun s5 =>
((cell h1 (List.length h) 3).bind getS).bind fun l6 =>
(run (Et base) 115 [(.agg #[(.int .i64 n3), (.int .i64 n4), (.string s5), (.slice l6.1 l6.2 l6.2)])] h1).bind fun r7 =>
((some r7.1).bind getB).bind fun b8 =>
some (.inl ([some (.int .i64 v1), some (.int .i64 v2), some (.pointer (some ⟨(List.length h), 0, none⟩)), some (.bool (!b8))], r7.2))))).bind fun j2 => joinK j2 fun j2 =>
((sget j2.1 0).bind (getI .i64)).bind fun n9 =>
((sget (j2.1.tail) 0).bind (getI .i64)).bind fun n10 =>
((sget (j2.1.tail.tail) 0).bind getA).bind fun d11 =>
((sget (j2.1.tail.tail.tail) 0).bind getB).bind fun b12 =>
(if b12 = true then
some ((.int .i64 (-1 : Int)), j2.2)
else
(loopL (B111_0 base) [some (.int .i64 n9), some (.int .i64 (IntKind.wrap .i64 (n10 - (1 : Int)))), some (.pointer (some d11)), some (.int .i64 (0 : Int))] j2.2).bind fun q13 =>
(if q13.1 = 2 then
((sget q13.2.1 0).bind (getI .i64)).bind fun n14 =>
some ((.int .i64 n14), q13.2.2)
else
none)) : Option (Value × AH)) := by kernel_rfl
theorem r111 {base : Nat} {v0_0 : Int} {v0_1 : Int} {v0_2 : ByteArray} {v0_3 : Option Addr} {v0_3n : Nat} {v1 : Int} {v2 : Int} {h : AH} {r : Value × AH} (hx :
((some (h ++ [some ⟨[(.int .i64 v0_0), (.int .i64 v0_1), (.string v0_2), (.slice v0_3 v0_3n v0_3n)], 48⟩])).bind fun h1 =>
((if (decide (v1 < (1 : Int))) = true then
some (.inl ([some (.int .i64 v1), some (.int .i64 v2), some (.pointer (some ⟨(List.length h), 0, none⟩)), some (.bool true)], h1))
else
(if (decide (v2 < (1 : Int))) = true then
some (.inl ([some (.int .i64 v1), some (.int .i64 v2), some (.pointer (some ⟨(List.length h), 0, none⟩)), some (.bool true)], h1))
else
((cell h1 (List.length h) 0).bind (getI .i64)).bind fun n3 =>
((cell h1 (List.length h) 1).bind (getI .i64)).bind fun n4 =>
((cell h1 (List.length h) 2).bind getStr).bind fun s5 =>
((cell h1 (List.length h) 3).bind getS).bind fun l6 =>
(run (Et base) 115 [(.agg #[(.int .i64 n3), (.int .i64 n4), (.string s5), (.slice l6.1 l6.2 l6.2)])] h1).bind fun r7 =>
((some r7.1).bind getB).bind fun b8 =>
some (.inl ([some (.int .i64 v1), some (.int .i64 v2), some (.pointer (some ⟨(List.length h), 0, none⟩)), some (.bool (!b8))], r7.2))))).bind fun j2 => joinK j2 fun j2 =>
((sget j2.1 0).bind (getI .i64)).bind fun n9 =>
((sget (j2.1.tail) 0).bind (getI .i64)).bind fun n10 =>
((sget (j2.1.tail.tail) 0).bind getA).bind fun d11 =>
((sget (j2.1.tail.tail.tail) 0).bind getB).bind fun b12 =>
(if b12 = true then
some ((.int .i64 (-1 : Int)), j2.2)
else
(loopL (B111_0 base) [some (.int .i64 n9), some (.int .i64 (IntKind.wrap .i64 (n10 - (1 : Int)))), some (.pointer (some d11)), some (.int .i64 (0 : Int))] j2.2).bind fun q13 =>
(if q13.1 = 2 then
((sget q13.2.1 0).bind (getI .i64)).bind fun n14 =>
some ((.int .i64 n14), q13.2.2)
else
none))) = some r) : run (Et base) 111 [(.agg #[(.int .i64 v0_0), (.int .i64 v0_1), (.string v0_2), (.slice v0_3 v0_3n v0_3n)]), (.int .i64 v1), (.int .i64 v2)] h = some r := run_i Try.func111 (by kernel_rfl) ((f111_eq base v0_0 v0_1 v0_2 v0_3 v0_3n v1 v2 h).trans hx)
/-! impl.counted (gates 0) -/
noncomputable def B112_0 (base : Nat) : Body := fun l h => lay s112_0 l fun s => exCode (Et base) (run (Et base)) loopL a112_0 (subC [1, 1, 1, 0, 1, 0, 0] (bodyC Try.f112)) s h (keepK s112_0 e112_0)
theorem B112_0_eq (base : Nat) (v1 : Int) (v2 : Int) (v27 : Option Addr) (v27n : Nat) (v28 : Int) (v29 : Int) (h : AH) : B112_0 base [some (.int .i64 v1), some (.int .i64 v2), some (.slice v27 v27n v27n), some (.int .i64 v28), some (.int .i64 v29)] h =
((if (decide (v29 < v28)) = true then
(if 0 ≤ v29 ∧ v29 < ((v27n : Nat) : Int) then
((v27 : Option Addr)).bind fun a1 =>
((cell h a1.block (a1.off + Int.toNat v29 * 4)).bind (getI .i64)).bind fun n2 =>
((cell h a1.block ((a1.off + Int.toNat v29 * 4) + 1)).bind (getI .i64)).bind fun n3 =>
((cell h a1.block (((a1.off + Int.toNat v29 * 4) + 1) + 1)).bind getStr).bind fun s4 =>
((cell h a1.block ((((a1.off + Int.toNat v29 * 4) + 1) + 1) + 1)).bind getS).bind fun l5 =>
(some (h ++ [some ⟨[(.int .i64 0), (.int .i64 0), (.string ⟨#[]⟩), (.slice none 0 0)], 48⟩])).bind fun h6 =>
(wr base h6 (List.length h) 0 [(.int .i64 n2), (.int .i64 n3), (.string s4), (.slice l5.1 l5.2 l5.2)]).bind fun h7 =>
((cell h7 (List.length h) 0).bind (getI .i64)).bind fun n8 =>
((cell h7 (List.length h) 1).bind (getI .i64)).bind fun n9 =>
((cell h7 (List.length h) 2).bind getStr).bind fun s10 =>
((cell h7 (List.length h) 3).bind getS).bind fun l11 =>
(run (Et base) 112 [(.agg #[(.int .i64 n8), (.int .i64 n9), (.string s10), (.slice l11.1 l11.2 l11.2)]), (.int .i64 (IntKind.wrap .i64 (v1 + (1 : Int)))), (.int .i64 v2)] h7).bind fun r12 =>
(getTup 2 r12.1).bind fun l13 =>
((l13[0]?).bind (getI .i64)).bind fun n14 =>
((l13[1]?).bind getB).bind fun b15 =>
(if (!b15) = true then
some (1, [some (.int .i64 n14), some (.bool false)], r12.2)
else
some (0, [some (.int .i64 v1), some (.int .i64 n14), some (.slice v27 v27n v27n), some (.int .i64 v28), some (.int .i64 (IntKind.wrap .i64 (v29 + (1 : Int))))], r12.2))
else none)
else
some (2, [some (.int .i64 v2)], h)) : Option (Nat × Slots × AH)) := by kernel_rfl
theorem f112_eq (base : Nat) (v0_0 : Int) (v0_1 : Int) (v0_2 : ByteArray) (v0_3 : Option Addr) (v0_3n : Nat) (v1 : Int) (v2 : Int) (h : AH) : exFun (Et base) (run (Et base)) loopL a112 Try.f112 [(.agg #[(.int .i64 v0_0), (.int .i64 v0_1), (.string v0_2), (.slice v0_3 v0_3n v0_3n)]), (.int .i64 v1), (.int .i64 v2)] h =
((some (h ++ [some ⟨[(.int .i64 v0_0), (.int .i64 v0_1), (.string v0_2), (.slice v0_3 v0_3n v0_3n)], 48⟩])).bind fun h1 =>
((if (decide (v1 > (6 : Int))) = true then
some (.inl ([some (.int .i64 v1), some (.int .i64 (IntKind.wrap .i64 (v2 + (1 : Int)))), some (.pointer (some ⟨(List.length h), 0, none⟩)), some (.bool true)], h1))
else
(if (decide ((IntKind.wrap .i64 (v2 + (1 : Int))) > (100 : Int))) = true then
some (.inl ([some (.int .i64 v1), some (.int .i64 (IntKind.wrap .i64 (v2 + (1 : Int)))), some (.pointer (some ⟨(List.length h), 0, none⟩)), some (.bool true)], h1))
else
((cell h1 (List.length h) 0).bind (getI .i64)).bind fun n3 =>
((cell h1 (List.length h) 1).bind (getI .i64)).bind fun n4 =>
((cell h1 (List.length h) 2).bind getStr).bind fun s5 =>
((cell h1 (List.length h) 3).bind getS).bind fun l6 =>
(run (Et base) 116 [(.agg #[(.int .i64 n3), (.int .i64 n4), (.string s5), (.slice l6.1 l6.2 l6.2)])] h1).bind fun r7 =>
((some r7.1).bind getB).bind fun b8 =>
some (.inl ([some (.int .i64 v1), some (.int .i64 (IntKind.wrap .i64 (v2 + (1 : Int)))), some (.pointer (some ⟨(List.length h), 0, none⟩)), some (.bool (!b8))], r7.2))))).bind fun j2 => joinK j2 fun j2 =>
((sget j2.1 0).bind (getI .i64)).bind fun n9 =>
((sget (j2.1.tail) 0).bind (getI .i64)).bind fun n10 =>
((sget (j2.1.tail.tail) 0).bind getA).bind fun d11 =>
((sget (j2.1.tail.tail.tail) 0).bind getB).bind fun b12 =>
(if b12 = true then
some ((.tuple #[(.int .i64 n10), (.bool false)]), j2.2)
else
((cell j2.2 d11.block (d11.off + 3)).bind getS).bind fun l13 =>
(loopL (B112_0 base) [some (.int .i64 n9), some (.int .i64 n10), some (.slice l13.1 l13.2 l13.2), some (.int .i64 ((l13.2 : Nat) : Int)), some (.int .i64 (0 : Int))] j2.2).bind fun q14 =>
(if q14.1 = 1 then
((sget q14.2.1 0).bind (getI .i64)).bind fun n15 =>
((sget (q14.2.1.tail) 0).bind getB).bind fun b16 =>
some ((.tuple #[(.int .i64 n15), (.bool b16)]), q14.2.2)
else
(if q14.1 = 2 then
((sget q14.2.1 0).bind (getI .i64)).bind fun n17 =>
some ((.tuple #[(.int .i64 n17), (.bool true)]), q14.2.2)
else
none))) : Option (Value × AH)) := by kernel_rfl
theorem r112 {base : Nat} {v0_0 : Int} {v0_1 : Int} {v0_2 : ByteArray} {v0_3 : Option Addr} {v0_3n : Nat} {v1 : Int} {v2 : Int} {h : AH} {r : Value × AH} (hx :
((some (h ++ [some ⟨[(.int .i64 v0_0), (.int .i64 v0_1), (.string v0_2), (.slice v0_3 v0_3n v0_3n)], 48⟩])).bind fun h1 =>
((if (decide (v1 > (6 : Int))) = true then
some (.inl ([some (.int .i64 v1), some (.int .i64 (IntKind.wrap .i64 (v2 + (1 : Int)))), some (.pointer (some ⟨(List.length h), 0, none⟩)), some (.bool true)], h1))
else
(if (decide ((IntKind.wrap .i64 (v2 + (1 : Int))) > (100 : Int))) = true then
some (.inl ([some (.int .i64 v1), some (.int .i64 (IntKind.wrap .i64 (v2 + (1 : Int)))), some (.pointer (some ⟨(List.length h), 0, none⟩)), some (.bool true)], h1))
else
((cell h1 (List.length h) 0).bind (getI .i64)).bind fun n3 =>
((cell h1 (List.length h) 1).bind (getI .i64)).bind fun n4 =>
((cell h1 (List.length h) 2).bind getStr).bind fun s5 =>
((cell h1 (List.length h) 3).bind getS).bind fun l6 =>
(run (Et base) 116 [(.agg #[(.int .i64 n3), (.int .i64 n4), (.string s5), (.slice l6.1 l6.2 l6.2)])] h1).bind fun r7 =>
((some r7.1).bind getB).bind fun b8 =>
some (.inl ([some (.int .i64 v1), some (.int .i64 (IntKind.wrap .i64 (v2 + (1 : Int)))), some (.pointer (some ⟨(List.length h), 0, none⟩)), some (.bool (!b8))], r7.2))))).bind fun j2 => joinK j2 fun j2 =>
((sget j2.1 0).bind (getI .i64)).bind fun n9 =>
((sget (j2.1.tail) 0).bind (getI .i64)).bind fun n10 =>
((sget (j2.1.tail.tail) 0).bind getA).bind fun d11 =>
((sget (j2.1.tail.tail.tail) 0).bind getB).bind fun b12 =>
(if b12 = true then
some ((.tuple #[(.int .i64 n10), (.bool false)]), j2.2)
else
((cell j2.2 d11.block (d11.off + 3)).bind getS).bind fun l13 =>
(loopL (B112_0 base) [some (.int .i64 n9), some (.int .i64 n10), some (.slice l13.1 l13.2 l13.2), some (.int .i64 ((l13.2 : Nat) : Int)), some (.int .i64 (0 : Int))] j2.2).bind fun q14 =>
(if q14.1 = 1 then
((sget q14.2.1 0).bind (getI .i64)).bind fun n15 =>
((sget (q14.2.1.tail) 0).bind getB).bind fun b16 =>
some ((.tuple #[(.int .i64 n15), (.bool b16)]), q14.2.2)
else
(if q14.1 = 2 then
((sget q14.2.1 0).bind (getI .i64)).bind fun n17 =>
some ((.tuple #[(.int .i64 n17), (.bool true)]), q14.2.2)
else
none)))) = some r) : run (Et base) 112 [(.agg #[(.int .i64 v0_0), (.int .i64 v0_1), (.string v0_2), (.slice v0_3 v0_3n v0_3n)]), (.int .i64 v1), (.int .i64 v2)] h = some r := run_i Try.func112 (by kernel_rfl) ((f112_eq base v0_0 v0_1 v0_2 v0_3 v0_3n v1 v2 h).trans hx)
/-! impl.copyTerms (gates 0) -/
noncomputable def B113_0 (base : Nat) : Body := fun l h => lay s113_0 l fun s => exCode (Et base) (run (Et base)) loopL a113_0 (subC [1, 1, 0, 1, 0, 0] (bodyC Try.f113)) s h (keepK s113_0 e113_0)
theorem B113_0_eq (base : Nat) (v3 : Option Addr) (v3n : Nat) (v6 : Option Addr) (v6n : Nat) (v7 : Int) (v8 : Int) (h : AH) : B113_0 base [some (.slice v3 v3n v3n), some (.slice v6 v6n v6n), some (.int .i64 v7), some (.int .i64 v8)] h =
((if (decide (v8 < v7)) = true then
(if 0 ≤ v8 ∧ v8 < ((v6n : Nat) : Int) then
((v6 : Option Addr)).bind fun a1 =>
((cell h a1.block (a1.off + Int.toNat v8 * 4)).bind (getI .i64)).bind fun n2 =>
((cell h a1.block ((a1.off + Int.toNat v8 * 4) + 1)).bind (getI .i64)).bind fun n3 =>
((cell h a1.block (((a1.off + Int.toNat v8 * 4) + 1) + 1)).bind getStr).bind fun s4 =>
((cell h a1.block ((((a1.off + Int.toNat v8 * 4) + 1) + 1) + 1)).bind getS).bind fun l5 =>
(some (h ++ [some ⟨[(.int .i64 0), (.int .i64 0), (.string ⟨#[]⟩), (.slice none 0 0)], 48⟩])).bind fun h6 =>
(wr base h6 (List.length h) 0 [(.int .i64 n2), (.int .i64 n3), (.string s4), (.slice l5.1 l5.2 l5.2)]).bind fun h7 =>
((cell h7 (List.length h) 0).bind (getI .i64)).bind fun n8 =>
((cell h7 (List.length h) 1).bind (getI .i64)).bind fun n9 =>
((cell h7 (List.length h) 2).bind getStr).bind fun s10 =>
((cell h7 (List.length h) 3).bind getS).bind fun l11 =>
(run (Et base) 106 [(.agg #[(.int .i64 n8), (.int .i64 n9), (.string s10), (.slice l11.1 l11.2 l11.2)])] h7).bind fun r12 =>
((some r12.1).bind (getAgg 4)).bind fun l13 =>
((l13[0]?).bind (getI .i64)).bind fun n14 =>
((l13[1]?).bind (getI .i64)).bind fun n15 =>
((l13[2]?).bind getStr).bind fun s16 =>
((l13[3]?).bind getS).bind fun l17 =>
(some (r12.2 ++ [some ⟨[(.int .i64 n14), (.int .i64 n15), (.string s16), (.slice l17.1 l17.2 l17.2)], 48⟩])).bind fun h18 =>
(app base h18 48 4 56 v3 v3n (rawAt h18 (some ⟨(List.length r12.2), 0, none⟩) (1 * 4)) 1).bind fun p19 =>
((some p19.1).bind getS).bind fun l20 =>
some (0, [some (.slice l20.1 l20.2 l20.2), some (.slice v6 v6n v6n), some (.int .i64 v7), some (.int .i64 (IntKind.wrap .i64 (v8 + (1 : Int))))], p19.2)
else none)
else
some (2, [some (.slice v3 v3n v3n)], h)) : Option (Nat × Slots × AH)) := by kernel_rfl
theorem f113_eq (base : Nat) (v0 : Option Addr) (v0n : Nat) (h : AH) : exFun (Et base) (run (Et base)) loopL a113 Try.f113 [(.slice v0 v0n v0n)] h =
((loopL (B113_0 base) [some (.slice none 0 0), some (.slice v0 v0n v0n), some (.int .i64 ((v0n : Nat) : Int)), some (.int .i64 (0 : Int))] h).bind fun q1 =>
(if q1.1 = 2 then
((sget q1.2.1 0).bind getS).bind fun l2 =>
some ((.slice l2.1 l2.2 l2.2), q1.2.2)
else
none) : Option (Value × AH)) := by kernel_rfl
theorem r113 {base : Nat} {v0 : Option Addr} {v0n : Nat} {h : AH} {r : Value × AH} (hx :
((loopL (B113_0 base) [some (.slice none 0 0), some (.slice v0 v0n v0n), some (.int .i64 ((v0n : Nat) : Int)), some (.int .i64 (0 : Int))] h).bind fun q1 =>
(if q1.1 = 2 then
((sget q1.2.1 0).bind getS).bind fun l2 =>
some ((.slice l2.1 l2.2 l2.2), q1.2.2)
else
none)) = some r) : run (Et base) 113 [(.slice v0 v0n v0n)] h = some r := run_i Try.func113 (by kernel_rfl) ((f113_eq base v0 v0n h).trans hx)
/-! spec.l1Shape (gates 0) -/
theorem f115_eq (base : Nat) (v0_0 : Int) (v0_1 : Int) (v0_2 : ByteArray) (v0_3 : Option Addr) (v0_3n : Nat) (h : AH) : exFun (Et base) (run (Et base)) loopL a115 Try.f115 [(.agg #[(.int .i64 v0_0), (.int .i64 v0_1), (.string v0_2), (.slice v0_3 v0_3n v0_3n)])] h =
((some (h ++ [some ⟨[(.int .i64 v0_0), (.int .i64 v0_1), (.string v0_2), (.slice v0_3 v0_3n v0_3n)], 48⟩])).bind fun h1 =>
((cell h1 (List.length h) 3).bind getS).bind fun l2 =>
((cell h1 (List.length h) 0).bind (getI .i64)).bind fun n3 =>
(if (n3 == (1 : Int)) = true then
((cell h1 (List.length h) 1).bind (getI .i64)).bind fun n4 =>
(run (Et base) 60 [(.int .i64 n4), (.int .i64 (-1000000 : Int)), (.int .i64 (1000000 : Int))] h1).bind fun r5 =>
((some r5.1).bind getB).bind fun b6 =>
(if b6 = true then
((cell r5.2 (List.length h) 2).bind getStr).bind fun s7 =>
(if (s7.toList == (⟨#[]⟩ : ByteArray).toList) = true then
some ((.bool (((l2.2 : Nat) : Int) == (0 : Int))), r5.2)
else
some ((.bool false), r5.2))
else
some ((.bool false), r5.2))
else
(if (n3 == (2 : Int)) = true then
((cell h1 (List.length h) 2).bind getStr).bind fun s8 =>
(run (Et base) 117 [(.string s8)] h1).bind fun r9 =>
((some r9.1).bind getB).bind fun b10 =>
(if b10 = true then
((cell r9.2 (List.length h) 1).bind (getI .i64)).bind fun n11 =>
(if (n11 == (0 : Int)) = true then
some ((.bool (((l2.2 : Nat) : Int) == (0 : Int))), r9.2)
else
some ((.bool false), r9.2))
else
some ((.bool false), r9.2))
else
(if (n3 == (3 : Int)) = true then
((cell h1 (List.length h) 1).bind (getI .i64)).bind fun n12 =>
(run (Et base) 60 [(.int .i64 n12), (.int .i64 (0 : Int)), (.int .i64 (99999 : Int))] h1).bind fun r13 =>
((some r13.1).bind getB).bind fun b14 =>
(if b14 = true then
((cell r13.2 (List.length h) 2).bind getStr).bind fun s15 =>
(if (s15.toList == (⟨#[]⟩ : ByteArray).toList) = true then
some ((.bool (((l2.2 : Nat) : Int) == (0 : Int))), r13.2)
else
some ((.bool false), r13.2))
else
some ((.bool false), r13.2))
else
(if (n3 == (4 : Int)) = true then
((cell h1 (List.length h) 1).bind (getI .i64)).bind fun n16 =>
(if (n16 == (0 : Int)) = true then
((cell h1 (List.length h) 2).bind getStr).bind fun s17 =>
(if (s17.toList == (⟨#[]⟩ : ByteArray).toList) = true then
some ((.bool (decide (((l2.2 : Nat) : Int) ≤ (8 : Int)))), h1)
else
some ((.bool false), h1))
else
some ((.bool false), h1))
else
(if (n3 == (5 : Int)) = true then
((cell h1 (List.length h) 1).bind (getI .i64)).bind fun n18 =>
(if (n18 == (0 : Int)) = true then
((cell h1 (List.length h) 2).bind getStr).bind fun s19 =>
(if (s19.toList == (⟨#[]⟩ : ByteArray).toList) = true then
some ((.bool (decide (((l2.2 : Nat) : Int) ≤ (20 : Int)))), h1)
else
some ((.bool false), h1))
else
some ((.bool false), h1))
else
(if (n3 == (6 : Int)) = true then
((cell h1 (List.length h) 1).bind (getI .i64)).bind fun n20 =>
(if (n20 == (0 : Int)) = true then
((cell h1 (List.length h) 2).bind getStr).bind fun s21 =>
(if (decide ((s21.size : Int) ≤ (40 : Int))) = true then
some ((.bool (((l2.2 : Nat) : Int) == (0 : Int))), h1)
else
some ((.bool false), h1))
else
some ((.bool false), h1))
else
some ((.bool false), h1))))))) : Option (Value × AH)) := by kernel_rfl
theorem r115 {base : Nat} {v0_0 : Int} {v0_1 : Int} {v0_2 : ByteArray} {v0_3 : Option Addr} {v0_3n : Nat} {h : AH} {r : Value × AH} (hx :
((some (h ++ [some ⟨[(.int .i64 v0_0), (.int .i64 v0_1), (.string v0_2), (.slice v0_3 v0_3n v0_3n)], 48⟩])).bind fun h1 =>
((cell h1 (List.length h) 3).bind getS).bind fun l2 =>
((cell h1 (List.length h) 0).bind (getI .i64)).bind fun n3 =>
(if (n3 == (1 : Int)) = true then
((cell h1 (List.length h) 1).bind (getI .i64)).bind fun n4 =>
(run (Et base) 60 [(.int .i64 n4), (.int .i64 (-1000000 : Int)), (.int .i64 (1000000 : Int))] h1).bind fun r5 =>
((some r5.1).bind getB).bind fun b6 =>
(if b6 = true then
((cell r5.2 (List.length h) 2).bind getStr).bind fun s7 =>
(if (s7.toList == (⟨#[]⟩ : ByteArray).toList) = true then
some ((.bool (((l2.2 : Nat) : Int) == (0 : Int))), r5.2)
else
some ((.bool false), r5.2))
else
some ((.bool false), r5.2))
else
(if (n3 == (2 : Int)) = true then
((cell h1 (List.length h) 2).bind getStr).bind fun s8 =>
(run (Et base) 117 [(.string s8)] h1).bind fun r9 =>
((some r9.1).bind getB).bind fun b10 =>
(if b10 = true then
((cell r9.2 (List.length h) 1).bind (getI .i64)).bind fun n11 =>
(if (n11 == (0 : Int)) = true then
some ((.bool (((l2.2 : Nat) : Int) == (0 : Int))), r9.2)
else
some ((.bool false), r9.2))
else
some ((.bool false), r9.2))
else
(if (n3 == (3 : Int)) = true then
((cell h1 (List.length h) 1).bind (getI .i64)).bind fun n12 =>
(run (Et base) 60 [(.int .i64 n12), (.int .i64 (0 : Int)), (.int .i64 (99999 : Int))] h1).bind fun r13 =>
((some r13.1).bind getB).bind fun b14 =>
(if b14 = true then
((cell r13.2 (List.length h) 2).bind getStr).bind fun s15 =>
(if (s15.toList == (⟨#[]⟩ : ByteArray).toList) = true then
some ((.bool (((l2.2 : Nat) : Int) == (0 : Int))), r13.2)
else
some ((.bool false), r13.2))
else
some ((.bool false), r13.2))
else
(if (n3 == (4 : Int)) = true then
((cell h1 (List.length h) 1).bind (getI .i64)).bind fun n16 =>
(if (n16 == (0 : Int)) = true then
((cell h1 (List.length h) 2).bind getStr).bind fun s17 =>
(if (s17.toList == (⟨#[]⟩ : ByteArray).toList) = true then
some ((.bool (decide (((l2.2 : Nat) : Int) ≤ (8 : Int)))), h1)
else
some ((.bool false), h1))
else
some ((.bool false), h1))
else
(if (n3 == (5 : Int)) = true then
((cell h1 (List.length h) 1).bind (getI .i64)).bind fun n18 =>
(if (n18 == (0 : Int)) = true then
((cell h1 (List.length h) 2).bind getStr).bind fun s19 =>
(if (s19.toList == (⟨#[]⟩ : ByteArray).toList) = true then
some ((.bool (decide (((l2.2 : Nat) : Int) ≤ (20 : Int)))), h1)
else
some ((.bool false), h1))
else
some ((.bool false), h1))
else
(if (n3 == (6 : Int)) = true then
((cell h1 (List.length h) 1).bind (getI .i64)).bind fun n20 =>
(if (n20 == (0 : Int)) = true then
((cell h1 (List.length h) 2).bind getStr).bind fun s21 =>
(if (decide ((s21.size : Int) ≤ (40 : Int))) = true then
some ((.bool (((l2.2 : Nat) : Int) == (0 : Int))), h1)
else
some ((.bool false), h1))
else
some ((.bool false), h1))
else
some ((.bool false), h1)))))))) = some r) : run (Et base) 115 [(.agg #[(.int .i64 v0_0), (.int .i64 v0_1), (.string v0_2), (.slice v0_3 v0_3n v0_3n)])] h = some r := run_i Try.func115 (by kernel_rfl) ((f115_eq base v0_0 v0_1 v0_2 v0_3 v0_3n h).trans hx)
/-! impl.fieldsOk (gates 0) -/
theorem f116_eq (base : Nat) (v0_0 : Int) (v0_1 : Int) (v0_2 : ByteArray) (v0_3 : Option Addr) (v0_3n : Nat) (h : AH) : exFun (Et base) (run (Et base)) loopL a116 Try.f116 [(.agg #[(.int .i64 v0_0), (.int .i64 v0_1), (.string v0_2), (.slice v0_3 v0_3n v0_3n)])] h =
((some (h ++ [some ⟨[(.int .i64 v0_0), (.int .i64 v0_1), (.string v0_2), (.slice v0_3 v0_3n v0_3n)], 48⟩])).bind fun h1 =>
((cell h1 (List.length h) 0).bind (getI .i64)).bind fun n2 =>
(if (n2 == (1 : Int)) = true then
((cell h1 (List.length h) 1).bind (getI .i64)).bind fun n3 =>
(run (Et base) 61 [(.int .i64 n3), (.int .i64 (-1000000 : Int)), (.int .i64 (1000000 : Int))] h1).bind fun r4 =>
((some r4.1).bind getB).bind fun b5 =>
(if b5 = true then
((cell r4.2 (List.length h) 2).bind getStr).bind fun s6 =>
(if (s6.toList == (⟨#[]⟩ : ByteArray).toList) = true then
((cell r4.2 (List.length h) 3).bind getS).bind fun l7 =>
some ((.bool (((l7.2 : Nat) : Int) == (0 : Int))), r4.2)
else
some ((.bool false), r4.2))
else
some ((.bool false), r4.2))
else
(if (n2 == (2 : Int)) = true then
((cell h1 (List.length h) 1).bind (getI .i64)).bind fun n8 =>
(if (n8 == (0 : Int)) = true then
((cell h1 (List.length h) 2).bind getStr).bind fun s9 =>
(run (Et base) 118 [(.string s9)] h1).bind fun r10 =>
((some r10.1).bind getB).bind fun b11 =>
(if b11 = true then
((cell r10.2 (List.length h) 3).bind getS).bind fun l12 =>
some ((.bool (((l12.2 : Nat) : Int) == (0 : Int))), r10.2)
else
some ((.bool false), r10.2))
else
some ((.bool false), h1))
else
(if (n2 == (3 : Int)) = true then
((cell h1 (List.length h) 1).bind (getI .i64)).bind fun n13 =>
(run (Et base) 61 [(.int .i64 n13), (.int .i64 (0 : Int)), (.int .i64 (99999 : Int))] h1).bind fun r14 =>
((some r14.1).bind getB).bind fun b15 =>
(if b15 = true then
((cell r14.2 (List.length h) 2).bind getStr).bind fun s16 =>
(if (s16.toList == (⟨#[]⟩ : ByteArray).toList) = true then
((cell r14.2 (List.length h) 3).bind getS).bind fun l17 =>
some ((.bool (((l17.2 : Nat) : Int) == (0 : Int))), r14.2)
else
some ((.bool false), r14.2))
else
some ((.bool false), r14.2))
else
(if (n2 == (4 : Int)) = true then
((cell h1 (List.length h) 1).bind (getI .i64)).bind fun n18 =>
(if (n18 == (0 : Int)) = true then
((cell h1 (List.length h) 2).bind getStr).bind fun s19 =>
(if (s19.toList == (⟨#[]⟩ : ByteArray).toList) = true then
((cell h1 (List.length h) 3).bind getS).bind fun l20 =>
some ((.bool (decide (((l20.2 : Nat) : Int) ≤ (8 : Int)))), h1)
else
some ((.bool false), h1))
else
some ((.bool false), h1))
else
(if (n2 == (5 : Int)) = true then
((cell h1 (List.length h) 1).bind (getI .i64)).bind fun n21 =>
(if (n21 == (0 : Int)) = true then
((cell h1 (List.length h) 2).bind getStr).bind fun s22 =>
(if (s22.toList == (⟨#[]⟩ : ByteArray).toList) = true then
((cell h1 (List.length h) 3).bind getS).bind fun l23 =>
some ((.bool (decide (((l23.2 : Nat) : Int) ≤ (20 : Int)))), h1)
else
some ((.bool false), h1))
else
some ((.bool false), h1))
else
(if (n2 == (6 : Int)) = true then
((cell h1 (List.length h) 1).bind (getI .i64)).bind fun n24 =>
(if (n24 == (0 : Int)) = true then
((cell h1 (List.length h) 2).bind getStr).bind fun s25 =>
(if (decide ((s25.size : Int) ≤ (40 : Int))) = true then
((cell h1 (List.length h) 3).bind getS).bind fun l26 =>
some ((.bool (((l26.2 : Nat) : Int) == (0 : Int))), h1)
else
some ((.bool false), h1))
else
some ((.bool false), h1))
else
some ((.bool false), h1))))))) : Option (Value × AH)) := by kernel_rfl
theorem r116 {base : Nat} {v0_0 : Int} {v0_1 : Int} {v0_2 : ByteArray} {v0_3 : Option Addr} {v0_3n : Nat} {h : AH} {r : Value × AH} (hx :
((some (h ++ [some ⟨[(.int .i64 v0_0), (.int .i64 v0_1), (.string v0_2), (.slice v0_3 v0_3n v0_3n)], 48⟩])).bind fun h1 =>
((cell h1 (List.length h) 0).bind (getI .i64)).bind fun n2 =>
(if (n2 == (1 : Int)) = true then
((cell h1 (List.length h) 1).bind (getI .i64)).bind fun n3 =>
(run (Et base) 61 [(.int .i64 n3), (.int .i64 (-1000000 : Int)), (.int .i64 (1000000 : Int))] h1).bind fun r4 =>
((some r4.1).bind getB).bind fun b5 =>
(if b5 = true then
((cell r4.2 (List.length h) 2).bind getStr).bind fun s6 =>
(if (s6.toList == (⟨#[]⟩ : ByteArray).toList) = true then
((cell r4.2 (List.length h) 3).bind getS).bind fun l7 =>
some ((.bool (((l7.2 : Nat) : Int) == (0 : Int))), r4.2)
else
some ((.bool false), r4.2))
else
some ((.bool false), r4.2))
else
(if (n2 == (2 : Int)) = true then
((cell h1 (List.length h) 1).bind (getI .i64)).bind fun n8 =>
(if (n8 == (0 : Int)) = true then
((cell h1 (List.length h) 2).bind getStr).bind fun s9 =>
(run (Et base) 118 [(.string s9)] h1).bind fun r10 =>
((some r10.1).bind getB).bind fun b11 =>
(if b11 = true then
((cell r10.2 (List.length h) 3).bind getS).bind fun l12 =>
some ((.bool (((l12.2 : Nat) : Int) == (0 : Int))), r10.2)
else
some ((.bool false), r10.2))
else
some ((.bool false), h1))
else
(if (n2 == (3 : Int)) = true then
((cell h1 (List.length h) 1).bind (getI .i64)).bind fun n13 =>
(run (Et base) 61 [(.int .i64 n13), (.int .i64 (0 : Int)), (.int .i64 (99999 : Int))] h1).bind fun r14 =>
((some r14.1).bind getB).bind fun b15 =>
(if b15 = true then
((cell r14.2 (List.length h) 2).bind getStr).bind fun s16 =>
(if (s16.toList == (⟨#[]⟩ : ByteArray).toList) = true then
((cell r14.2 (List.length h) 3).bind getS).bind fun l17 =>
some ((.bool (((l17.2 : Nat) : Int) == (0 : Int))), r14.2)
else
some ((.bool false), r14.2))
else
some ((.bool false), r14.2))
else
(if (n2 == (4 : Int)) = true then
((cell h1 (List.length h) 1).bind (getI .i64)).bind fun n18 =>
(if (n18 == (0 : Int)) = true then
((cell h1 (List.length h) 2).bind getStr).bind fun s19 =>
(if (s19.toList == (⟨#[]⟩ : ByteArray).toList) = true then
((cell h1 (List.length h) 3).bind getS).bind fun l20 =>
some ((.bool (decide (((l20.2 : Nat) : Int) ≤ (8 : Int)))), h1)
else
some ((.bool false), h1))
else
some ((.bool false), h1))
else
(if (n2 == (5 : Int)) = true then
((cell h1 (List.length h) 1).bind (getI .i64)).bind fun n21 =>
(if (n21 == (0 : Int)) = true then
((cell h1 (List.length h) 2).bind getStr).bind fun s22 =>
(if (s22.toList == (⟨#[]⟩ : ByteArray).toList) = true then
((cell h1 (List.length h) 3).bind getS).bind fun l23 =>
some ((.bool (decide (((l23.2 : Nat) : Int) ≤ (20 : Int)))), h1)
else
some ((.bool false), h1))
else
some ((.bool false), h1))
else
(if (n2 == (6 : Int)) = true then
((cell h1 (List.length h) 1).bind (getI .i64)).bind fun n24 =>
(if (n24 == (0 : Int)) = true then
((cell h1 (List.length h) 2).bind getStr).bind fun s25 =>
(if (decide ((s25.size : Int) ≤ (40 : Int))) = true then
((cell h1 (List.length h) 3).bind getS).bind fun l26 =>
some ((.bool (((l26.2 : Nat) : Int) == (0 : Int))), h1)
else
some ((.bool false), h1))
else
some ((.bool false), h1))
else
some ((.bool false), h1)))))))) = some r) : run (Et base) 116 [(.agg #[(.int .i64 v0_0), (.int .i64 v0_1), (.string v0_2), (.slice v0_3 v0_3n v0_3n)])] h = some r := run_i Try.func116 (by kernel_rfl) ((f116_eq base v0_0 v0_1 v0_2 v0_3 v0_3n h).trans hx)
/-! spec.AtomOk (gates 0) -/
noncomputable def B117_0 (base : Nat) : Body := fun l h => lay s117_0 l fun s => exCode (Et base) (run (Et base)) loopL a117_0 (subC [1, 0, 1, 0, 0] (bodyC Try.f117)) s h (keepK s117_0 e117_0)
theorem B117_0_eq (base : Nat) (v0 : ByteArray) (v3 : Int) (h : AH) : B117_0 base [some (.string v0), some (.int .i64 v3)] h =
((if (decide (v3 < (v0.size : Int))) = true then
(if 0 ≤ v3 ∧ v3 < (v0.size : Int) then
(run (Et base) 60 [(.int .i64 (IntKind.wrap .i64 ((v0.data.toList.getD (Int.toNat v3) 0).toNat : Int))), (.int .i64 (97 : Int)), (.int .i64 (122 : Int))] h).bind fun r1 =>
((some r1.1).bind getB).bind fun b2 =>
((if (!b2) = true then
(if (v3 == (0 : Int)) = true then
some (.inl ([some (.string v0), some (.int .i64 v3), some (.bool true)], r1.2))
else
(if 0 ≤ v3 ∧ v3 < (v0.size : Int) then
(run (Et base) 60 [(.int .i64 (IntKind.wrap .i64 ((v0.data.toList.getD (Int.toNat v3) 0).toNat : Int))), (.int .i64 (48 : Int)), (.int .i64 (57 : Int))] r1.2).bind fun r4 =>
((some r4.1).bind getB).bind fun b5 =>
some (.inl ([some (.string v0), some (.int .i64 v3), some (.bool (!b5))], r4.2))
else none))
else
some (.inl ([some (.string v0), some (.int .i64 v3), some (.bool false)], r1.2)))).bind fun j3 => joinK j3 fun j3 =>
((sget j3.1 0).bind getStr).bind fun s6 =>
((sget (j3.1.tail) 0).bind (getI .i64)).bind fun n7 =>
((sget (j3.1.tail.tail) 0).bind getB).bind fun b8 =>
(if b8 = true then
some (1, [some (.bool false)], j3.2)
else
some (0, [some (.string s6), some (.int .i64 (IntKind.wrap .i64 (n7 + (1 : Int))))], j3.2))
else none)
else
some (2, [some (.string v0)], h)) : Option (Nat × Slots × AH)) := by kernel_rfl
theorem f117_eq (base : Nat) (v0 : ByteArray) (h : AH) : exFun (Et base) (run (Et base)) loopL a117 Try.f117 [(.string v0)] h =
((loopL (B117_0 base) [some (.string v0), some (.int .i64 (0 : Int))] h).bind fun q1 =>
(if q1.1 = 1 then
((sget q1.2.1 0).bind getB).bind fun b2 =>
some ((.bool b2), q1.2.2)
else
(if q1.1 = 2 then
((sget q1.2.1 0).bind getStr).bind fun s3 =>
(run (Et base) 60 [(.int .i64 (s3.size : Int)), (.int .i64 (1 : Int)), (.int .i64 (12 : Int))] q1.2.2).bind fun r4 =>
((some r4.1).bind getB).bind fun b5 =>
some ((.bool b5), r4.2)
else
none)) : Option (Value × AH)) := by kernel_rfl
theorem r117 {base : Nat} {v0 : ByteArray} {h : AH} {r : Value × AH} (hx :
((loopL (B117_0 base) [some (.string v0), some (.int .i64 (0 : Int))] h).bind fun q1 =>
(if q1.1 = 1 then
((sget q1.2.1 0).bind getB).bind fun b2 =>
some ((.bool b2), q1.2.2)
else
(if q1.1 = 2 then
((sget q1.2.1 0).bind getStr).bind fun s3 =>
(run (Et base) 60 [(.int .i64 (s3.size : Int)), (.int .i64 (1 : Int)), (.int .i64 (12 : Int))] q1.2.2).bind fun r4 =>
((some r4.1).bind getB).bind fun b5 =>
some ((.bool b5), r4.2)
else
none))) = some r) : run (Et base) 117 [(.string v0)] h = some r := run_i Try.func117 (by kernel_rfl) ((f117_eq base v0 h).trans hx)
/-! impl.AtomOk (gates 0) -/
noncomputable def B118_0 (base : Nat) : Body := fun l h => lay s118_0 l fun s => exCode (Et base) (run (Et base)) loopL a118_0 (subC [1, 0, 1, 0, 0] (bodyC Try.f118)) s h (keepK s118_0 e118_0)
theorem B118_0_eq (base : Nat) (v0 : ByteArray) (v3 : Int) (h : AH) : B118_0 base [some (.string v0), some (.int .i64 v3)] h =
((if (decide (v3 < (v0.size : Int))) = true then
((if 0 ≤ v3 ∧ v3 < (v0.size : Int) then
(run (Et base) 119 [(.int .u8 ((v0.data.toList.getD (Int.toNat v3) 0).toNat : Int))] h).bind fun r2 =>
((some r2.1).bind getB).bind fun b3 =>
(if (!b3) = true then
(if (v3 == (0 : Int)) = true then
some (.inl ([some (.string v0), some (.int .i64 v3), some (.bool true)], r2.2))
else
(if 0 ≤ v3 ∧ v3 < (v0.size : Int) then
(run (Et base) 120 [(.int .u8 ((v0.data.toList.getD (Int.toNat v3) 0).toNat : Int))] r2.2).bind fun r4 =>
((some r4.1).bind getB).bind fun b5 =>
some (.inl ([some (.string v0), some (.int .i64 v3), some (.bool (!b5))], r4.2))
else none))
else
some (.inl ([some (.string v0), some (.int .i64 v3), some (.bool false)], r2.2)))
else none)).bind fun j1 => joinK j1 fun j1 =>
((sget j1.1 0).bind getStr).bind fun s6 =>
((sget (j1.1.tail) 0).bind (getI .i64)).bind fun n7 =>
((sget (j1.1.tail.tail) 0).bind getB).bind fun b8 =>
(if b8 = true then
some (1, [some (.bool false)], j1.2)
else
some (0, [some (.string s6), some (.int .i64 (IntKind.wrap .i64 (n7 + (1 : Int))))], j1.2))
else
some (2, [some (.string v0)], h)) : Option (Nat × Slots × AH)) := by kernel_rfl
theorem f118_eq (base : Nat) (v0 : ByteArray) (h : AH) : exFun (Et base) (run (Et base)) loopL a118 Try.f118 [(.string v0)] h =
((loopL (B118_0 base) [some (.string v0), some (.int .i64 (0 : Int))] h).bind fun q1 =>
(if q1.1 = 1 then
((sget q1.2.1 0).bind getB).bind fun b2 =>
some ((.bool b2), q1.2.2)
else
(if q1.1 = 2 then
((sget q1.2.1 0).bind getStr).bind fun s3 =>
(run (Et base) 61 [(.int .i64 (s3.size : Int)), (.int .i64 (1 : Int)), (.int .i64 (12 : Int))] q1.2.2).bind fun r4 =>
((some r4.1).bind getB).bind fun b5 =>
some ((.bool b5), r4.2)
else
none)) : Option (Value × AH)) := by kernel_rfl
theorem r118 {base : Nat} {v0 : ByteArray} {h : AH} {r : Value × AH} (hx :
((loopL (B118_0 base) [some (.string v0), some (.int .i64 (0 : Int))] h).bind fun q1 =>
(if q1.1 = 1 then
((sget q1.2.1 0).bind getB).bind fun b2 =>
some ((.bool b2), q1.2.2)
else
(if q1.1 = 2 then
((sget q1.2.1 0).bind getStr).bind fun s3 =>
(run (Et base) 61 [(.int .i64 (s3.size : Int)), (.int .i64 (1 : Int)), (.int .i64 (12 : Int))] q1.2.2).bind fun r4 =>
((some r4.1).bind getB).bind fun b5 =>
some ((.bool b5), r4.2)
else
none))) = some r) : run (Et base) 118 [(.string v0)] h = some r := run_i Try.func118 (by kernel_rfl) ((f118_eq base v0 h).trans hx)
/-! impl.isSmall (gates 0) -/
theorem f119_eq (base : Nat) (v0 : Int) (h : AH) : exFun (Et base) (run (Et base)) loopL a119 Try.f119 [(.int .u8 v0)] h =
((if (decide (v0 ≥ (97 : Int))) = true then
some ((.bool (decide (v0 ≤ (122 : Int)))), h)
else
some ((.bool false), h)) : Option (Value × AH)) := by kernel_rfl
theorem r119 {base : Nat} {v0 : Int} {h : AH} {r : Value × AH} (hx :
((if (decide (v0 ≥ (97 : Int))) = true then
some ((.bool (decide (v0 ≤ (122 : Int)))), h)
else
some ((.bool false), h))) = some r) : run (Et base) 119 [(.int .u8 v0)] h = some r := run_i Try.func119 (by kernel_rfl) ((f119_eq base v0 h).trans hx)
/-! impl.isDigit (gates 0) -/
theorem f120_eq (base : Nat) (v0 : Int) (h : AH) : exFun (Et base) (run (Et base)) loopL a120 Try.f120 [(.int .u8 v0)] h =
((if (decide (v0 ≥ (48 : Int))) = true then
some ((.bool (decide (v0 ≤ (57 : Int)))), h)
else
some ((.bool false), h)) : Option (Value × AH)) := by kernel_rfl
theorem r120 {base : Nat} {v0 : Int} {h : AH} {r : Value × AH} (hx :
((if (decide (v0 ≥ (48 : Int))) = true then
some ((.bool (decide (v0 ≤ (57 : Int)))), h)
else
some ((.bool false), h))) = some r) : run (Et base) 120 [(.int .u8 v0)] h = some r := run_i Try.func120 (by kernel_rfl) ((f120_eq base v0 h).trans hx)
end Go.Proofs.Ytgigdaijailfkaa.Am
