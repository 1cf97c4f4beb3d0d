/- What each of these functions comes to on the abstract machine, one equation a function and one a loop.
Conditions: none. -/
import Derived.Test.YtolcnednfbbnnaaTb
set_option linter.unusedVariables false
set_option maxRecDepth 100000
namespace Go.Proofs.Ytolcnednfbbnnaa.Am
open Go Go.RowKit
/-! laws.markIntS (gates 0) -/
noncomputable def B75_0 (base : Nat) : Body := fun l h => lay s75_0 l fun s => exCode (Et base) (run (Et base)) loopL a75_0 (subC [1, 0, 1, 0, 0] (bodyC Try.f75)) s h (keepK s75_0 e75_0)
theorem B75_0_eq (base : Nat) (v0 : Option Addr) (v0n : Nat) (v1 : Int) (v5 : Int) (h : AH) : B75_0 base [some (vL v0 v0n), some (vI v1), some (vI v5)] h =
((if (decide (v5 < ((v0n : Nat) : Int))) = true then
(if 0 ≤ v5 ∧ v5 < ((v0n : Nat) : Int) then
((v0 : Option Addr)).bind fun a1 =>
(wr base h a1.block (a1.off + Int.toNat v5 * 1) [(.int .i64 v1)]).bind fun h2 =>
some (0, [some (.slice v0 v0n v0n), some (.int .i64 (IntKind.wrap .i64 (v1 + (1 : Int)))), some (.int .i64 (IntKind.wrap .i64 (v5 + (1 : Int))))], h2)
else none)
else
some (2, [some (.int .i64 v1)], h)) : Option (Nat × Slots × AH)) := by kernel_rfl
theorem f75_eq (base : Nat) (v0 : Option Addr) (v0n : Nat) (v1 : Int) (h : AH) : exFun (Et base) (run (Et base)) loopL a75 Try.f75 [(vL v0 v0n), (vI v1)] h =
((loopL (B75_0 base) [some (.slice v0 v0n v0n), some (.int .i64 v1), some (.int .i64 (0 : Int))] h).bind fun q1 =>
(if q1.1 = 2 then
((sget q1.2.1 0).bind (getI .i64)).bind fun n2 =>
some ((.int .i64 n2), q1.2.2)
else
none) : Option (Value × AH)) := by kernel_rfl
theorem r75 {base : Nat} {v0 : Option Addr} {v0n : Nat} {v1 : Int} {h : AH} {r : Value × AH} (hx : ((loopL (B75_0 base) [some (.slice v0 v0n v0n), some (.int .i64 v1), some (.int .i64 (0 : Int))] h).bind fun q1 =>
(if q1.1 = 2 then
((sget q1.2.1 0).bind (getI .i64)).bind fun n2 =>
some ((.int .i64 n2), q1.2.2)
else
none)) = some r) : run (Et base) 75 [(vL v0 v0n), (vI v1)] h = some r := run_i Try.func75 (by kernel_rfl) ((f75_eq base v0 v0n v1 h).trans hx)
/-! laws.heldTermS (gates 0) -/
noncomputable def B76_0 (base : Nat) : Body := fun l h => lay s76_0 l fun s => exCode (Et base) (run (Et base)) loopL a76_0 (subC [1, 0, 1, 0, 0] (bodyC Try.f76)) s h (keepK s76_0 e76_0)
theorem B76_0_eq (base : Nat) (v0 : Option Addr) (v0n : Nat) (v1 : Int) (v5 : Int) (h : AH) : B76_0 base [some (vL v0 v0n), some (vI v1), some (vI v5)] h =
((if (decide (v5 < ((v0n : Nat) : Int))) = true then
(if 0 ≤ v5 ∧ v5 < ((v0n : Nat) : Int) then
((v0 : Option Addr)).bind fun a1 =>
((cell h a1.block ((a1.off + Int.toNat v5 * 4) + 0)).bind (getI .i64)).bind fun n2 =>
(if (n2 != v1) = true then
some (1, [some (vI (-1 : Int))], h)
else
(if 0 ≤ v5 ∧ v5 < ((v0n : Nat) : Int) then
((v0 : Option Addr)).bind fun a3 =>
((cell h a3.block ((a3.off + Int.toNat v5 * 4) + 1)).bind (getI .i64)).bind fun n4 =>
(if (n4 != (IntKind.wrap .i64 (v1 + (1 : Int)))) = true then
some (1, [some (vI (-1 : Int))], h)
else
(if 0 ≤ v5 ∧ v5 < ((v0n : Nat) : Int) then
((v0 : Option Addr)).bind fun a5 =>
((cell h a5.block ((a5.off + Int.toNat v5 * 4) + 2)).bind getStr).bind fun s6 =>
(run (Et base) 52 [(vI (IntKind.wrap .i64 ((IntKind.wrap .i64 (v1 + (1 : Int))) + (1 : Int))))] h).bind fun r7 =>
((some r7.1).bind getStr).bind fun s8 =>
(gate (sameA h r7.2 (some ⟨a5.block, ((a5.off + Int.toNat v5 * 4) + 2), none⟩) 1)
((if (!(s6.toList == s8.toList)) = true then
some (1, [some (vI (-1 : Int))], r7.2)
else
(if 0 ≤ v5 ∧ v5 < ((v0n : Nat) : Int) then
((v0 : Option Addr)).bind fun a9 =>
((cell r7.2 a9.block ((a9.off + Int.toNat v5 * 4) + 3)).bind getS).bind fun l10 =>
(run (Et base) 76 [(vL l10.1 l10.2), (vI (IntKind.wrap .i64 ((IntKind.wrap .i64 ((IntKind.wrap .i64 (v1 + (1 : Int))) + (1 : Int))) + (1 : Int))))] r7.2).bind fun r11 =>
((some r11.1).bind (getI .i64)).bind fun n12 =>
(if (decide (n12 < (0 : Int))) = true then
some (1, [some (vI (-1 : Int))], r11.2)
else
some (0, [some (vL v0 v0n), some (vI n12), some (vI (IntKind.wrap .i64 (v5 + (1 : Int))))], r11.2))
else none))))
else none))
else none))
else none)
else
some (2, [some (vI v1)], h)) : Option (Nat × Slots × AH)) := by kernel_rfl
theorem f76_eq (base : Nat) (v0 : Option Addr) (v0n : Nat) (v1 : Int) (h : AH) : exFun (Et base) (run (Et base)) loopL a76 Try.f76 [(vL v0 v0n), (vI v1)] h =
((loopL (B76_0 base) [some (.slice v0 v0n v0n), some (.int .i64 v1), some (.int .i64 (0 : Int))] h).bind fun q1 =>
(if q1.1 = 1 then
((sget q1.2.1 0).bind (getI .i64)).bind fun n2 =>
some ((.int .i64 n2), q1.2.2)
else
(if q1.1 = 2 then
((sget q1.2.1 0).bind (getI .i64)).bind fun n3 =>
some ((.int .i64 n3), q1.2.2)
else
none)) : Option (Value × AH)) := by kernel_rfl
theorem r76 {base : Nat} {v0 : Option Addr} {v0n : Nat} {v1 : Int} {h : AH} {r : Value × AH} (hx : ((loopL (B76_0 base) [some (.slice v0 v0n v0n), some (.int .i64 v1), some (.int .i64 (0 : Int))] h).bind fun q1 =>
(if q1.1 = 1 then
((sget q1.2.1 0).bind (getI .i64)).bind fun n2 =>
some ((.int .i64 n2), q1.2.2)
else
(if q1.1 = 2 then
((sget q1.2.1 0).bind (getI .i64)).bind fun n3 =>
some ((.int .i64 n3), q1.2.2)
else
none))) = some r) : run (Et base) 76 [(vL v0 v0n), (vI v1)] h = some r := run_i Try.func76 (by kernel_rfl) ((f76_eq base v0 v0n v1 h).trans hx)
/-! laws.heldIntS (gates 0) -/
noncomputable def B77_0 (base : Nat) : Body := fun l h => lay s77_0 l fun s => exCode (Et base) (run (Et base)) loopL a77_0 (subC [1, 0, 1, 0, 0] (bodyC Try.f77)) s h (keepK s77_0 e77_0)
theorem B77_0_eq (base : Nat) (v0 : Option Addr) (v0n : Nat) (v1 : Int) (v5 : Int) (h : AH) : B77_0 base [some (vL v0 v0n), some (vI v1), some (vI v5)] h =
((if (decide (v5 < ((v0n : Nat) : Int))) = true then
(if 0 ≤ v5 ∧ v5 < ((v0n : Nat) : Int) then
((v0 : Option Addr)).bind fun a1 =>
((cell h a1.block (a1.off + Int.toNat v5 * 1)).bind (getI .i64)).bind fun n2 =>
(if (n2 != v1) = true then
some (1, [some (.int .i64 (-1 : Int))], h)
else
some (0, [some (.slice v0 v0n v0n), some (.int .i64 (IntKind.wrap .i64 (v1 + (1 : Int)))), some (.int .i64 (IntKind.wrap .i64 (v5 + (1 : Int))))], h))
else none)
else
some (2, [some (.int .i64 v1)], h)) : Option (Nat × Slots × AH)) := by kernel_rfl
theorem f77_eq (base : Nat) (v0 : Option Addr) (v0n : Nat) (v1 : Int) (h : AH) : exFun (Et base) (run (Et base)) loopL a77 Try.f77 [(vL v0 v0n), (vI v1)] h =
((loopL (B77_0 base) [some (.slice v0 v0n v0n), some (.int .i64 v1), some (.int .i64 (0 : Int))] h).bind fun q1 =>
(if q1.1 = 1 then
((sget q1.2.1 0).bind (getI .i64)).bind fun n2 =>
some ((.int .i64 n2), q1.2.2)
else
(if q1.1 = 2 then
((sget q1.2.1 0).bind (getI .i64)).bind fun n3 =>
some ((.int .i64 n3), q1.2.2)
else
none)) : Option (Value × AH)) := by kernel_rfl
theorem r77 {base : Nat} {v0 : Option Addr} {v0n : Nat} {v1 : Int} {h : AH} {r : Value × AH} (hx : ((loopL (B77_0 base) [some (.slice v0 v0n v0n), some (.int .i64 v1), some (.int .i64 (0 : Int))] h).bind fun q1 =>
(if q1.1 = 1 then
((sget q1.2.1 0).bind (getI .i64)).bind fun n2 =>
some ((.int .i64 n2), q1.2.2)
else
(if q1.1 = 2 then
((sget q1.2.1 0).bind (getI .i64)).bind fun n3 =>
some ((.int .i64 n3), q1.2.2)
else
none))) = some r) : run (Et base) 77 [(vL v0 v0n), (vI v1)] h = some r := run_i Try.func77 (by kernel_rfl) ((f77_eq base v0 v0n v1 h).trans hx)
/-! laws.heldTerm (gates 0) -/
theorem f78_eq (base : Nat) (v0_0 : Int) (v0_1 : Int) (v0_2 : ByteArray) (v0_3 : Option Addr) (v0_3n : Nat) (v1 : Int) (h : AH) : exFun (Et base) (run (Et base)) loopL a78 Try.f78 [(.agg #[(vI v0_0), (vI v0_1), (vT v0_2), (vL v0_3 v0_3n)]), (vI v1)] h =
((some (h ++ [some ⟨[(.int .i64 v0_0), (.int .i64 v0_1), (.string v0_2), (.slice v0_3 v0_3n v0_3n)], 38⟩])).bind fun h1 =>
((cell h1 (List.length h) 3).bind getS).bind fun l2 =>
(run (Et base) 76 [(.slice l2.1 l2.2 l2.2), (.int .i64 v1)] h1).bind fun r3 =>
((some r3.1).bind (getI .i64)).bind fun n4 =>
(if (decide (n4 < (0 : Int))) = true then
some ((.int .i64 (-1 : Int)), r3.2)
else
some ((.int .i64 n4), r3.2)) : Option (Value × AH)) := by kernel_rfl
theorem r78 {base : Nat} {v0_0 : Int} {v0_1 : Int} {v0_2 : ByteArray} {v0_3 : Option Addr} {v0_3n : Nat} {v1 : Int} {h : AH} {r : Value × AH} (hx : ((some (h ++ [some ⟨[(.int .i64 v0_0), (.int .i64 v0_1), (.string v0_2), (.slice v0_3 v0_3n v0_3n)], 38⟩])).bind fun h1 =>
((cell h1 (List.length h) 3).bind getS).bind fun l2 =>
(run (Et base) 76 [(.slice l2.1 l2.2 l2.2), (.int .i64 v1)] h1).bind fun r3 =>
((some r3.1).bind (getI .i64)).bind fun n4 =>
(if (decide (n4 < (0 : Int))) = true then
some ((.int .i64 (-1 : Int)), r3.2)
else
some ((.int .i64 n4), r3.2))) = some r) : run (Et base) 78 [(.agg #[(vI v0_0), (vI v0_1), (vT v0_2), (vL v0_3 v0_3n)]), (vI v1)] h = some r := run_i Try.func78 (by kernel_rfl) ((f78_eq base v0_0 v0_1 v0_2 v0_3 v0_3n v1 h).trans hx)
/-! impl.CodeOk (gates 0) -/
noncomputable def B83_0 (base : Nat) : Body := fun l h => lay s83_0 l fun s => exCode (Et base) (run (Et base)) loopL a83_0 (subC [1, 1, 0, 1, 0, 0] (bodyC Try.f83)) s h (keepK s83_0 e83_0)
theorem B83_0_eq (base : Nat) (v0 : Option Addr) (v0n : Nat) (v3 : Int) (v8 : Option Addr) (v8n : Nat) (v9 : Int) (v10 : Int) (h : AH) : B83_0 base [some (vL v0 v0n), some (vI v3), some (vL v8 v8n), some (vI v9), some (vI v10)] h =
((if (decide (v10 < v9)) = true then
(if 0 ≤ v10 ∧ v10 < ((v8n : Nat) : Int) then
((v8 : Option Addr)).bind fun a1 =>
c_IIIIIT h a1.block (a1.off + Int.toNat v10 * 6) fun n2 n3 n4 n5 n6 s7 =>
nw1 h 82 [(vI 0), (vI 0), (vI 0), (vI 0), (vI 0), (vT ⟨#[]⟩)] fun h8 =>
(wr base h8 (List.length h) 0 [(vI n2), (vI n3), (vI n4), (vI n5), (vI n6), (vT s7)]).bind fun h9 =>
c_IIIIIT h9 (List.length h) 0 fun n10 n11 n12 n13 n14 s15 =>
(run (Et base) 123 [(.agg #[(vI n10), (vI n11), (vI n12), (vI n13), (vI n14), (vT s15)]), (vI v3)] h9).bind fun r16 =>
((some r16.1).bind getB).bind fun b17 =>
(if (!b17) = true then
some (1, [some (.bool false)], r16.2)
else
some (0, [some (vL v0 v0n), some (vI v3), some (vL v8 v8n), some (vI v9), some (vI (IntKind.wrap .i64 (v10 + (1 : Int))))], r16.2))
else none)
else
some (2, [some (vL v0 v0n), some (vI v3)], h)) : Option (Nat × Slots × AH)) := by kernel_rfl
theorem f83_eq (base : Nat) (v0 : Option Addr) (v0n : Nat) (h : AH) : exFun (Et base) (run (Et base)) loopL a83 Try.f83 [(vL v0 v0n)] h =
((loopL (B83_0 base) [some (.slice v0 v0n v0n), some (.int .i64 ((v0n : Nat) : Int)), some (.slice v0 v0n v0n), some (.int .i64 ((v0n : Nat) : Int)), some (.int .i64 (0 : Int))] h).bind fun q1 =>
(if q1.1 = 1 then
((sget q1.2.1 0).bind getB).bind fun b2 =>
some ((.bool b2), q1.2.2)
else
(if q1.1 = 2 then
((sget q1.2.1 0).bind getS).bind fun l3 =>
((sget (q1.2.1.tail) 0).bind (getI .i64)).bind fun n4 =>
(run (Et base) 66 [(.int .i64 n4), (.int .i64 (1 : Int)), (.int .i64 (200 : Int))] q1.2.2).bind fun r5 =>
((some r5.1).bind getB).bind fun b6 =>
(if b6 = true then
(if 0 ≤ (IntKind.wrap .i64 (n4 - (1 : Int))) ∧ (IntKind.wrap .i64 (n4 - (1 : Int))) < ((l3.2 : Nat) : Int) then
((l3.1 : Option Addr)).bind fun a7 =>
((cell r5.2 a7.block ((a7.off + Int.toNat (IntKind.wrap .i64 (n4 - (1 : Int))) * 6) + 0)).bind (getI .i64)).bind fun n8 =>
(if (n8 == (19 : Int)) = true then
some ((.bool true), r5.2)
else
(if 0 ≤ (IntKind.wrap .i64 (n4 - (1 : Int))) ∧ (IntKind.wrap .i64 (n4 - (1 : Int))) < ((l3.2 : Nat) : Int) then
((l3.1 : Option Addr)).bind fun a9 =>
((cell r5.2 a9.block ((a9.off + Int.toNat (IntKind.wrap .i64 (n4 - (1 : Int))) * 6) + 0)).bind (getI .i64)).bind fun n10 =>
some ((.bool (n10 == (12 : Int))), r5.2)
else none))
else none)
else
some ((.bool false), r5.2))
else
none)) : Option (Value × AH)) := by kernel_rfl
theorem r83 {base : Nat} {v0 : Option Addr} {v0n : Nat} {h : AH} {r : Value × AH} (hx : ((loopL (B83_0 base) [some (.slice v0 v0n v0n), some (.int .i64 ((v0n : Nat) : Int)), some (.slice v0 v0n v0n), some (.int .i64 ((v0n : Nat) : Int)), some (.int .i64 (0 : Int))] h).bind fun q1 =>
(if q1.1 = 1 then
((sget q1.2.1 0).bind getB).bind fun b2 =>
some ((.bool b2), q1.2.2)
else
(if q1.1 = 2 then
((sget q1.2.1 0).bind getS).bind fun l3 =>
((sget (q1.2.1.tail) 0).bind (getI .i64)).bind fun n4 =>
(run (Et base) 66 [(.int .i64 n4), (.int .i64 (1 : Int)), (.int .i64 (200 : Int))] q1.2.2).bind fun r5 =>
((some r5.1).bind getB).bind fun b6 =>
(if b6 = true then
(if 0 ≤ (IntKind.wrap .i64 (n4 - (1 : Int))) ∧ (IntKind.wrap .i64 (n4 - (1 : Int))) < ((l3.2 : Nat) : Int) then
((l3.1 : Option Addr)).bind fun a7 =>
((cell r5.2 a7.block ((a7.off + Int.toNat (IntKind.wrap .i64 (n4 - (1 : Int))) * 6) + 0)).bind (getI .i64)).bind fun n8 =>
(if (n8 == (19 : Int)) = true then
some ((.bool true), r5.2)
else
(if 0 ≤ (IntKind.wrap .i64 (n4 - (1 : Int))) ∧ (IntKind.wrap .i64 (n4 - (1 : Int))) < ((l3.2 : Nat) : Int) then
((l3.1 : Option Addr)).bind fun a9 =>
((cell r5.2 a9.block ((a9.off + Int.toNat (IntKind.wrap .i64 (n4 - (1 : Int))) * 6) + 0)).bind (getI .i64)).bind fun n10 =>
some ((.bool (n10 == (12 : Int))), r5.2)
else none))
else none)
else
some ((.bool false), r5.2))
else
none))) = some r) : run (Et base) 83 [(vL v0 v0n)] h = some r := run_i Try.func83 (by kernel_rfl) ((f83_eq base v0 v0n h).trans hx)
/-! impl.termsOk (gates 0) -/
noncomputable def B84_0 (base : Nat) : Body := fun l h => lay s84_0 l fun s => exCode (Et base) (run (Et base)) loopL a84_0 (subC [1, 0, 1, 0, 0] (bodyC Try.f84)) s h (keepK s84_0 e84_0)
theorem B84_0_eq (base : Nat) (v5 : Option Addr) (v5n : Nat) (v6 : Int) (v7 : Int) (h : AH) : B84_0 base [some (vL v5 v5n), some (vI v6), some (vI v7)] h =
((if (decide (v7 < v6)) = true then
(if 0 ≤ v7 ∧ v7 < ((v5n : Nat) : Int) then
((v5 : Option Addr)).bind fun a1 =>
((cell h a1.block (a1.off + Int.toNat v7 * 4)).bind (getI .i64)).bind fun n2 =>
((cell h a1.block ((a1.off + Int.toNat v7 * 4) + 1)).bind (getI .i64)).bind fun n3 =>
((cell h a1.block (((a1.off + Int.toNat v7 * 4) + 1) + 1)).bind getStr).bind fun s4 =>
((cell h a1.block ((((a1.off + Int.toNat v7 * 4) + 1) + 1) + 1)).bind getS).bind fun l5 =>
(some (h ++ [some ⟨[(.int .i64 0), (.int .i64 0), (.string ⟨#[]⟩), (.slice none 0 0)], 38⟩])).bind fun h6 =>
(wr base h6 (List.length h) 0 [(.int .i64 n2), (.int .i64 n3), (.string s4), (.slice l5.1 l5.2 l5.2)]).bind fun h7 =>
((cell h7 (List.length h) 0).bind (getI .i64)).bind fun n8 =>
((cell h7 (List.length h) 1).bind (getI .i64)).bind fun n9 =>
((cell h7 (List.length h) 2).bind getStr).bind fun s10 =>
((cell h7 (List.length h) 3).bind getS).bind fun l11 =>
(run (Et base) 71 [(.agg #[(.int .i64 n8), (.int .i64 n9), (.string s10), (.slice l11.1 l11.2 l11.2)])] h7).bind fun r12 =>
((some r12.1).bind getB).bind fun b13 =>
(if (!b13) = true then
some (1, [some (.bool false)], r12.2)
else
some (0, [some (.slice v5 v5n v5n), some (.int .i64 v6), some (.int .i64 (IntKind.wrap .i64 (v7 + (1 : Int))))], r12.2))
else none)
else
some (2, [], h)) : Option (Nat × Slots × AH)) := by kernel_rfl
theorem f84_eq (base : Nat) (v0 : Option Addr) (v0n : Nat) (h : AH) : exFun (Et base) (run (Et base)) loopL a84 Try.f84 [(vL v0 v0n)] h =
((loopL (B84_0 base) [some (.slice v0 v0n v0n), some (.int .i64 ((v0n : Nat) : Int)), some (.int .i64 (0 : Int))] h).bind fun q1 =>
(if q1.1 = 1 then
((sget q1.2.1 0).bind getB).bind fun b2 =>
some ((.bool b2), q1.2.2)
else
(if q1.1 = 2 then
some ((.bool true), q1.2.2)
else
none)) : Option (Value × AH)) := by kernel_rfl
theorem r84 {base : Nat} {v0 : Option Addr} {v0n : Nat} {h : AH} {r : Value × AH} (hx : ((loopL (B84_0 base) [some (.slice v0 v0n v0n), some (.int .i64 ((v0n : Nat) : Int)), some (.int .i64 (0 : Int))] h).bind fun q1 =>
(if q1.1 = 1 then
((sget q1.2.1 0).bind getB).bind fun b2 =>
some ((.bool b2), q1.2.2)
else
(if q1.1 = 2 then
some ((.bool true), q1.2.2)
else
none))) = some r) : run (Et base) 84 [(vL v0 v0n)] h = some r := run_i Try.func84 (by kernel_rfl) ((f84_eq base v0 v0n h).trans hx)
/-! impl.linksOk (gates 0) -/
noncomputable def B85_0 (base : Nat) : Body := fun l h => lay s85_0 l fun s => exCode (Et base) (run (Et base)) loopL a85_0 (subC [1, 0, 1, 0, 0] (bodyC Try.f85)) s h (keepK s85_0 e85_0)
theorem B85_0_eq (base : Nat) (v0 : Option Addr) (v0n : Nat) (v1 : Int) (v7 : Option Addr) (v7n : Nat) (v8 : Int) (v9 : Int) (h : AH) : B85_0 base [some (vL v0 v0n), some (vI v1), some (vL v7 v7n), some (vI v8), some (vI v9)] h =
((if (decide (v9 < v8)) = true then
(if 0 ≤ v9 ∧ v9 < ((v7n : Nat) : Int) then
((v7 : Option Addr)).bind fun a1 =>
((cell h a1.block (a1.off + Int.toNat v9 * 1)).bind (getI .i64)).bind fun n2 =>
((run (Et base) 66 [(vI n2), (vI (1 : Int)), (vI (99999 : Int))] h).bind fun r4 =>
((some r4.1).bind getB).bind fun b5 =>
(if (!b5) = true then
some (.inl ([some (vL v0 v0n), some (vI v1), some (vL v7 v7n), some (vI v8), some (vI v9), some (.bool true)], r4.2))
else
(if (n2 == v1) = true then
some (.inl ([some (vL v0 v0n), some (vI v1), some (vL v7 v7n), some (vI v8), some (vI v9), some (.bool true)], r4.2))
else
(if (decide (v9 > (0 : Int))) = true then
(if 0 ≤ (IntKind.wrap .i64 (v9 - (1 : Int))) ∧ (IntKind.wrap .i64 (v9 - (1 : Int))) < ((v0n : Nat) : Int) then
((v0 : Option Addr)).bind fun a6 =>
((cell r4.2 a6.block (a6.off + Int.toNat (IntKind.wrap .i64 (v9 - (1 : Int))) * 1)).bind (getI .i64)).bind fun n7 =>
some (.inl ([some (vL v0 v0n), some (vI v1), some (vL v7 v7n), some (vI v8), some (vI v9), some (.bool (decide (n7 ≥ n2)))], r4.2))
else none)
else
some (.inl ([some (vL v0 v0n), some (vI v1), some (vL v7 v7n), some (vI v8), some (vI v9), some (.bool false)], r4.2)))))).bind fun j3 => joinK j3 fun j3 =>
j_LILIIB j3.1 fun l8 n9 l10 n11 n12 b13 =>
(if b13 = true then
some (1, [some (.bool false)], j3.2)
else
some (0, [some (vL l8.1 l8.2), some (vI n9), some (vL l10.1 l10.2), some (vI n11), some (vI (IntKind.wrap .i64 (n12 + (1 : Int))))], j3.2))
else none)
else
some (2, [some (vL v0 v0n)], h)) : Option (Nat × Slots × AH)) := by kernel_rfl
theorem f85_eq (base : Nat) (v0 : Option Addr) (v0n : Nat) (v1 : Int) (h : AH) : exFun (Et base) (run (Et base)) loopL a85 Try.f85 [(vL v0 v0n), (vI v1)] h =
((loopL (B85_0 base) [some (.slice v0 v0n v0n), some (.int .i64 v1), some (.slice v0 v0n v0n), some (.int .i64 ((v0n : Nat) : Int)), some (.int .i64 (0 : Int))] h).bind fun q1 =>
(if q1.1 = 1 then
((sget q1.2.1 0).bind getB).bind fun b2 =>
some ((.bool b2), q1.2.2)
else
(if q1.1 = 2 then
((sget q1.2.1 0).bind getS).bind fun l3 =>
some ((.bool (decide (((l3.2 : Nat) : Int) ≤ (50 : Int)))), q1.2.2)
else
none)) : Option (Value × AH)) := by kernel_rfl
theorem r85 {base : Nat} {v0 : Option Addr} {v0n : Nat} {v1 : Int} {h : AH} {r : Value × AH} (hx : ((loopL (B85_0 base) [some (.slice v0 v0n v0n), some (.int .i64 v1), some (.slice v0 v0n v0n), some (.int .i64 ((v0n : Nat) : Int)), some (.int .i64 (0 : Int))] h).bind fun q1 =>
(if q1.1 = 1 then
((sget q1.2.1 0).bind getB).bind fun b2 =>
some ((.bool b2), q1.2.2)
else
(if q1.1 = 2 then
((sget q1.2.1 0).bind getS).bind fun l3 =>
some ((.bool (decide (((l3.2 : Nat) : Int) ≤ (50 : Int)))), q1.2.2)
else
none))) = some r) : run (Et base) 85 [(vL v0 v0n), (vI v1)] h = some r := run_i Try.func85 (by kernel_rfl) ((f85_eq base v0 v0n v1 h).trans hx)
/-! spec.CodeOk (gates 0) -/
noncomputable def B89_0 (base : Nat) : Body := fun l h => lay s89_0 l fun s => exCode (Et base) (run (Et base)) loopL a89_0 (subC [1, 1, 1, 0, 1, 0, 0] (bodyC Try.f89)) s h (keepK s89_0 e89_0)
theorem B89_0_eq (base : Nat) (v0 : Option Addr) (v0n : Nat) (v3 : Int) (v4 : Int) (h : AH) : B89_0 base [some (vL v0 v0n), some (vI v3), some (vI v4)] h =
((if (decide (v4 < v3)) = true then
(if 0 ≤ v4 ∧ v4 < ((v0n : Nat) : Int) then
((v0 : Option Addr)).bind fun a1 =>
((cell h a1.block (a1.off + Int.toNat v4 * 6)).bind (getI .i64)).bind fun n2 =>
((cell h a1.block ((a1.off + Int.toNat v4 * 6) + 1)).bind (getI .i64)).bind fun n3 =>
((cell h a1.block (((a1.off + Int.toNat v4 * 6) + 1) + 1)).bind (getI .i64)).bind fun n4 =>
((cell h a1.block ((((a1.off + Int.toNat v4 * 6) + 1) + 1) + 1)).bind (getI .i64)).bind fun n5 =>
((cell h a1.block (((((a1.off + Int.toNat v4 * 6) + 1) + 1) + 1) + 1)).bind (getI .i64)).bind fun n6 =>
((cell h a1.block ((((((a1.off + Int.toNat v4 * 6) + 1) + 1) + 1) + 1) + 1)).bind getStr).bind fun s7 =>
(run (Et base) 124 [(.agg #[(.int .i64 n2), (.int .i64 n3), (.int .i64 n4), (.int .i64 n5), (.int .i64 n6), (.string s7)]), (.int .i64 v3)] h).bind fun r8 =>
((some r8.1).bind getB).bind fun b9 =>
(if (!b9) = true then
some (1, [some (.bool false)], r8.2)
else
some (0, [some (.slice v0 v0n v0n), some (.int .i64 v3), some (.int .i64 (IntKind.wrap .i64 (v4 + (1 : Int))))], r8.2))
else none)
else
some (2, [], h)) : Option (Nat × Slots × AH)) := by kernel_rfl
theorem f89_eq (base : Nat) (v0 : Option Addr) (v0n : Nat) (h : AH) : exFun (Et base) (run (Et base)) loopL a89 Try.f89 [(vL v0 v0n)] h =
(((run (Et base) 61 [(vI ((v0n : Nat) : Int)), (vI (1 : Int)), (vI (200 : Int))] h).bind fun r2 =>
((some r2.1).bind getB).bind fun b3 =>
(if (!b3) = true then
some (.inl ([some (vL v0 v0n), some (vI ((v0n : Nat) : Int)), some (.bool true)], r2.2))
else
(if 0 ≤ (IntKind.wrap .i64 (((v0n : Nat) : Int) - (1 : Int))) ∧ (IntKind.wrap .i64 (((v0n : Nat) : Int) - (1 : Int))) < ((v0n : Nat) : Int) then
((v0 : Option Addr)).bind fun a4 =>
((cell r2.2 a4.block ((a4.off + Int.toNat (IntKind.wrap .i64 (((v0n : Nat) : Int) - (1 : Int))) * 6) + 0)).bind (getI .i64)).bind fun n5 =>
(if (n5 != (19 : Int)) = true then
(if 0 ≤ (IntKind.wrap .i64 (((v0n : Nat) : Int) - (1 : Int))) ∧ (IntKind.wrap .i64 (((v0n : Nat) : Int) - (1 : Int))) < ((v0n : Nat) : Int) then
((v0 : Option Addr)).bind fun a6 =>
((cell r2.2 a6.block ((a6.off + Int.toNat (IntKind.wrap .i64 (((v0n : Nat) : Int) - (1 : Int))) * 6) + 0)).bind (getI .i64)).bind fun n7 =>
some (.inl ([some (vL v0 v0n), some (vI ((v0n : Nat) : Int)), some (.bool (n7 != (12 : Int)))], r2.2))
else none)
else
some (.inl ([some (vL v0 v0n), some (vI ((v0n : Nat) : Int)), some (.bool false)], r2.2)))
else none))).bind fun j1 => joinK j1 fun j1 =>
j_LIB j1.1 fun l8 n9 b10 =>
(if b10 = true then
some ((.bool false), j1.2)
else
(loopL (B89_0 base) [some (vL l8.1 l8.2), some (vI n9), some (vI (0 : Int))] j1.2).bind fun q11 =>
(if q11.1 = 1 then
((sget q11.2.1 0).bind getB).bind fun b12 =>
some ((.bool b12), q11.2.2)
else
(if q11.1 = 2 then
some ((.bool true), q11.2.2)
else
none))) : Option (Value × AH)) := by kernel_rfl
theorem r89 {base : Nat} {v0 : Option Addr} {v0n : Nat} {h : AH} {r : Value × AH} (hx : (((run (Et base) 61 [(vI ((v0n : Nat) : Int)), (vI (1 : Int)), (vI (200 : Int))] h).bind fun r2 =>
((some r2.1).bind getB).bind fun b3 =>
(if (!b3) = true then
some (.inl ([some (vL v0 v0n), some (vI ((v0n : Nat) : Int)), some (.bool true)], r2.2))
else
(if 0 ≤ (IntKind.wrap .i64 (((v0n : Nat) : Int) - (1 : Int))) ∧ (IntKind.wrap .i64 (((v0n : Nat) : Int) - (1 : Int))) < ((v0n : Nat) : Int) then
((v0 : Option Addr)).bind fun a4 =>
((cell r2.2 a4.block ((a4.off + Int.toNat (IntKind.wrap .i64 (((v0n : Nat) : Int) - (1 : Int))) * 6) + 0)).bind (getI .i64)).bind fun n5 =>
(if (n5 != (19 : Int)) = true then
(if 0 ≤ (IntKind.wrap .i64 (((v0n : Nat) : Int) - (1 : Int))) ∧ (IntKind.wrap .i64 (((v0n : Nat) : Int) - (1 : Int))) < ((v0n : Nat) : Int) then
((v0 : Option Addr)).bind fun a6 =>
((cell r2.2 a6.block ((a6.off + Int.toNat (IntKind.wrap .i64 (((v0n : Nat) : Int) - (1 : Int))) * 6) + 0)).bind (getI .i64)).bind fun n7 =>
some (.inl ([some (vL v0 v0n), some (vI ((v0n : Nat) : Int)), some (.bool (n7 != (12 : Int)))], r2.2))
else none)
else
some (.inl ([some (vL v0 v0n), some (vI ((v0n : Nat) : Int)), some (.bool false)], r2.2)))
else none))).bind fun j1 => joinK j1 fun j1 =>
j_LIB j1.1 fun l8 n9 b10 =>
(if b10 = true then
some ((.bool false), j1.2)
else
(loopL (B89_0 base) [some (vL l8.1 l8.2), some (vI n9), some (vI (0 : Int))] j1.2).bind fun q11 =>
(if q11.1 = 1 then
((sget q11.2.1 0).bind getB).bind fun b12 =>
some ((.bool b12), q11.2.2)
else
(if q11.1 = 2 then
some ((.bool true), q11.2.2)
else
none)))) = some r) : run (Et base) 89 [(vL v0 v0n)] h = some r := run_i Try.func89 (by kernel_rfl) ((f89_eq base v0 v0n h).trans hx)
/-! spec.TermOk (gates 0) -/
theorem f95_eq (base : Nat) (v0_0 : Int) (v0_1 : Int) (v0_2 : ByteArray) (v0_3 : Option Addr) (v0_3n : Nat) (h : AH) : exFun (Et base) (run (Et base)) loopL a95 Try.f95 [(.agg #[(vI v0_0), (vI v0_1), (vT v0_2), (vL v0_3 v0_3n)])] h =
((some (h ++ [some ⟨[(.int .i64 v0_0), (.int .i64 v0_1), (.string v0_2), (.slice v0_3 v0_3n v0_3n)], 38⟩])).bind fun h1 =>
((cell h1 (List.length h) 0).bind (getI .i64)).bind fun n2 =>
((cell h1 (List.length h) 1).bind (getI .i64)).bind fun n3 =>
((cell h1 (List.length h) 2).bind getStr).bind fun s4 =>
((cell h1 (List.length h) 3).bind getS).bind fun l5 =>
(run (Et base) 128 [(.agg #[(.int .i64 n2), (.int .i64 n3), (.string s4), (.slice l5.1 l5.2 l5.2)]), (.int .i64 (6 : Int)), (.int .i64 (100 : Int))] h1).bind fun r6 =>
((some r6.1).bind (getI .i64)).bind fun n7 =>
some ((.bool (decide (n7 ≥ (0 : Int)))), r6.2) : Option (Value × AH)) := by kernel_rfl
theorem r95 {base : Nat} {v0_0 : Int} {v0_1 : Int} {v0_2 : ByteArray} {v0_3 : Option Addr} {v0_3n : Nat} {h : AH} {r : Value × AH} (hx : ((some (h ++ [some ⟨[(.int .i64 v0_0), (.int .i64 v0_1), (.string v0_2), (.slice v0_3 v0_3n v0_3n)], 38⟩])).bind fun h1 =>
((cell h1 (List.length h) 0).bind (getI .i64)).bind fun n2 =>
((cell h1 (List.length h) 1).bind (getI .i64)).bind fun n3 =>
((cell h1 (List.length h) 2).bind getStr).bind fun s4 =>
((cell h1 (List.length h) 3).bind getS).bind fun l5 =>
(run (Et base) 128 [(.agg #[(.int .i64 n2), (.int .i64 n3), (.string s4), (.slice l5.1 l5.2 l5.2)]), (.int .i64 (6 : Int)), (.int .i64 (100 : Int))] h1).bind fun r6 =>
((some r6.1).bind (getI .i64)).bind fun n7 =>
some ((.bool (decide (n7 ≥ (0 : Int)))), r6.2)) = some r) : run (Et base) 95 [(.agg #[(vI v0_0), (vI v0_1), (vT v0_2), (vL v0_3 v0_3n)])] h = some r := run_i Try.func95 (by kernel_rfl) ((f95_eq base v0_0 v0_1 v0_2 v0_3 v0_3n h).trans hx)
/-! spec.l1Copy (gates 0) -/
noncomputable def B101_0 (base : Nat) : Body := fun l h => lay s101_0 l fun s => exCode (Et base) (run (Et base)) loopL a101_0 (subC [1, 1, 1, 0, 1, 0, 0] (bodyC Try.f101)) s h (keepK s101_0 e101_0)
theorem B101_0_eq (base : Nat) (v1 : Addr) (v2 : Addr) (v3 : Addr) (v4 : Int) (h : AH) : B101_0 base [some (vA v1), some (vA v2), some (vA v3), some (vI v4)] h =
(((cell h v1.block (v1.off + 3)).bind getS).bind fun l1 =>
(if (decide (v4 < ((l1.2 : Nat) : Int))) = true then
((cell h v3.block (v3.off + 3)).bind getS).bind fun l2 =>
((cell h v1.block (v1.off + 3)).bind getS).bind fun l3 =>
(if 0 ≤ v4 ∧ v4 < ((l3.2 : Nat) : Int) then
((l3.1 : Option Addr)).bind fun a4 =>
c_IITL h a4.block (a4.off + Int.toNat v4 * 4) fun n5 n6 s7 l8 =>
(run (Et base) 101 [(.agg #[(vI n5), (vI n6), (vT s7), (vL l8.1 l8.2)])] h).bind fun r9 =>
gG (some r9.1) 4 fun l10 =>
l_IITL l10 fun n11 n12 s13 l14 =>
(gate (sameA h r9.2 (some ⟨v3.block, (v3.off + 3), none⟩) 1)
((gate (neA (some ⟨v3.block, (v3.off + 3), none⟩) (List.length r9.2))
(nw1 r9.2 38 [(vI n11), (vI n12), (vT s13), (vL l14.1 l14.2)] fun h15 =>
(app base h15 38 4 56 l2.1 l2.2 (rawAt h15 (some ⟨(List.length r9.2), 0, none⟩) (1 * 4)) 1).bind fun p16 =>
((some p16.1).bind getS).bind fun l17 =>
(wr base p16.2 v3.block (v3.off + 3) [(vL l17.1 l17.2)]).bind fun h18 =>
some (0, [some (vA v1), some (vA v2), some (vA v3), some (vI (IntKind.wrap .i64 (v4 + (1 : Int))))], h18)))))
else none)
else
some (2, [some (vA v2), some (vA v3)], h)) : Option (Nat × Slots × AH)) := by kernel_rfl
theorem f101_eq (base : Nat) (v0_0 : Int) (v0_1 : Int) (v0_2 : ByteArray) (v0_3 : Option Addr) (v0_3n : Nat) (h : AH) : exFun (Et base) (run (Et base)) loopL a101 Try.f101 [(.agg #[(vI v0_0), (vI v0_1), (vT v0_2), (vL v0_3 v0_3n)])] h =
(nw1 h 38 [(vI v0_0), (vI v0_1), (vT v0_2), (vL v0_3 v0_3n)] fun h1 =>
nw1 h1 38 [(vI 0), (vI 0), (vT ⟨#[]⟩), (vL none 0)] fun h2 =>
c_IITL h2 (List.length h) 0 fun n3 n4 s5 l6 =>
nw1 h2 38 [(vI 0), (vI 0), (vT ⟨#[]⟩), (vL none 0)] fun h7 =>
(wr base h7 (List.length h2) 0 [(vI n3), (vI n4), (vT s5), (vL l6.1 l6.2)]).bind fun h8 =>
nw1 h8 38 [] fun h9 =>
(wr base h9 (List.length h2) 3 [(vL (some ⟨(List.length h8), 0, none⟩) 0)]).bind fun h10 =>
(loopL (B101_0 base) [some (vP (List.length h)), some (vP (List.length h1)), some (vP (List.length h2)), some (vI (0 : Int))] h10).bind fun q11 =>
(if q11.1 = 2 then
j_AA q11.2.1 fun d12 d13 =>
c_IITL q11.2.2 d13.block d13.off fun n14 n15 s16 l17 =>
(wr base q11.2.2 d12.block d12.off [(vI n14), (vI n15), (vT s16), (vL l17.1 l17.2)]).bind fun h18 =>
c_IITL h18 d12.block d12.off fun n19 n20 s21 l22 =>
some ((.agg #[(vI n19), (vI n20), (vT s21), (vL l22.1 l22.2)]), h18)
else
none) : Option (Value × AH)) := by kernel_rfl
theorem r101 {base : Nat} {v0_0 : Int} {v0_1 : Int} {v0_2 : ByteArray} {v0_3 : Option Addr} {v0_3n : Nat} {h : AH} {r : Value × AH} (hx : (nw1 h 38 [(vI v0_0), (vI v0_1), (vT v0_2), (vL v0_3 v0_3n)] fun h1 =>
nw1 h1 38 [(vI 0), (vI 0), (vT ⟨#[]⟩), (vL none 0)] fun h2 =>
c_IITL h2 (List.length h) 0 fun n3 n4 s5 l6 =>
nw1 h2 38 [(vI 0), (vI 0), (vT ⟨#[]⟩), (vL none 0)] fun h7 =>
(wr base h7 (List.length h2) 0 [(vI n3), (vI n4), (vT s5), (vL l6.1 l6.2)]).bind fun h8 =>
nw1 h8 38 [] fun h9 =>
(wr base h9 (List.length h2) 3 [(vL (some ⟨(List.length h8), 0, none⟩) 0)]).bind fun h10 =>
(loopL (B101_0 base) [some (vP (List.length h)), some (vP (List.length h1)), some (vP (List.length h2)), some (vI (0 : Int))] h10).bind fun q11 =>
(if q11.1 = 2 then
j_AA q11.2.1 fun d12 d13 =>
c_IITL q11.2.2 d13.block d13.off fun n14 n15 s16 l17 =>
(wr base q11.2.2 d12.block d12.off [(vI n14), (vI n15), (vT s16), (vL l17.1 l17.2)]).bind fun h18 =>
c_IITL h18 d12.block d12.off fun n19 n20 s21 l22 =>
some ((.agg #[(vI n19), (vI n20), (vT s21), (vL l22.1 l22.2)]), h18)
else
none)) = some r) : run (Et base) 101 [(.agg #[(vI v0_0), (vI v0_1), (vT v0_2), (vL v0_3 v0_3n)])] h = some r := run_i Try.func101 (by kernel_rfl) ((f101_eq base v0_0 v0_1 v0_2 v0_3 v0_3n h).trans hx)
/-! spec.l9Int (gates 0) -/
theorem f102_eq (base : Nat) (v0 : Int) (h : AH) : exFun (Et base) (run (Et base)) loopL a102 Try.f102 [(vI v0)] h =
((some (h ++ [some ⟨[(.int .i64 0), (.int .i64 0), (.string ⟨#[]⟩), (.slice none 0 0)], 38⟩])).bind fun h1 =>
(wr base h1 (List.length h) 0 [(.int .i64 (1 : Int)), (.int .i64 v0), (.string (⟨#[]⟩ : ByteArray)), (.slice none 0 0)]).bind fun h2 =>
((cell h2 (List.length h) 0).bind (getI .i64)).bind fun n3 =>
((cell h2 (List.length h) 1).bind (getI .i64)).bind fun n4 =>
((cell h2 (List.length h) 2).bind getStr).bind fun s5 =>
((cell h2 (List.length h) 3).bind getS).bind fun l6 =>
some ((.agg #[(.int .i64 n3), (.int .i64 n4), (.string s5), (.slice l6.1 l6.2 l6.2)]), h2) : Option (Value × AH)) := by kernel_rfl
theorem r102 {base : Nat} {v0 : Int} {h : AH} {r : Value × AH} (hx : ((some (h ++ [some ⟨[(.int .i64 0), (.int .i64 0), (.string ⟨#[]⟩), (.slice none 0 0)], 38⟩])).bind fun h1 =>
(wr base h1 (List.length h) 0 [(.int .i64 (1 : Int)), (.int .i64 v0), (.string (⟨#[]⟩ : ByteArray)), (.slice none 0 0)]).bind fun h2 =>
((cell h2 (List.length h) 0).bind (getI .i64)).bind fun n3 =>
((cell h2 (List.length h) 1).bind (getI .i64)).bind fun n4 =>
((cell h2 (List.length h) 2).bind getStr).bind fun s5 =>
((cell h2 (List.length h) 3).bind getS).bind fun l6 =>
some ((.agg #[(.int .i64 n3), (.int .i64 n4), (.string s5), (.slice l6.1 l6.2 l6.2)]), h2)) = some r) : run (Et base) 102 [(vI v0)] h = some r := run_i Try.func102 (by kernel_rfl) ((f102_eq base v0 h).trans hx)
/-! spec.l9Terms (gates 0) -/
noncomputable def B104_0 (base : Nat) : Body := fun l h => lay s104_0 l fun s => exCode (Et base) (run (Et base)) loopL a104_0 (subC [1, 0, 1, 0, 0] (bodyC Try.f104)) s h (keepK s104_0 e104_0)
theorem B104_0_eq (base : Nat) (v0 : Option Addr) (v0n : Nat) (v3 : Int) (h : AH) : B104_0 base [some (vL v0 v0n), some (vI v3)] h =
((if (decide (v3 < ((v0n : Nat) : Int))) = true then
(if 0 ≤ v3 ∧ v3 < ((v0n : Nat) : Int) then
((v0 : Option Addr)).bind fun a1 =>
((cell h a1.block (a1.off + Int.toNat v3 * 4)).bind (getI .i64)).bind fun n2 =>
((cell h a1.block ((a1.off + Int.toNat v3 * 4) + 1)).bind (getI .i64)).bind fun n3 =>
((cell h a1.block (((a1.off + Int.toNat v3 * 4) + 1) + 1)).bind getStr).bind fun s4 =>
((cell h a1.block ((((a1.off + Int.toNat v3 * 4) + 1) + 1) + 1)).bind getS).bind fun l5 =>
(run (Et base) 95 [(.agg #[(.int .i64 n2), (.int .i64 n3), (.string s4), (.slice l5.1 l5.2 l5.2)])] h).bind fun r6 =>
((some r6.1).bind getB).bind fun b7 =>
(if (!b7) = true then
some (1, [some (.bool false)], r6.2)
else
some (0, [some (.slice v0 v0n v0n), some (.int .i64 (IntKind.wrap .i64 (v3 + (1 : Int))))], r6.2))
else none)
else
some (2, [], h)) : Option (Nat × Slots × AH)) := by kernel_rfl
theorem f104_eq (base : Nat) (v0 : Option Addr) (v0n : Nat) (h : AH) : exFun (Et base) (run (Et base)) loopL a104 Try.f104 [(vL v0 v0n)] h =
((loopL (B104_0 base) [some (.slice v0 v0n v0n), some (.int .i64 (0 : Int))] h).bind fun q1 =>
(if q1.1 = 1 then
((sget q1.2.1 0).bind getB).bind fun b2 =>
some ((.bool b2), q1.2.2)
else
(if q1.1 = 2 then
some ((.bool true), q1.2.2)
else
none)) : Option (Value × AH)) := by kernel_rfl
theorem r104 {base : Nat} {v0 : Option Addr} {v0n : Nat} {h : AH} {r : Value × AH} (hx : ((loopL (B104_0 base) [some (.slice v0 v0n v0n), some (.int .i64 (0 : Int))] h).bind fun q1 =>
(if q1.1 = 1 then
((sget q1.2.1 0).bind getB).bind fun b2 =>
some ((.bool b2), q1.2.2)
else
(if q1.1 = 2 then
some ((.bool true), q1.2.2)
else
none))) = some r) : run (Et base) 104 [(vL v0 v0n)] h = some r := run_i Try.func104 (by kernel_rfl) ((f104_eq base v0 v0n h).trans hx)
/-! spec.l9Links (gates 0) -/
noncomputable def B105_0 (base : Nat) : Body := fun l h => lay s105_0 l fun s => exCode (Et base) (run (Et base)) loopL a105_0 (subC [1, 0, 1, 0, 0] (bodyC Try.f105)) s h (keepK s105_0 e105_0)
theorem B105_0_eq (base : Nat) (v0 : Option Addr) (v0n : Nat) (v1 : Int) (v5 : Int) (h : AH) : B105_0 base [some (vL v0 v0n), some (vI v1), some (vI v5)] h =
((if (decide (v5 < ((v0n : Nat) : Int))) = true then
((if 0 ≤ v5 ∧ v5 < ((v0n : Nat) : Int) then
((v0 : Option Addr)).bind fun a2 =>
((cell h a2.block (a2.off + Int.toNat v5 * 1)).bind (getI .i64)).bind fun n3 =>
(run (Et base) 61 [(vI n3), (vI (1 : Int)), (vI (99999 : Int))] h).bind fun r4 =>
((some r4.1).bind getB).bind fun b5 =>
(if (!b5) = true then
some (.inl ([some (vL v0 v0n), some (vI v1), some (vI v5), some (.bool true)], r4.2))
else
(if 0 ≤ v5 ∧ v5 < ((v0n : Nat) : Int) then
((v0 : Option Addr)).bind fun a6 =>
((cell r4.2 a6.block (a6.off + Int.toNat v5 * 1)).bind (getI .i64)).bind fun n7 =>
(if (n7 == v1) = true then
some (.inl ([some (vL v0 v0n), some (vI v1), some (vI v5), some (.bool true)], r4.2))
else
(if (decide (v5 > (0 : Int))) = true then
(if 0 ≤ (IntKind.wrap .i64 (v5 - (1 : Int))) ∧ (IntKind.wrap .i64 (v5 - (1 : Int))) < ((v0n : Nat) : Int) then
((v0 : Option Addr)).bind fun a8 =>
((cell r4.2 a8.block (a8.off + Int.toNat (IntKind.wrap .i64 (v5 - (1 : Int))) * 1)).bind (getI .i64)).bind fun n9 =>
(if 0 ≤ v5 ∧ v5 < ((v0n : Nat) : Int) then
((v0 : Option Addr)).bind fun a10 =>
((cell r4.2 a10.block (a10.off + Int.toNat v5 * 1)).bind (getI .i64)).bind fun n11 =>
some (.inl ([some (vL v0 v0n), some (vI v1), some (vI v5), some (.bool (decide (n9 ≥ n11)))], r4.2))
else none)
else none)
else
some (.inl ([some (vL v0 v0n), some (vI v1), some (vI v5), some (.bool false)], r4.2))))
else none))
else none)).bind fun j1 => joinK j1 fun j1 =>
j_LIIB j1.1 fun l12 n13 n14 b15 =>
(if b15 = true then
some (1, [some (.bool false)], j1.2)
else
some (0, [some (vL l12.1 l12.2), some (vI n13), some (vI (IntKind.wrap .i64 (n14 + (1 : Int))))], j1.2))
else
some (2, [some (vL v0 v0n)], h)) : Option (Nat × Slots × AH)) := by kernel_rfl
theorem f105_eq (base : Nat) (v0 : Option Addr) (v0n : Nat) (v1 : Int) (h : AH) : exFun (Et base) (run (Et base)) loopL a105 Try.f105 [(vL v0 v0n), (vI v1)] h =
((loopL (B105_0 base) [some (.slice v0 v0n v0n), some (.int .i64 v1), some (.int .i64 (0 : Int))] h).bind fun q1 =>
(if q1.1 = 1 then
((sget q1.2.1 0).bind getB).bind fun b2 =>
some ((.bool b2), q1.2.2)
else
(if q1.1 = 2 then
((sget q1.2.1 0).bind getS).bind fun l3 =>
some ((.bool (decide (((l3.2 : Nat) : Int) ≤ (50 : Int)))), q1.2.2)
else
none)) : Option (Value × AH)) := by kernel_rfl
theorem r105 {base : Nat} {v0 : Option Addr} {v0n : Nat} {v1 : Int} {h : AH} {r : Value × AH} (hx : ((loopL (B105_0 base) [some (.slice v0 v0n v0n), some (.int .i64 v1), some (.int .i64 (0 : Int))] h).bind fun q1 =>
(if q1.1 = 1 then
((sget q1.2.1 0).bind getB).bind fun b2 =>
some ((.bool b2), q1.2.2)
else
(if q1.1 = 2 then
((sget q1.2.1 0).bind getS).bind fun l3 =>
some ((.bool (decide (((l3.2 : Nat) : Int) ≤ (50 : Int)))), q1.2.2)
else
none))) = some r) : run (Et base) 105 [(vL v0 v0n), (vI v1)] h = some r := run_i Try.func105 (by kernel_rfl) ((f105_eq base v0 v0n v1 h).trans hx)
/-! spec.l9CopyTerms (gates 0) -/
noncomputable def B106_0 (base : Nat) : Body := fun l h => lay s106_0 l fun s => exCode (Et base) (run (Et base)) loopL a106_0 (subC [1, 1, 0, 1, 0, 0] (bodyC Try.f106)) s h (keepK s106_0 e106_0)
theorem B106_0_eq (base : Nat) (v0 : Option Addr) (v0n : Nat) (v3 : Option Addr) (v3n : Nat) (v4 : Int) (h : AH) : B106_0 base [some (vL v0 v0n), some (vL v3 v3n), some (vI v4)] h =
((if (decide (v4 < ((v0n : Nat) : Int))) = true then
(if 0 ≤ v4 ∧ v4 < ((v0n : Nat) : Int) then
((v0 : Option Addr)).bind fun a1 =>
((cell h a1.block (a1.off + Int.toNat v4 * 4)).bind (getI .i64)).bind fun n2 =>
((cell h a1.block ((a1.off + Int.toNat v4 * 4) + 1)).bind (getI .i64)).bind fun n3 =>
((cell h a1.block (((a1.off + Int.toNat v4 * 4) + 1) + 1)).bind getStr).bind fun s4 =>
((cell h a1.block ((((a1.off + Int.toNat v4 * 4) + 1) + 1) + 1)).bind getS).bind fun l5 =>
(run (Et base) 101 [(.agg #[(.int .i64 n2), (.int .i64 n3), (.string s4), (.slice l5.1 l5.2 l5.2)])] h).bind fun r6 =>
((some r6.1).bind (getAgg 4)).bind fun l7 =>
((l7[0]?).bind (getI .i64)).bind fun n8 =>
((l7[1]?).bind (getI .i64)).bind fun n9 =>
((l7[2]?).bind getStr).bind fun s10 =>
((l7[3]?).bind getS).bind fun l11 =>
(some (r6.2 ++ [some ⟨[(.int .i64 n8), (.int .i64 n9), (.string s10), (.slice l11.1 l11.2 l11.2)], 38⟩])).bind fun h12 =>
(app base h12 38 4 56 v3 v3n (rawAt h12 (some ⟨(List.length r6.2), 0, none⟩) (1 * 4)) 1).bind fun p13 =>
((some p13.1).bind getS).bind fun l14 =>
some (0, [some (.slice v0 v0n v0n), some (.slice l14.1 l14.2 l14.2), some (.int .i64 (IntKind.wrap .i64 (v4 + (1 : Int))))], p13.2)
else none)
else
some (2, [some (.slice v3 v3n v3n)], h)) : Option (Nat × Slots × AH)) := by kernel_rfl
theorem f106_eq (base : Nat) (v0 : Option Addr) (v0n : Nat) (h : AH) : exFun (Et base) (run (Et base)) loopL a106 Try.f106 [(vL v0 v0n)] h =
((some (h ++ [some ⟨[], 38⟩])).bind fun h1 =>
(loopL (B106_0 base) [some (.slice v0 v0n v0n), some (.slice (some ⟨(List.length h), 0, none⟩) 0 0), some (.int .i64 (0 : Int))] h1).bind fun q2 =>
(if q2.1 = 2 then
((sget q2.2.1 0).bind getS).bind fun l3 =>
some ((.slice l3.1 l3.2 l3.2), q2.2.2)
else
none) : Option (Value × AH)) := by kernel_rfl
theorem r106 {base : Nat} {v0 : Option Addr} {v0n : Nat} {h : AH} {r : Value × AH} (hx : ((some (h ++ [some ⟨[], 38⟩])).bind fun h1 =>
(loopL (B106_0 base) [some (.slice v0 v0n v0n), some (.slice (some ⟨(List.length h), 0, none⟩) 0 0), some (.int .i64 (0 : Int))] h1).bind fun q2 =>
(if q2.1 = 2 then
((sget q2.2.1 0).bind getS).bind fun l3 =>
some ((.slice l3.1 l3.2 l3.2), q2.2.2)
else
none)) = some r) : run (Et base) 106 [(vL v0 v0n)] h = some r := run_i Try.func106 (by kernel_rfl) ((f106_eq base v0 v0n h).trans hx)
/-! spec.SameTerm (gates 0) -/
noncomputable def B107_0 (base : Nat) : Body := fun l h => lay s107_0 l fun s => exCode (Et base) (run (Et base)) loopL a107_0 (subC [1, 1, 0, 1, 0, 0] (bodyC Try.f107)) s h (keepK s107_0 e107_0)
theorem B107_0_eq (base : Nat) (v2 : Addr) (v3 : Addr) (v5 : Int) (h : AH) : B107_0 base [some (vA v2), some (vA v3), some (vI v5)] h =
(((cell h v2.block (v2.off + 3)).bind getS).bind fun l1 =>
(if (decide (v5 < ((l1.2 : Nat) : Int))) = true then
((cell h v2.block (v2.off + 3)).bind getS).bind fun l2 =>
(if 0 ≤ v5 ∧ v5 < ((l2.2 : Nat) : Int) then
((l2.1 : Option Addr)).bind fun a3 =>
c_IITL h a3.block (a3.off + Int.toNat v5 * 4) fun n4 n5 s6 l7 =>
((cell h v3.block (v3.off + 3)).bind getS).bind fun l8 =>
(if 0 ≤ v5 ∧ v5 < ((l8.2 : Nat) : Int) then
((l8.1 : Option Addr)).bind fun a9 =>
c_IITL h a9.block (a9.off + Int.toNat v5 * 4) fun n10 n11 s12 l13 =>
(run (Et base) 107 [(.agg #[(vI n4), (vI n5), (vT s6), (vL l7.1 l7.2)]), (.agg #[(vI n10), (vI n11), (vT s12), (vL l13.1 l13.2)])] h).bind fun r14 =>
((some r14.1).bind getB).bind fun b15 =>
(if (!b15) = true then
some (1, [some (.bool false)], r14.2)
else
some (0, [some (vA v2), some (vA v3), some (vI (IntKind.wrap .i64 (v5 + (1 : Int))))], r14.2))
else none)
else none)
else
some (2, [], h)) : Option (Nat × Slots × AH)) := by kernel_rfl
theorem f107_eq (base : Nat) (v0_0 : Int) (v0_1 : Int) (v0_2 : ByteArray) (v0_3 : Option Addr) (v0_3n : Nat) (v1_0 : Int) (v1_1 : Int) (v1_2 : ByteArray) (v1_3 : Option Addr) (v1_3n : Nat) (h : AH) : exFun (Et base) (run (Et base)) loopL a107 Try.f107 [(.agg #[(vI v0_0), (vI v0_1), (vT v0_2), (vL v0_3 v0_3n)]), (.agg #[(vI v1_0), (vI v1_1), (vT v1_2), (vL v1_3 v1_3n)])] h =
(nw1 h 38 [(vI v0_0), (vI v0_1), (vT v0_2), (vL v0_3 v0_3n)] fun h1 =>
nw1 h1 38 [(vI v1_0), (vI v1_1), (vT v1_2), (vL v1_3 v1_3n)] fun h2 =>
(((cell h2 (List.length h) 0).bind (getI .i64)).bind fun n4 =>
((cell h2 (List.length h1) 0).bind (getI .i64)).bind fun n5 =>
(if (n4 != n5) = true then
some (.inl ([some (vP (List.length h)), some (vP (List.length h1)), some (.bool true)], h2))
else
((cell h2 (List.length h) 1).bind (getI .i64)).bind fun n6 =>
((cell h2 (List.length h1) 1).bind (getI .i64)).bind fun n7 =>
(if (n6 != n7) = true then
some (.inl ([some (vP (List.length h)), some (vP (List.length h1)), some (.bool true)], h2))
else
((cell h2 (List.length h) 2).bind getStr).bind fun s8 =>
((cell h2 (List.length h1) 2).bind getStr).bind fun s9 =>
(if (!(s8.toList == s9.toList)) = true then
some (.inl ([some (vP (List.length h)), some (vP (List.length h1)), some (.bool true)], h2))
else
((cell h2 (List.length h) 3).bind getS).bind fun l10 =>
((cell h2 (List.length h1) 3).bind getS).bind fun l11 =>
some (.inl ([some (vP (List.length h)), some (vP (List.length h1)), some (.bool (((l10.2 : Nat) : Int) != ((l11.2 : Nat) : Int)))], h2)))))).bind fun j3 => joinK j3 fun j3 =>
j_AAB j3.1 fun d12 d13 b14 =>
(if b14 = true then
some ((.bool false), j3.2)
else
(loopL (B107_0 base) [some (vA d12), some (vA d13), some (vI (0 : Int))] j3.2).bind fun q15 =>
(if q15.1 = 1 then
((sget q15.2.1 0).bind getB).bind fun b16 =>
some ((.bool b16), q15.2.2)
else
(if q15.1 = 2 then
some ((.bool true), q15.2.2)
else
none))) : Option (Value × AH)) := by kernel_rfl
theorem r107 {base : Nat} {v0_0 : Int} {v0_1 : Int} {v0_2 : ByteArray} {v0_3 : Option Addr} {v0_3n : Nat} {v1_0 : Int} {v1_1 : Int} {v1_2 : ByteArray} {v1_3 : Option Addr} {v1_3n : Nat} {h : AH} {r : Value × AH} (hx : (nw1 h 38 [(vI v0_0), (vI v0_1), (vT v0_2), (vL v0_3 v0_3n)] fun h1 =>
nw1 h1 38 [(vI v1_0), (vI v1_1), (vT v1_2), (vL v1_3 v1_3n)] fun h2 =>
(((cell h2 (List.length h) 0).bind (getI .i64)).bind fun n4 =>
((cell h2 (List.length h1) 0).bind (getI .i64)).bind fun n5 =>
(if (n4 != n5) = true then
some (.inl ([some (vP (List.length h)), some (vP (List.length h1)), some (.bool true)], h2))
else
((cell h2 (List.length h) 1).bind (getI .i64)).bind fun n6 =>
((cell h2 (List.length h1) 1).bind (getI .i64)).bind fun n7 =>
(if (n6 != n7) = true then
some (.inl ([some (vP (List.length h)), some (vP (List.length h1)), some (.bool true)], h2))
else
((cell h2 (List.length h) 2).bind getStr).bind fun s8 =>
((cell h2 (List.length h1) 2).bind getStr).bind fun s9 =>
(if (!(s8.toList == s9.toList)) = true then
some (.inl ([some (vP (List.length h)), some (vP (List.length h1)), some (.bool true)], h2))
else
((cell h2 (List.length h) 3).bind getS).bind fun l10 =>
((cell h2 (List.length h1) 3).bind getS).bind fun l11 =>
some (.inl ([some (vP (List.length h)), some (vP (List.length h1)), some (.bool (((l10.2 : Nat) : Int) != ((l11.2 : Nat) : Int)))], h2)))))).bind fun j3 => joinK j3 fun j3 =>
j_AAB j3.1 fun d12 d13 b14 =>
(if b14 = true then
some ((.bool false), j3.2)
else
(loopL (B107_0 base) [some (vA d12), some (vA d13), some (vI (0 : Int))] j3.2).bind fun q15 =>
(if q15.1 = 1 then
((sget q15.2.1 0).bind getB).bind fun b16 =>
some ((.bool b16), q15.2.2)
else
(if q15.1 = 2 then
some ((.bool true), q15.2.2)
else
none)))) = some r) : run (Et base) 107 [(.agg #[(vI v0_0), (vI v0_1), (vT v0_2), (vL v0_3 v0_3n)]), (.agg #[(vI v1_0), (vI v1_1), (vT v1_2), (vL v1_3 v1_3n)])] h = some r := run_i Try.func107 (by kernel_rfl) ((f107_eq base v0_0 v0_1 v0_2 v0_3 v0_3n v1_0 v1_1 v1_2 v1_3 v1_3n h).trans hx)
/-! spec.l9Fault (gates 1) -/
theorem f108_eq (base : Nat) (v0_0 : Int) (v0_1 : Int) (v0_2 : Option Addr) (v0_2n : Nat) (v0_3 : Option Addr) (v0_3n : Nat) (v0_4 : Option Addr) (v0_4n : Nat) (h : AH) : exFun (Et base) (run (Et base)) loopL a108 Try.f108 [(.agg #[(vI v0_0), (vI v0_1), (vL v0_2 v0_2n), (vL v0_3 v0_3n), (vL v0_4 v0_4n)])] h =
(nw1 h 52 [(vI v0_0), (vI v0_1), (vL v0_2 v0_2n), (vL v0_3 v0_3n), (vL v0_4 v0_4n)] fun h1 =>
nw1 h1 52 [(vI 0), (vI 0), (vL none 0), (vL none 0), (vL none 0)] fun h2 =>
nw1 h2 54 [(vI 0), (vI 0), (vI 0), (vI 0), (vI 0), (vT ⟨#[]⟩), (vL none 0)] fun h3 =>
c_IILLL h3 (List.length h) 0 fun n4 n5 l6 l7 l8 =>
(run (Et base) 131 [(vT (⟨#[102, 97, 117, 108, 116]⟩ : ByteArray))] h3).bind fun r9 =>
gG (some r9.1) 4 fun l10 =>
l_IITL l10 fun n11 n12 s13 l14 =>
(gate (sameA h3 r9.2 (some ⟨(List.length h), 0, none⟩) 5)
((wr base r9.2 (List.length h1) 0 [(vI n4), (vI n5), (vL l6.1 l6.2), (vL l7.1 l7.2), (vL l8.1 l8.2)]).bind fun h15 =>
(wr base h15 (List.length h2) 0 [(vI (7 : Int)), (vI (0 : Int)), (vI (0 : Int)), (vI n11), (vI n12), (vT s13), (vL l14.1 l14.2)]).bind fun h16 =>
c_IILLL h16 (List.length h1) 0 fun n17 n18 l19 l20 l21 =>
c_IIIIITL h16 (List.length h2) 0 fun n22 n23 n24 n25 n26 s27 l28 =>
some ((.tuple #[(.agg #[(vI n17), (vI n18), (vL l19.1 l19.2), (vL l20.1 l20.2), (vL l21.1 l21.2)]), (.agg #[(vI n22), (vI n23), (vI n24), (vI n25), (vI n26), (vT s27), (vL l28.1 l28.2)])]), h16))) : Option (Value × AH)) := by kernel_rfl
theorem r108 {base : Nat} {v0_0 : Int} {v0_1 : Int} {v0_2 : Option Addr} {v0_2n : Nat} {v0_3 : Option Addr} {v0_3n : Nat} {v0_4 : Option Addr} {v0_4n : Nat} {h : AH} {r : Value × AH} (hx : (nw1 h 52 [(vI v0_0), (vI v0_1), (vL v0_2 v0_2n), (vL v0_3 v0_3n), (vL v0_4 v0_4n)] fun h1 =>
nw1 h1 52 [(vI 0), (vI 0), (vL none 0), (vL none 0), (vL none 0)] fun h2 =>
nw1 h2 54 [(vI 0), (vI 0), (vI 0), (vI 0), (vI 0), (vT ⟨#[]⟩), (vL none 0)] fun h3 =>
c_IILLL h3 (List.length h) 0 fun n4 n5 l6 l7 l8 =>
(run (Et base) 131 [(vT (⟨#[102, 97, 117, 108, 116]⟩ : ByteArray))] h3).bind fun r9 =>
gG (some r9.1) 4 fun l10 =>
l_IITL l10 fun n11 n12 s13 l14 =>
(gate (sameA h3 r9.2 (some ⟨(List.length h), 0, none⟩) 5)
((wr base r9.2 (List.length h1) 0 [(vI n4), (vI n5), (vL l6.1 l6.2), (vL l7.1 l7.2), (vL l8.1 l8.2)]).bind fun h15 =>
(wr base h15 (List.length h2) 0 [(vI (7 : Int)), (vI (0 : Int)), (vI (0 : Int)), (vI n11), (vI n12), (vT s13), (vL l14.1 l14.2)]).bind fun h16 =>
c_IILLL h16 (List.length h1) 0 fun n17 n18 l19 l20 l21 =>
c_IIIIITL h16 (List.length h2) 0 fun n22 n23 n24 n25 n26 s27 l28 =>
some ((.tuple #[(.agg #[(vI n17), (vI n18), (vL l19.1 l19.2), (vL l20.1 l20.2), (vL l21.1 l21.2)]), (.agg #[(vI n22), (vI n23), (vI n24), (vI n25), (vI n26), (vT s27), (vL l28.1 l28.2)])]), h16)))) = some r) : run (Et base) 108 [(.agg #[(vI v0_0), (vI v0_1), (vL v0_2 v0_2n), (vL v0_3 v0_3n), (vL v0_4 v0_4n)])] h = some r := run_i Try.func108 (by kernel_rfl) ((f108_eq base v0_0 v0_1 v0_2 v0_2n v0_3 v0_3n v0_4 v0_4n h).trans hx)
/-! spec.l9Make (gates 9) -/
noncomputable abbrev qf109 (base : Nat) (v0_0 : Int) (v0_1 : Int) (v0_2 : Int) (v0_3 : Int) (v0_4 : Int) (v0_5 : ByteArray) (v1_0 : Int) (v1_1 : Int) (v1_2 : Option Addr) (v1_2n : Nat) (v1_3 : Option Addr) (v1_3n : Nat) (v1_4 : Option Addr) (v1_4n : Nat) (v2 : Int) (h : AH) : Option (Value × AH) :=
nw1 h 82 [(vI v0_0), (vI v0_1), (vI v0_2), (vI v0_3), (vI v0_4), (vT v0_5)] fun h1 =>
nw1 h1 52 [(vI v1_0), (vI v1_1), (vL v1_2 v1_2n), (vL v1_3 v1_3n), (vL v1_4 v1_4n)] fun h2 =>
nw1 h2 38 [(vI 0), (vI 0), (vT ⟨#[]⟩), (vL none 0)] fun h3 =>
((cell h3 (List.length h) 0).bind (getI .i64)).bind fun n4 =>
(if (n4 == (1 : Int)) = true then
((cell h3 (List.length h) 4).bind (getI .i64)).bind fun n5 =>
(run (Et base) 102 [(vI n5)] h3).bind fun r6 =>
gG (some r6.1) 4 fun l7 =>
l_IITL l7 fun n8 n9 s10 l11 =>
(wr base r6.2 (List.length h2) 0 [(vI n8), (vI n9), (vT s10), (vL l11.1 l11.2)]).bind fun h12 =>
c_IITL h12 (List.length h2) 0 fun n13 n14 s15 l16 =>
some ((.tuple #[(.agg #[(vI n13), (vI n14), (vT s15), (vL l16.1 l16.2)]), (.bool true)]), h12)
else
(if (n4 == (2 : Int)) = true then
((cell h3 (List.length h) 5).bind getStr).bind fun s17 =>
(run (Et base) 131 [(vT s17)] h3).bind fun r18 =>
gG (some r18.1) 4 fun l19 =>
l_IITL l19 fun n20 n21 s22 l23 =>
(wr base r18.2 (List.length h2) 0 [(vI n20), (vI n21), (vT s22), (vL l23.1 l23.2)]).bind fun h24 =>
c_IITL h24 (List.length h2) 0 fun n25 n26 s27 l28 =>
some ((.tuple #[(.agg #[(vI n25), (vI n26), (vT s27), (vL l28.1 l28.2)]), (.bool true)]), h24)
else
(if (n4 == (20 : Int)) = true then
(wr base h3 (List.length h2) 0 [(vI (5 : Int)), (vI (0 : Int)), (vT (⟨#[]⟩ : ByteArray)), (vL none 0)]).bind fun h29 =>
c_IITL h29 (List.length h2) 0 fun n30 n31 s32 l33 =>
some ((.tuple #[(.agg #[(vI n30), (vI n31), (vT s32), (vL l33.1 l33.2)]), (.bool true)]), h29)
else
(if (n4 == (3 : Int)) = true then
((cell h3 (List.length h1) 2).bind getS).bind fun l34 =>
((cell h3 (List.length h) 2).bind (getI .i64)).bind fun n35 =>
(if 0 ≤ n35 ∧ n35 < ((l34.2 : Nat) : Int) then
((l34.1 : Option Addr)).bind fun a36 =>
c_IITL h3 a36.block (a36.off + Int.toNat n35 * 4) fun n37 n38 s39 l40 =>
(run (Et base) 101 [(.agg #[(vI n37), (vI n38), (vT s39), (vL l40.1 l40.2)])] h3).bind fun r41 =>
gG (some r41.1) 4 fun l42 =>
l_IITL l42 fun n43 n44 s45 l46 =>
(wr base r41.2 (List.length h2) 0 [(vI n43), (vI n44), (vT s45), (vL l46.1 l46.2)]).bind fun h47 =>
c_IITL h47 (List.length h2) 0 fun n48 n49 s50 l51 =>
some ((.tuple #[(.agg #[(vI n48), (vI n49), (vT s50), (vL l51.1 l51.2)]), (.bool true)]), h47)
else none)
else
(if (n4 == (4 : Int)) = true then
((cell h3 (List.length h1) 2).bind getS).bind fun l52 =>
((cell h3 (List.length h) 2).bind (getI .i64)).bind fun n53 =>
((cell h3 (List.length h) 2).bind (getI .i64)).bind fun n54 =>
((cell h3 (List.length h) 4).bind (getI .i64)).bind fun n55 =>
(if 0 ≤ n53 ∧ n53 ≤ (IntKind.wrap .i64 (n54 + n55)) ∧ (IntKind.wrap .i64 (n54 + n55)) ≤ ((l52.2 : Nat) : Int) ∧ okTy base h3 l52.1 38 (Int.toNat n53) = true then
(run (Et base) 106 [(.slice (shiftA l52.1 (Int.toNat n53 * 4)) (Int.toNat (IntKind.wrap .i64 (n54 + n55)) - Int.toNat n53) (Int.toNat (IntKind.wrap .i64 (n54 + n55)) - Int.toNat n53))] h3).bind fun r56 =>
((some r56.1).bind getS).bind fun l57 =>
(wr base r56.2 (List.length h2) 0 [(vI (4 : Int)), (vI (0 : Int)), (vT (⟨#[]⟩ : ByteArray)), (vL l57.1 l57.2)]).bind fun h58 =>
c_IITL h58 (List.length h2) 0 fun n59 n60 s61 l62 =>
some ((.tuple #[(.agg #[(vI n59), (vI n60), (vT s61), (vL l62.1 l62.2)]), (.bool true)]), h58)
else none)
else
(if (n4 == (5 : Int)) = true then
((cell h3 (List.length h1) 2).bind getS).bind fun l63 =>
((cell h3 (List.length h) 2).bind (getI .i64)).bind fun n64 =>
(if 0 ≤ n64 ∧ n64 < ((l63.2 : Nat) : Int) then
((l63.1 : Option Addr)).bind fun a65 =>
c_IITL h3 a65.block (a65.off + Int.toNat n64 * 4) fun n66 n67 s68 l69 =>
(run (Et base) 101 [(.agg #[(vI n66), (vI n67), (vT s68), (vL l69.1 l69.2)])] h3).bind fun r70 =>
gG (some r70.1) 4 fun l71 =>
l_IITL l71 fun n72 n73 s74 l75 =>
(gate (sameA h3 r70.2 (some ⟨(List.length h1), 2, none⟩) 1)
(((cell r70.2 (List.length h1) 2).bind getS).bind fun l76 =>
(gate (sameA h3 r70.2 (some ⟨(List.length h), 3, none⟩) 1)
(((cell r70.2 (List.length h) 3).bind (getI .i64)).bind fun n77 =>
(if 0 ≤ n77 ∧ n77 < ((l76.2 : Nat) : Int) then
((l76.1 : Option Addr)).bind fun a78 =>
(gate (sameA h3 r70.2 (some ⟨a78.block, ((a78.off + Int.toNat n77 * 4) + 3), none⟩) 1)
(((cell r70.2 a78.block ((a78.off + Int.toNat n77 * 4) + 3)).bind getS).bind fun l79 =>
(run (Et base) 106 [(vL l79.1 l79.2)] r70.2).bind fun r80 =>
((some r80.1).bind getS).bind fun l81 =>
(gate (neA (some ⟨a78.block, ((a78.off + Int.toNat n77 * 4) + 3), none⟩) (List.length r80.2))
((gate (neA (some ⟨(List.length h), 3, none⟩) (List.length r80.2))
((gate (neA (some ⟨(List.length h1), 2, none⟩) (List.length r80.2))
(nw1 r80.2 38 [(vI n72), (vI n73), (vT s74), (vL l75.1 l75.2)] fun h82 =>
(app base h82 38 4 56 (some ⟨(List.length r80.2), 0, none⟩) 1 (rawAt h82 l81.1 (l81.2 * 4)) l81.2).bind fun p83 =>
((some p83.1).bind getS).bind fun l84 =>
((cell p83.2 (List.length h1) 2).bind getS).bind fun l85 =>
((cell p83.2 (List.length h) 3).bind (getI .i64)).bind fun n86 =>
(if 0 ≤ n86 ∧ n86 < ((l85.2 : Nat) : Int) then
((l85.1 : Option Addr)).bind fun a87 =>
((cell p83.2 a87.block ((a87.off + Int.toNat n86 * 4) + 0)).bind (getI .i64)).bind fun n88 =>
(wr base p83.2 (List.length h2) 0 [(vI (5 : Int)), (vI (0 : Int)), (vT (⟨#[]⟩ : ByteArray)), (vL l84.1 l84.2)]).bind fun h89 =>
(gate (sameA p83.2 h89 (some ⟨a87.block, ((a87.off + Int.toNat n86 * 4) + 0), none⟩) 1)
((gate (sameA p83.2 h89 (some ⟨(List.length h), 3, none⟩) 1)
((gate (sameA p83.2 h89 (some ⟨(List.length h1), 2, none⟩) 1)
(c_IITL h89 (List.length h2) 0 fun n90 n91 s92 l93 =>
some ((.tuple #[(.agg #[(vI n90), (vI n91), (vT s92), (vL l93.1 l93.2)]), (.bool (n88 == (5 : Int)))]), h89)))))))
else none)))))))))
else none)))))
else none)
else
(if (n4 == (15 : Int)) = true then
((cell h3 (List.length h1) 0).bind (getI .i64)).bind fun n94 =>
(run (Et base) 132 [(vI n94)] h3).bind fun r95 =>
gG (some r95.1) 4 fun l96 =>
l_IITL l96 fun n97 n98 s99 l100 =>
(wr base r95.2 (List.length h2) 0 [(vI n97), (vI n98), (vT s99), (vL l100.1 l100.2)]).bind fun h101 =>
c_IITL h101 (List.length h2) 0 fun n102 n103 s104 l105 =>
some ((.tuple #[(.agg #[(vI n102), (vI n103), (vT s104), (vL l105.1 l105.2)]), (.bool true)]), h101)
else
(if (n4 == (16 : Int)) = true then
(run (Et base) 132 [(vI v2)] h3).bind fun r106 =>
gG (some r106.1) 4 fun l107 =>
l_IITL l107 fun n108 n109 s110 l111 =>
(wr base r106.2 (List.length h2) 0 [(vI n108), (vI n109), (vT s110), (vL l111.1 l111.2)]).bind fun h112 =>
c_IITL h112 (List.length h2) 0 fun n113 n114 s115 l116 =>
some ((.tuple #[(.agg #[(vI n113), (vI n114), (vT s115), (vL l116.1 l116.2)]), (.bool true)]), h112)
else
c_IIIIIT h3 (List.length h) 0 fun n117 n118 n119 n120 n121 s122 =>
c_IILLL h3 (List.length h1) 0 fun n123 n124 l125 l126 l127 =>
(run (Et base) 133 [(.agg #[(vI n117), (vI n118), (vI n119), (vI n120), (vI n121), (vT s122)]), (.agg #[(vI n123), (vI n124), (vL l125.1 l125.2), (vL l126.1 l126.2), (vL l127.1 l127.2)])] h3).bind fun r128 =>
(getTup 2 r128.1).bind fun l129 =>
gG (l129[0]?) 4 fun l130 =>
l_IITL l130 fun n131 n132 s133 l134 =>
((l129[1]?).bind getB).bind fun b135 =>
(wr base r128.2 (List.length h2) 0 [(vI n131), (vI n132), (vT s133), (vL l134.1 l134.2)]).bind fun h136 =>
c_IITL h136 (List.length h2) 0 fun n137 n138 s139 l140 =>
some ((.tuple #[(.agg #[(vI n137), (vI n138), (vT s139), (vL l140.1 l140.2)]), (.bool b135)]), h136)))))))))
theorem f109_eq (base : Nat) (v0_0 : Int) (v0_1 : Int) (v0_2 : Int) (v0_3 : Int) (v0_4 : Int) (v0_5 : ByteArray) (v1_0 : Int) (v1_1 : Int) (v1_2 : Option Addr) (v1_2n : Nat) (v1_3 : Option Addr) (v1_3n : Nat) (v1_4 : Option Addr) (v1_4n : Nat) (v2 : Int) (h : AH) : exFun (Et base) (run (Et base)) loopL a109 Try.f109 [(.agg #[(vI v0_0), (vI v0_1), (vI v0_2), (vI v0_3), (vI v0_4), (vT v0_5)]), (.agg #[(vI v1_0), (vI v1_1), (vL v1_2 v1_2n), (vL v1_3 v1_3n), (vL v1_4 v1_4n)]), (vI v2)] h = qf109 base v0_0 v0_1 v0_2 v0_3 v0_4 v0_5 v1_0 v1_1 v1_2 v1_2n v1_3 v1_3n v1_4 v1_4n v2 h := by kernel_rfl
theorem r109 {base : Nat} {v0_0 : Int} {v0_1 : Int} {v0_2 : Int} {v0_3 : Int} {v0_4 : Int} {v0_5 : ByteArray} {v1_0 : Int} {v1_1 : Int} {v1_2 : Option Addr} {v1_2n : Nat} {v1_3 : Option Addr} {v1_3n : Nat} {v1_4 : Option Addr} {v1_4n : Nat} {v2 : Int} {h : AH} {r : Value × AH} (hx : qf109 base v0_0 v0_1 v0_2 v0_3 v0_4 v0_5 v1_0 v1_1 v1_2 v1_2n v1_3 v1_3n v1_4 v1_4n v2 h = some r) : run (Et base) 109 [(.agg #[(vI v0_0), (vI v0_1), (vI v0_2), (vI v0_3), (vI v0_4), (vT v0_5)]), (.agg #[(vI v1_0), (vI v1_1), (vL v1_2 v1_2n), (vL v1_3 v1_3n), (vL v1_4 v1_4n)]), (vI v2)] h = some r := run_i Try.func109 (by kernel_rfl) ((f109_eq base v0_0 v0_1 v0_2 v0_3 v0_4 v0_5 v1_0 v1_1 v1_2 v1_2n v1_3 v1_3n v1_4 v1_4n v2 h).trans hx)
/-! impl.copyTerms (gates 0) -/
noncomputable def B110_0 (base : Nat) : Body := fun l h => lay s110_0 l fun s => exCode (Et base) (run (Et base)) loopL a110_0 (subC [1, 1, 0, 1, 0, 0] (bodyC Try.f110)) s h (keepK s110_0 e110_0)
theorem B110_0_eq (base : Nat) (v3 : Option Addr) (v3n : Nat) (v6 : Option Addr) (v6n : Nat) (v7 : Int) (v8 : Int) (h : AH) : B110_0 base [some (vL v3 v3n), some (vL v6 v6n), some (vI v7), some (vI v8)] h =
((if (decide (v8 < v7)) = true then
(if 0 ≤ v8 ∧ v8 < ((v6n : Nat) : Int) then
((v6 : Option Addr)).bind fun a1 =>
c_IITL h a1.block (a1.off + Int.toNat v8 * 4) fun n2 n3 s4 l5 =>
nw1 h 38 [(vI 0), (vI 0), (vT ⟨#[]⟩), (vL none 0)] fun h6 =>
(wr base h6 (List.length h) 0 [(vI n2), (vI n3), (vT s4), (vL l5.1 l5.2)]).bind fun h7 =>
c_IITL h7 (List.length h) 0 fun n8 n9 s10 l11 =>
(run (Et base) 72 [(.agg #[(vI n8), (vI n9), (vT s10), (vL l11.1 l11.2)])] h7).bind fun r12 =>
gG (some r12.1) 4 fun l13 =>
l_IITL l13 fun n14 n15 s16 l17 =>
nw1 r12.2 38 [(vI n14), (vI n15), (vT s16), (vL l17.1 l17.2)] fun h18 =>
(app base h18 38 4 56 v3 v3n (rawAt h18 (some ⟨(List.length r12.2), 0, none⟩) (1 * 4)) 1).bind fun p19 =>
((some p19.1).bind getS).bind fun l20 =>
some (0, [some (vL l20.1 l20.2), some (vL v6 v6n), some (vI v7), some (vI (IntKind.wrap .i64 (v8 + (1 : Int))))], p19.2)
else none)
else
some (2, [some (vL v3 v3n)], h)) : Option (Nat × Slots × AH)) := by kernel_rfl
theorem f110_eq (base : Nat) (v0 : Option Addr) (v0n : Nat) (h : AH) : exFun (Et base) (run (Et base)) loopL a110 Try.f110 [(vL v0 v0n)] h =
((loopL (B110_0 base) [some (.slice none 0 0), some (.slice v0 v0n v0n), some (.int .i64 ((v0n : Nat) : Int)), some (.int .i64 (0 : Int))] h).bind fun q1 =>
(if q1.1 = 2 then
((sget q1.2.1 0).bind getS).bind fun l2 =>
some ((.slice l2.1 l2.2 l2.2), q1.2.2)
else
none) : Option (Value × AH)) := by kernel_rfl
theorem r110 {base : Nat} {v0 : Option Addr} {v0n : Nat} {h : AH} {r : Value × AH} (hx : ((loopL (B110_0 base) [some (.slice none 0 0), some (.slice v0 v0n v0n), some (.int .i64 ((v0n : Nat) : Int)), some (.int .i64 (0 : Int))] h).bind fun q1 =>
(if q1.1 = 2 then
((sget q1.2.1 0).bind getS).bind fun l2 =>
some ((.slice l2.1 l2.2 l2.2), q1.2.2)
else
none)) = some r) : run (Et base) 110 [(vL v0 v0n)] h = some r := run_i Try.func110 (by kernel_rfl) ((f110_eq base v0 v0n h).trans hx)
/-! impl.copyInts (gates 0) -/
theorem f111_eq (base : Nat) (v0 : Option Addr) (v0n : Nat) (h : AH) : exFun (Et base) (run (Et base)) loopL a111 Try.f111 [(vL v0 v0n)] h =
((app base h 3 1 8 none 0 (rawAt h v0 (v0n * 1)) v0n).bind fun p1 =>
((some p1.1).bind getS).bind fun l2 =>
some ((.slice l2.1 l2.2 l2.2), p1.2) : Option (Value × AH)) := by kernel_rfl
theorem r111 {base : Nat} {v0 : Option Addr} {v0n : Nat} {h : AH} {r : Value × AH} (hx : ((app base h 3 1 8 none 0 (rawAt h v0 (v0n * 1)) v0n).bind fun p1 =>
((some p1.1).bind getS).bind fun l2 =>
some ((.slice l2.1 l2.2 l2.2), p1.2)) = some r) : run (Et base) 111 [(vL v0 v0n)] h = some r := run_i Try.func111 (by kernel_rfl) ((f111_eq base v0 v0n h).trans hx)
/-! impl.atom (gates 0) -/
theorem f112_eq (base : Nat) (v0 : ByteArray) (h : AH) : exFun (Et base) (run (Et base)) loopL a112 Try.f112 [(vT v0)] h =
((some (h ++ [some ⟨[(.int .i64 0), (.int .i64 0), (.string ⟨#[]⟩), (.slice none 0 0)], 38⟩])).bind fun h1 =>
(wr base h1 (List.length h) 0 [(.int .i64 (2 : Int)), (.int .i64 (0 : Int)), (.string v0), (.slice none 0 0)]).bind fun h2 =>
((cell h2 (List.length h) 0).bind (getI .i64)).bind fun n3 =>
((cell h2 (List.length h) 1).bind (getI .i64)).bind fun n4 =>
((cell h2 (List.length h) 2).bind getStr).bind fun s5 =>
((cell h2 (List.length h) 3).bind getS).bind fun l6 =>
some ((.agg #[(.int .i64 n3), (.int .i64 n4), (.string s5), (.slice l6.1 l6.2 l6.2)]), h2) : Option (Value × AH)) := by kernel_rfl
theorem r112 {base : Nat} {v0 : ByteArray} {h : AH} {r : Value × AH} (hx : ((some (h ++ [some ⟨[(.int .i64 0), (.int .i64 0), (.string ⟨#[]⟩), (.slice none 0 0)], 38⟩])).bind fun h1 =>
(wr base h1 (List.length h) 0 [(.int .i64 (2 : Int)), (.int .i64 (0 : Int)), (.string v0), (.slice none 0 0)]).bind fun h2 =>
((cell h2 (List.length h) 0).bind (getI .i64)).bind fun n3 =>
((cell h2 (List.length h) 1).bind (getI .i64)).bind fun n4 =>
((cell h2 (List.length h) 2).bind getStr).bind fun s5 =>
((cell h2 (List.length h) 3).bind getS).bind fun l6 =>
some ((.agg #[(.int .i64 n3), (.int .i64 n4), (.string s5), (.slice l6.1 l6.2 l6.2)]), h2)) = some r) : run (Et base) 112 [(vT v0)] h = some r := run_i Try.func112 (by kernel_rfl) ((f112_eq base v0 h).trans hx)
/-! impl.counted (gates 0) -/
noncomputable def B113_0 (base : Nat) : Body := fun l h => lay s113_0 l fun s => exCode (Et base) (run (Et base)) loopL a113_0 (subC [1, 1, 1, 0, 1, 0, 0] (bodyC Try.f113)) s h (keepK s113_0 e113_0)
theorem B113_0_eq (base : Nat) (v1 : Int) (v2 : Int) (v27 : Option Addr) (v27n : Nat) (v28 : Int) (v29 : Int) (h : AH) : B113_0 base [some (vI v1), some (vI v2), some (vL v27 v27n), some (vI v28), some (vI v29)] h =
((if (decide (v29 < v28)) = true then
(if 0 ≤ v29 ∧ v29 < ((v27n : Nat) : Int) then
((v27 : Option Addr)).bind fun a1 =>
c_IITL h a1.block (a1.off + Int.toNat v29 * 4) fun n2 n3 s4 l5 =>
nw1 h 38 [(vI 0), (vI 0), (vT ⟨#[]⟩), (vL none 0)] fun h6 =>
(wr base h6 (List.length h) 0 [(vI n2), (vI n3), (vT s4), (vL l5.1 l5.2)]).bind fun h7 =>
c_IITL h7 (List.length h) 0 fun n8 n9 s10 l11 =>
(run (Et base) 113 [(.agg #[(vI n8), (vI n9), (vT s10), (vL l11.1 l11.2)]), (vI (IntKind.wrap .i64 (v1 + (1 : Int)))), (vI v2)] h7).bind fun r12 =>
(getTup 2 r12.1).bind fun l13 =>
l_IB l13 fun n14 b15 =>
(if (!b15) = true then
some (1, [some (vI n14), some (.bool false)], r12.2)
else
some (0, [some (vI v1), some (vI n14), some (vL v27 v27n), some (vI v28), some (vI (IntKind.wrap .i64 (v29 + (1 : Int))))], r12.2))
else none)
else
some (2, [some (vI v2)], h)) : Option (Nat × Slots × AH)) := by kernel_rfl
theorem f113_eq (base : Nat) (v0_0 : Int) (v0_1 : Int) (v0_2 : ByteArray) (v0_3 : Option Addr) (v0_3n : Nat) (v1 : Int) (v2 : Int) (h : AH) : exFun (Et base) (run (Et base)) loopL a113 Try.f113 [(.agg #[(vI v0_0), (vI v0_1), (vT v0_2), (vL v0_3 v0_3n)]), (vI v1), (vI v2)] h =
(nw1 h 38 [(vI v0_0), (vI v0_1), (vT v0_2), (vL v0_3 v0_3n)] fun h1 =>
((if (decide (v1 > (6 : Int))) = true then
some (.inl ([some (vI v1), some (vI (IntKind.wrap .i64 (v2 + (1 : Int)))), some (vP (List.length h)), some (.bool true)], h1))
else
(if (decide ((IntKind.wrap .i64 (v2 + (1 : Int))) > (100 : Int))) = true then
some (.inl ([some (vI v1), some (vI (IntKind.wrap .i64 (v2 + (1 : Int)))), some (vP (List.length h)), some (.bool true)], h1))
else
c_IITL h1 (List.length h) 0 fun n3 n4 s5 l6 =>
(run (Et base) 134 [(.agg #[(vI n3), (vI n4), (vT s5), (vL l6.1 l6.2)])] h1).bind fun r7 =>
((some r7.1).bind getB).bind fun b8 =>
some (.inl ([some (vI v1), some (vI (IntKind.wrap .i64 (v2 + (1 : Int)))), some (vP (List.length h)), some (.bool (!b8))], r7.2))))).bind fun j2 => joinK j2 fun j2 =>
j_IIAB j2.1 fun n9 n10 d11 b12 =>
(if b12 = true then
some ((.tuple #[(vI n10), (.bool false)]), j2.2)
else
((cell j2.2 d11.block (d11.off + 3)).bind getS).bind fun l13 =>
(loopL (B113_0 base) [some (vI n9), some (vI n10), some (vL l13.1 l13.2), some (vI ((l13.2 : Nat) : Int)), some (vI (0 : Int))] j2.2).bind fun q14 =>
(if q14.1 = 1 then
j_IB q14.2.1 fun n15 b16 =>
some ((.tuple #[(vI n15), (.bool b16)]), q14.2.2)
else
(if q14.1 = 2 then
((sget q14.2.1 0).bind (getI .i64)).bind fun n17 =>
some ((.tuple #[(vI n17), (.bool true)]), q14.2.2)
else
none))) : Option (Value × AH)) := by kernel_rfl
theorem r113 {base : Nat} {v0_0 : Int} {v0_1 : Int} {v0_2 : ByteArray} {v0_3 : Option Addr} {v0_3n : Nat} {v1 : Int} {v2 : Int} {h : AH} {r : Value × AH} (hx : (nw1 h 38 [(vI v0_0), (vI v0_1), (vT v0_2), (vL v0_3 v0_3n)] fun h1 =>
((if (decide (v1 > (6 : Int))) = true then
some (.inl ([some (vI v1), some (vI (IntKind.wrap .i64 (v2 + (1 : Int)))), some (vP (List.length h)), some (.bool true)], h1))
else
(if (decide ((IntKind.wrap .i64 (v2 + (1 : Int))) > (100 : Int))) = true then
some (.inl ([some (vI v1), some (vI (IntKind.wrap .i64 (v2 + (1 : Int)))), some (vP (List.length h)), some (.bool true)], h1))
else
c_IITL h1 (List.length h) 0 fun n3 n4 s5 l6 =>
(run (Et base) 134 [(.agg #[(vI n3), (vI n4), (vT s5), (vL l6.1 l6.2)])] h1).bind fun r7 =>
((some r7.1).bind getB).bind fun b8 =>
some (.inl ([some (vI v1), some (vI (IntKind.wrap .i64 (v2 + (1 : Int)))), some (vP (List.length h)), some (.bool (!b8))], r7.2))))).bind fun j2 => joinK j2 fun j2 =>
j_IIAB j2.1 fun n9 n10 d11 b12 =>
(if b12 = true then
some ((.tuple #[(vI n10), (.bool false)]), j2.2)
else
((cell j2.2 d11.block (d11.off + 3)).bind getS).bind fun l13 =>
(loopL (B113_0 base) [some (vI n9), some (vI n10), some (vL l13.1 l13.2), some (vI ((l13.2 : Nat) : Int)), some (vI (0 : Int))] j2.2).bind fun q14 =>
(if q14.1 = 1 then
j_IB q14.2.1 fun n15 b16 =>
some ((.tuple #[(vI n15), (.bool b16)]), q14.2.2)
else
(if q14.1 = 2 then
((sget q14.2.1 0).bind (getI .i64)).bind fun n17 =>
some ((.tuple #[(vI n17), (.bool true)]), q14.2.2)
else
none)))) = some r) : run (Et base) 113 [(.agg #[(vI v0_0), (vI v0_1), (vT v0_2), (vL v0_3 v0_3n)]), (vI v1), (vI v2)] h = some r := run_i Try.func113 (by kernel_rfl) ((f113_eq base v0_0 v0_1 v0_2 v0_3 v0_3n v1 v2 h).trans hx)
/-! impl.SameTerm (gates 0) -/
noncomputable def B114_0 (base : Nat) : Body := fun l h => lay s114_0 l fun s => exCode (Et base) (run (Et base)) loopL a114_0 (subC [1, 1, 0, 1, 0, 0] (bodyC Try.f114)) s h (keepK s114_0 e114_0)
theorem B114_0_eq (base : Nat) (v2 : Addr) (v3 : Addr) (v36 : Int) (v37 : Int) (h : AH) : B114_0 base [some (vA v2), some (vA v3), some (vI v36), some (vI v37)] h =
((if (decide (v37 < v36)) = true then
((cell h v2.block (v2.off + 3)).bind getS).bind fun l1 =>
(if 0 ≤ v37 ∧ v37 < ((l1.2 : Nat) : Int) then
((l1.1 : Option Addr)).bind fun a2 =>
c_IITL h a2.block (a2.off + Int.toNat v37 * 4) fun n3 n4 s5 l6 =>
((cell h v3.block (v3.off + 3)).bind getS).bind fun l7 =>
(if 0 ≤ v37 ∧ v37 < ((l7.2 : Nat) : Int) then
((l7.1 : Option Addr)).bind fun a8 =>
c_IITL h a8.block (a8.off + Int.toNat v37 * 4) fun n9 n10 s11 l12 =>
(run (Et base) 114 [(.agg #[(vI n3), (vI n4), (vT s5), (vL l6.1 l6.2)]), (.agg #[(vI n9), (vI n10), (vT s11), (vL l12.1 l12.2)])] h).bind fun r13 =>
((some r13.1).bind getB).bind fun b14 =>
(if (!b14) = true then
some (1, [some (.bool false)], r13.2)
else
some (0, [some (vA v2), some (vA v3), some (vI v36), some (vI (IntKind.wrap .i64 (v37 + (1 : Int))))], r13.2))
else none)
else none)
else
some (2, [], h)) : Option (Nat × Slots × AH)) := by kernel_rfl
theorem f114_eq (base : Nat) (v0_0 : Int) (v0_1 : Int) (v0_2 : ByteArray) (v0_3 : Option Addr) (v0_3n : Nat) (v1_0 : Int) (v1_1 : Int) (v1_2 : ByteArray) (v1_3 : Option Addr) (v1_3n : Nat) (h : AH) : exFun (Et base) (run (Et base)) loopL a114 Try.f114 [(.agg #[(vI v0_0), (vI v0_1), (vT v0_2), (vL v0_3 v0_3n)]), (.agg #[(vI v1_0), (vI v1_1), (vT v1_2), (vL v1_3 v1_3n)])] h =
(nw1 h 38 [(vI v0_0), (vI v0_1), (vT v0_2), (vL v0_3 v0_3n)] fun h1 =>
nw1 h1 38 [(vI v1_0), (vI v1_1), (vT v1_2), (vL v1_3 v1_3n)] fun h2 =>
(((cell h2 (List.length h) 0).bind (getI .i64)).bind fun n4 =>
((cell h2 (List.length h1) 0).bind (getI .i64)).bind fun n5 =>
(if (n4 != n5) = true then
some (.inl ([some (vP (List.length h)), some (vP (List.length h1)), some (.bool true)], h2))
else
((cell h2 (List.length h) 1).bind (getI .i64)).bind fun n6 =>
((cell h2 (List.length h1) 1).bind (getI .i64)).bind fun n7 =>
(if (n6 != n7) = true then
some (.inl ([some (vP (List.length h)), some (vP (List.length h1)), some (.bool true)], h2))
else
((cell h2 (List.length h) 2).bind getStr).bind fun s8 =>
((cell h2 (List.length h1) 2).bind getStr).bind fun s9 =>
(if (!(s8.toList == s9.toList)) = true then
some (.inl ([some (vP (List.length h)), some (vP (List.length h1)), some (.bool true)], h2))
else
((cell h2 (List.length h) 3).bind getS).bind fun l10 =>
((cell h2 (List.length h1) 3).bind getS).bind fun l11 =>
some (.inl ([some (vP (List.length h)), some (vP (List.length h1)), some (.bool (((l10.2 : Nat) : Int) != ((l11.2 : Nat) : Int)))], h2)))))).bind fun j3 => joinK j3 fun j3 =>
j_AAB j3.1 fun d12 d13 b14 =>
(if b14 = true then
some ((.bool false), j3.2)
else
((cell j3.2 d12.block (d12.off + 3)).bind getS).bind fun l15 =>
(loopL (B114_0 base) [some (vA d12), some (vA d13), some (vI ((l15.2 : Nat) : Int)), some (vI (0 : Int))] j3.2).bind fun q16 =>
(if q16.1 = 1 then
((sget q16.2.1 0).bind getB).bind fun b17 =>
some ((.bool b17), q16.2.2)
else
(if q16.1 = 2 then
some ((.bool true), q16.2.2)
else
none))) : Option (Value × AH)) := by kernel_rfl
theorem r114 {base : Nat} {v0_0 : Int} {v0_1 : Int} {v0_2 : ByteArray} {v0_3 : Option Addr} {v0_3n : Nat} {v1_0 : Int} {v1_1 : Int} {v1_2 : ByteArray} {v1_3 : Option Addr} {v1_3n : Nat} {h : AH} {r : Value × AH} (hx : (nw1 h 38 [(vI v0_0), (vI v0_1), (vT v0_2), (vL v0_3 v0_3n)] fun h1 =>
nw1 h1 38 [(vI v1_0), (vI v1_1), (vT v1_2), (vL v1_3 v1_3n)] fun h2 =>
(((cell h2 (List.length h) 0).bind (getI .i64)).bind fun n4 =>
((cell h2 (List.length h1) 0).bind (getI .i64)).bind fun n5 =>
(if (n4 != n5) = true then
some (.inl ([some (vP (List.length h)), some (vP (List.length h1)), some (.bool true)], h2))
else
((cell h2 (List.length h) 1).bind (getI .i64)).bind fun n6 =>
((cell h2 (List.length h1) 1).bind (getI .i64)).bind fun n7 =>
(if (n6 != n7) = true then
some (.inl ([some (vP (List.length h)), some (vP (List.length h1)), some (.bool true)], h2))
else
((cell h2 (List.length h) 2).bind getStr).bind fun s8 =>
((cell h2 (List.length h1) 2).bind getStr).bind fun s9 =>
(if (!(s8.toList == s9.toList)) = true then
some (.inl ([some (vP (List.length h)), some (vP (List.length h1)), some (.bool true)], h2))
else
((cell h2 (List.length h) 3).bind getS).bind fun l10 =>
((cell h2 (List.length h1) 3).bind getS).bind fun l11 =>
some (.inl ([some (vP (List.length h)), some (vP (List.length h1)), some (.bool (((l10.2 : Nat) : Int) != ((l11.2 : Nat) : Int)))], h2)))))).bind fun j3 => joinK j3 fun j3 =>
j_AAB j3.1 fun d12 d13 b14 =>
(if b14 = true then
some ((.bool false), j3.2)
else
((cell j3.2 d12.block (d12.off + 3)).bind getS).bind fun l15 =>
(loopL (B114_0 base) [some (vA d12), some (vA d13), some (vI ((l15.2 : Nat) : Int)), some (vI (0 : Int))] j3.2).bind fun q16 =>
(if q16.1 = 1 then
((sget q16.2.1 0).bind getB).bind fun b17 =>
some ((.bool b17), q16.2.2)
else
(if q16.1 = 2 then
some ((.bool true), q16.2.2)
else
none)))) = some r) : run (Et base) 114 [(.agg #[(vI v0_0), (vI v0_1), (vT v0_2), (vL v0_3 v0_3n)]), (.agg #[(vI v1_0), (vI v1_1), (vT v1_2), (vL v1_3 v1_3n)])] h = some r := run_i Try.func114 (by kernel_rfl) ((f114_eq base v0_0 v0_1 v0_2 v0_3 v0_3n v1_0 v1_1 v1_2 v1_3 v1_3n h).trans hx)
/-! impl.InsOk (gates 0) -/
noncomputable abbrev qf123 (base : Nat) (v0_0 : Int) (v0_1 : Int) (v0_2 : Int) (v0_3 : Int) (v0_4 : Int) (v0_5 : ByteArray) (v1 : Int) (h : AH) : Option (Value × AH) :=
nw1 h 82 [(vI v0_0), (vI v0_1), (vI v0_2), (vI v0_3), (vI v0_4), (vT v0_5)] fun h1 =>
((run (Et base) 66 [(vI v1), (vI (1 : Int)), (vI (200 : Int))] h1).bind fun r3 =>
((some r3.1).bind getB).bind fun b4 =>
(if (!b4) = true then
some (.inl ([some (vI v1), some (vP (List.length h)), some (.bool true)], r3.2))
else
c_IIIIIT r3.2 (List.length h) 0 fun n5 n6 n7 n8 n9 s10 =>
(run (Et base) 146 [(.agg #[(vI n5), (vI n6), (vI n7), (vI n8), (vI n9), (vT s10)])] r3.2).bind fun r11 =>
((some r11.1).bind getB).bind fun b12 =>
(if (!b12) = true then
some (.inl ([some (vI v1), some (vP (List.length h)), some (.bool true)], r11.2))
else
((cell r11.2 (List.length h) 1).bind (getI .i64)).bind fun n13 =>
(run (Et base) 147 [(vI n13)] r11.2).bind fun r14 =>
((some r14.1).bind getB).bind fun b15 =>
(if (!b15) = true then
some (.inl ([some (vI v1), some (vP (List.length h)), some (.bool true)], r14.2))
else
((cell r14.2 (List.length h) 2).bind (getI .i64)).bind fun n16 =>
(run (Et base) 147 [(vI n16)] r14.2).bind fun r17 =>
((some r17.1).bind getB).bind fun b18 =>
(if (!b18) = true then
some (.inl ([some (vI v1), some (vP (List.length h)), some (.bool true)], r17.2))
else
((cell r17.2 (List.length h) 3).bind (getI .i64)).bind fun n19 =>
(run (Et base) 147 [(vI n19)] r17.2).bind fun r20 =>
((some r20.1).bind getB).bind fun b21 =>
some (.inl ([some (vI v1), some (vP (List.length h)), some (.bool (!b21))], r20.2))))))).bind fun j2 => joinK j2 fun j2 =>
j_IAB j2.1 fun n22 d23 b24 =>
(if b24 = true then
some ((.bool false), j2.2)
else
((cell j2.2 d23.block (d23.off + 0)).bind (getI .i64)).bind fun n25 =>
(if (n25 == (1 : Int)) = true then
((cell j2.2 d23.block (d23.off + 4)).bind (getI .i64)).bind fun n26 =>
(run (Et base) 66 [(vI n26), (vI (-1000000 : Int)), (vI (1000000 : Int))] j2.2).bind fun r27 =>
((some r27.1).bind getB).bind fun b28 =>
some ((.bool b28), r27.2)
else
(if (n25 == (2 : Int)) = true then
((cell j2.2 d23.block (d23.off + 5)).bind getStr).bind fun s29 =>
(run (Et base) 148 [(vT s29)] j2.2).bind fun r30 =>
((some r30.1).bind getB).bind fun b31 =>
some ((.bool b31), r30.2)
else
(if (n25 == (4 : Int)) = true then
((cell j2.2 d23.block (d23.off + 4)).bind (getI .i64)).bind fun n32 =>
(run (Et base) 66 [(vI n32), (vI (0 : Int)), (vI (8 : Int))] j2.2).bind fun r33 =>
((some r33.1).bind getB).bind fun b34 =>
(if b34 = true then
((cell r33.2 d23.block (d23.off + 2)).bind (getI .i64)).bind fun n35 =>
((cell r33.2 d23.block (d23.off + 4)).bind (getI .i64)).bind fun n36 =>
some ((.bool (decide ((IntKind.wrap .i64 (n35 + n36)) ≤ (8 : Int)))), r33.2)
else
some ((.bool false), r33.2))
else
(if (n25 == (6 : Int)) = true then
((cell j2.2 d23.block (d23.off + 4)).bind (getI .i64)).bind fun n37 =>
(run (Et base) 66 [(vI n37), (vI (0 : Int)), (vI (7 : Int))] j2.2).bind fun r38 =>
((some r38.1).bind getB).bind fun b39 =>
some ((.bool b39), r38.2)
else
(if (n25 == (11 : Int)) = true then
((cell j2.2 d23.block (d23.off + 2)).bind (getI .i64)).bind fun n40 =>
(run (Et base) 66 [(vI n40), (vI (1 : Int)), (vI (6 : Int))] j2.2).bind fun r41 =>
((some r41.1).bind getB).bind fun b42 =>
(if b42 = true then
((cell r41.2 d23.block (d23.off + 4)).bind (getI .i64)).bind fun n43 =>
(run (Et base) 66 [(vI n43), (vI (0 : Int)), (vI (IntKind.wrap .i64 (n22 - (1 : Int))))] r41.2).bind fun r44 =>
((some r44.1).bind getB).bind fun b45 =>
some ((.bool b45), r44.2)
else
some ((.bool false), r41.2))
else
((if (n25 == (10 : Int)) = true then
some (.inl ([some (vI n22), some (vA d23), some (.bool (n25 == (10 : Int)))], j2.2))
else
(if (n25 == (12 : Int)) = true then
some (.inl ([some (vI n22), some (vA d23), some (.bool (n25 == (12 : Int)))], j2.2))
else
some (.inl ([some (vI n22), some (vA d23), some (.bool (n25 == (16 : Int)))], j2.2))))).bind fun j46 => joinK j46 fun j46 =>
j_IAB j46.1 fun n47 d48 b49 =>
(if b49 = true then
((cell j46.2 d48.block (d48.off + 4)).bind (getI .i64)).bind fun n50 =>
(run (Et base) 66 [(vI n50), (vI (0 : Int)), (vI (IntKind.wrap .i64 (n47 - (1 : Int))))] j46.2).bind fun r51 =>
((some r51.1).bind getB).bind fun b52 =>
some ((.bool b52), r51.2)
else
some ((.bool true), j46.2))))))))
theorem f123_eq (base : Nat) (v0_0 : Int) (v0_1 : Int) (v0_2 : Int) (v0_3 : Int) (v0_4 : Int) (v0_5 : ByteArray) (v1 : Int) (h : AH) : exFun (Et base) (run (Et base)) loopL a123 Try.f123 [(.agg #[(vI v0_0), (vI v0_1), (vI v0_2), (vI v0_3), (vI v0_4), (vT v0_5)]), (vI v1)] h = qf123 base v0_0 v0_1 v0_2 v0_3 v0_4 v0_5 v1 h := by kernel_rfl
theorem r123 {base : Nat} {v0_0 : Int} {v0_1 : Int} {v0_2 : Int} {v0_3 : Int} {v0_4 : Int} {v0_5 : ByteArray} {v1 : Int} {h : AH} {r : Value × AH} (hx : qf123 base v0_0 v0_1 v0_2 v0_3 v0_4 v0_5 v1 h = some r) : run (Et base) 123 [(.agg #[(vI v0_0), (vI v0_1), (vI v0_2), (vI v0_3), (vI v0_4), (vT v0_5)]), (vI v1)] h = some r := run_i Try.func123 (by kernel_rfl) ((f123_eq base v0_0 v0_1 v0_2 v0_3 v0_4 v0_5 v1 h).trans hx)
/-! spec.InsOk (gates 1) -/
noncomputable abbrev qf124 (base : Nat) (v0_0 : Int) (v0_1 : Int) (v0_2 : Int) (v0_3 : Int) (v0_4 : Int) (v0_5 : ByteArray) (v1 : Int) (h : AH) : Option (Value × AH) :=
nw1 h 82 [(vI v0_0), (vI v0_1), (vI v0_2), (vI v0_3), (vI v0_4), (vT v0_5)] fun h1 =>
((run (Et base) 61 [(vI v1), (vI (1 : Int)), (vI (200 : Int))] h1).bind fun r3 =>
((some r3.1).bind getB).bind fun b4 =>
(if (!b4) = true then
some (.inl ([some (vI v1), some (vP (List.length h)), some (.bool true)], r3.2))
else
((cell r3.2 (List.length h) 0).bind (getI .i64)).bind fun n5 =>
(run (Et base) 61 [(vI n5), (vI (1 : Int)), (vI (20 : Int))] r3.2).bind fun r6 =>
((some r6.1).bind getB).bind fun b7 =>
some (.inl ([some (vI v1), some (vP (List.length h)), some (.bool (!b7))], r6.2)))).bind fun j2 => joinK j2 fun j2 =>
j_IAB j2.1 fun n8 d9 b10 =>
(if b10 = true then
some ((.bool false), j2.2)
else
(run (Et base) 149 [] j2.2).bind fun r11 =>
((some r11.1).bind getS).bind fun l12 =>
(gate (sameA j2.2 r11.2 (some ⟨d9.block, (d9.off + 0), none⟩) 1)
(((cell r11.2 d9.block (d9.off + 0)).bind (getI .i64)).bind fun n13 =>
(if 0 ≤ (IntKind.wrap .i64 (n13 - (1 : Int))) ∧ (IntKind.wrap .i64 (n13 - (1 : Int))) < ((l12.2 : Nat) : Int) then
((l12.1 : Option Addr)).bind fun a14 =>
((cell r11.2 a14.block (a14.off + Int.toNat (IntKind.wrap .i64 (n13 - (1 : Int))) * 1)).bind getStr).bind fun s15 =>
(((cell r11.2 d9.block (d9.off + 1)).bind (getI .i64)).bind fun n17 =>
(run (Et base) 150 [(vT s15), (.int .u8 (65 : Int)), (vI n17)] r11.2).bind fun r18 =>
((some r18.1).bind getB).bind fun b19 =>
(if (!b19) = true then
some (.inl ([some (vI n8), some (vA d9), some (.bool true)], r18.2))
else
((cell r18.2 d9.block (d9.off + 3)).bind (getI .i64)).bind fun n20 =>
(run (Et base) 150 [(vT s15), (.int .u8 (67 : Int)), (vI n20)] r18.2).bind fun r21 =>
((some r21.1).bind getB).bind fun b22 =>
(if (!b22) = true then
some (.inl ([some (vI n8), some (vA d9), some (.bool true)], r21.2))
else
((cell r21.2 d9.block (d9.off + 0)).bind (getI .i64)).bind fun n23 =>
(if (n23 != (11 : Int)) = true then
((cell r21.2 d9.block (d9.off + 2)).bind (getI .i64)).bind fun n24 =>
(run (Et base) 150 [(vT s15), (.int .u8 (66 : Int)), (vI n24)] r21.2).bind fun r25 =>
((some r25.1).bind getB).bind fun b26 =>
(if (!b26) = true then
some (.inl ([some (vI n8), some (vA d9), some (.bool true)], r25.2))
else
((cell r25.2 d9.block (d9.off + 0)).bind (getI .i64)).bind fun n27 =>
(if (n27 == (11 : Int)) = true then
((cell r25.2 d9.block (d9.off + 2)).bind (getI .i64)).bind fun n28 =>
(run (Et base) 61 [(vI n28), (vI (1 : Int)), (vI (6 : Int))] r25.2).bind fun r29 =>
((some r29.1).bind getB).bind fun b30 =>
some (.inl ([some (vI n8), some (vA d9), some (.bool (!b30))], r29.2))
else
some (.inl ([some (vI n8), some (vA d9), some (.bool false)], r25.2))))
else
((cell r21.2 d9.block (d9.off + 0)).bind (getI .i64)).bind fun n31 =>
(if (n31 == (11 : Int)) = true then
((cell r21.2 d9.block (d9.off + 2)).bind (getI .i64)).bind fun n32 =>
(run (Et base) 61 [(vI n32), (vI (1 : Int)), (vI (6 : Int))] r21.2).bind fun r33 =>
((some r33.1).bind getB).bind fun b34 =>
some (.inl ([some (vI n8), some (vA d9), some (.bool (!b34))], r33.2))
else
some (.inl ([some (vI n8), some (vA d9), some (.bool false)], r21.2))))))).bind fun j16 => joinK j16 fun j16 =>
j_IAB j16.1 fun n35 d36 b37 =>
(if b37 = true then
some ((.bool false), j16.2)
else
(((cell j16.2 d36.block (d36.off + 0)).bind (getI .i64)).bind fun n39 =>
(if (n39 == (2 : Int)) = true then
((cell j16.2 d36.block (d36.off + 5)).bind getStr).bind fun s40 =>
(run (Et base) 151 [(vT s40)] j16.2).bind fun r41 =>
((some r41.1).bind getB).bind fun b42 =>
(if (!b42) = true then
some (.inl ([some (vI n35), some (vA d36), some (.bool true)], r41.2))
else
((cell r41.2 d36.block (d36.off + 0)).bind (getI .i64)).bind fun n43 =>
(if (n43 != (2 : Int)) = true then
((cell r41.2 d36.block (d36.off + 5)).bind getStr).bind fun s44 =>
some (.inl ([some (vI n35), some (vA d36), some (.bool (!(s44.toList == (⟨#[]⟩ : ByteArray).toList)))], r41.2))
else
some (.inl ([some (vI n35), some (vA d36), some (.bool false)], r41.2))))
else
((cell j16.2 d36.block (d36.off + 0)).bind (getI .i64)).bind fun n45 =>
(if (n45 != (2 : Int)) = true then
((cell j16.2 d36.block (d36.off + 5)).bind getStr).bind fun s46 =>
some (.inl ([some (vI n35), some (vA d36), some (.bool (!(s46.toList == (⟨#[]⟩ : ByteArray).toList)))], j16.2))
else
some (.inl ([some (vI n35), some (vA d36), some (.bool false)], j16.2))))).bind fun j38 => joinK j38 fun j38 =>
j_IAB j38.1 fun n47 d48 b49 =>
(if b49 = true then
some ((.bool false), j38.2)
else
c_IIIIIT j38.2 d48.block d48.off fun n50 n51 n52 n53 n54 s55 =>
(run (Et base) 152 [(.agg #[(vI n50), (vI n51), (vI n52), (vI n53), (vI n54), (vT s55)]), (vI n47)] j38.2).bind fun r56 =>
((some r56.1).bind getB).bind fun b57 =>
some ((.bool b57), r56.2)))
else none))))
theorem f124_eq (base : Nat) (v0_0 : Int) (v0_1 : Int) (v0_2 : Int) (v0_3 : Int) (v0_4 : Int) (v0_5 : ByteArray) (v1 : Int) (h : AH) : exFun (Et base) (run (Et base)) loopL a124 Try.f124 [(.agg #[(vI v0_0), (vI v0_1), (vI v0_2), (vI v0_3), (vI v0_4), (vT v0_5)]), (vI v1)] h = qf124 base v0_0 v0_1 v0_2 v0_3 v0_4 v0_5 v1 h := by kernel_rfl
theorem r124 {base : Nat} {v0_0 : Int} {v0_1 : Int} {v0_2 : Int} {v0_3 : Int} {v0_4 : Int} {v0_5 : ByteArray} {v1 : Int} {h : AH} {r : Value × AH} (hx : qf124 base v0_0 v0_1 v0_2 v0_3 v0_4 v0_5 v1 h = some r) : run (Et base) 124 [(.agg #[(vI v0_0), (vI v0_1), (vI v0_2), (vI v0_3), (vI v0_4), (vT v0_5)]), (vI v1)] h = some r := run_i Try.func124 (by kernel_rfl) ((f124_eq base v0_0 v0_1 v0_2 v0_3 v0_4 v0_5 v1 h).trans hx)
/-! spec.l1Look (gates 0) -/
noncomputable def B128_0 (base : Nat) : Body := fun l h => lay s128_0 l fun s => exCode (Et base) (run (Et base)) loopL a128_0 (subC [1, 1, 1, 0, 1, 0, 0] (bodyC Try.f128)) s h (keepK s128_0 e128_0)
theorem B128_0_eq (base : Nat) (v1 : Int) (v2 : Int) (v3 : Addr) (v7 : Int) (h : AH) : B128_0 base [some (vI v1), some (vI v2), some (vA v3), some (vI v7)] h =
((((cell h v3.block (v3.off + 3)).bind getS).bind fun l2 =>
(if (decide (v7 < ((l2.2 : Nat) : Int))) = true then
some (.inl ([some (vI v1), some (vI v2), some (vA v3), some (vI v7), some (.bool (decide (v2 ≥ (0 : Int))))], h))
else
some (.inl ([some (vI v1), some (vI v2), some (vA v3), some (vI v7), some (.bool false)], h)))).bind fun j1 => joinK j1 fun j1 =>
j_IIAIB j1.1 fun n3 n4 d5 n6 b7 =>
(if b7 = true then
((cell j1.2 d5.block (d5.off + 3)).bind getS).bind fun l8 =>
(if 0 ≤ n6 ∧ n6 < ((l8.2 : Nat) : Int) then
((l8.1 : Option Addr)).bind fun a9 =>
c_IITL j1.2 a9.block (a9.off + Int.toNat n6 * 4) fun n10 n11 s12 l13 =>
(run (Et base) 128 [(.agg #[(vI n10), (vI n11), (vT s12), (vL l13.1 l13.2)]), (vI (IntKind.wrap .i64 (n3 - (1 : Int)))), (vI n4)] j1.2).bind fun r14 =>
((some r14.1).bind (getI .i64)).bind fun n15 =>
some (0, [some (vI n3), some (vI n15), some (vA d5), some (vI (IntKind.wrap .i64 (n6 + (1 : Int))))], r14.2)
else none)
else
some (2, [some (vI n4)], j1.2)) : Option (Nat × Slots × AH)) := by kernel_rfl
theorem f128_eq (base : Nat) (v0_0 : Int) (v0_1 : Int) (v0_2 : ByteArray) (v0_3 : Option Addr) (v0_3n : Nat) (v1 : Int) (v2 : Int) (h : AH) : exFun (Et base) (run (Et base)) loopL a128 Try.f128 [(.agg #[(vI v0_0), (vI v0_1), (vT v0_2), (vL v0_3 v0_3n)]), (vI v1), (vI v2)] h =
(nw1 h 38 [(vI v0_0), (vI v0_1), (vT v0_2), (vL v0_3 v0_3n)] fun h1 =>
((if (decide (v1 < (1 : Int))) = true then
some (.inl ([some (vI v1), some (vI v2), some (vP (List.length h)), some (.bool true)], h1))
else
(if (decide (v2 < (1 : Int))) = true then
some (.inl ([some (vI v1), some (vI v2), some (vP (List.length h)), some (.bool true)], h1))
else
c_IITL h1 (List.length h) 0 fun n3 n4 s5 l6 =>
(run (Et base) 153 [(.agg #[(vI n3), (vI n4), (vT s5), (vL l6.1 l6.2)])] h1).bind fun r7 =>
((some r7.1).bind getB).bind fun b8 =>
some (.inl ([some (vI v1), some (vI v2), some (vP (List.length h)), some (.bool (!b8))], r7.2))))).bind fun j2 => joinK j2 fun j2 =>
j_IIAB j2.1 fun n9 n10 d11 b12 =>
(if b12 = true then
some ((vI (-1 : Int)), j2.2)
else
(loopL (B128_0 base) [some (vI n9), some (vI (IntKind.wrap .i64 (n10 - (1 : Int)))), some (vA d11), some (vI (0 : Int))] j2.2).bind fun q13 =>
(if q13.1 = 2 then
((sget q13.2.1 0).bind (getI .i64)).bind fun n14 =>
some ((vI n14), q13.2.2)
else
none)) : Option (Value × AH)) := by kernel_rfl
theorem r128 {base : Nat} {v0_0 : Int} {v0_1 : Int} {v0_2 : ByteArray} {v0_3 : Option Addr} {v0_3n : Nat} {v1 : Int} {v2 : Int} {h : AH} {r : Value × AH} (hx : (nw1 h 38 [(vI v0_0), (vI v0_1), (vT v0_2), (vL v0_3 v0_3n)] fun h1 =>
((if (decide (v1 < (1 : Int))) = true then
some (.inl ([some (vI v1), some (vI v2), some (vP (List.length h)), some (.bool true)], h1))
else
(if (decide (v2 < (1 : Int))) = true then
some (.inl ([some (vI v1), some (vI v2), some (vP (List.length h)), some (.bool true)], h1))
else
c_IITL h1 (List.length h) 0 fun n3 n4 s5 l6 =>
(run (Et base) 153 [(.agg #[(vI n3), (vI n4), (vT s5), (vL l6.1 l6.2)])] h1).bind fun r7 =>
((some r7.1).bind getB).bind fun b8 =>
some (.inl ([some (vI v1), some (vI v2), some (vP (List.length h)), some (.bool (!b8))], r7.2))))).bind fun j2 => joinK j2 fun j2 =>
j_IIAB j2.1 fun n9 n10 d11 b12 =>
(if b12 = true then
some ((vI (-1 : Int)), j2.2)
else
(loopL (B128_0 base) [some (vI n9), some (vI (IntKind.wrap .i64 (n10 - (1 : Int)))), some (vA d11), some (vI (0 : Int))] j2.2).bind fun q13 =>
(if q13.1 = 2 then
((sget q13.2.1 0).bind (getI .i64)).bind fun n14 =>
some ((vI n14), q13.2.2)
else
none))) = some r) : run (Et base) 128 [(.agg #[(vI v0_0), (vI v0_1), (vT v0_2), (vL v0_3 v0_3n)]), (vI v1), (vI v2)] h = some r := run_i Try.func128 (by kernel_rfl) ((f128_eq base v0_0 v0_1 v0_2 v0_3 v0_3n v1 v2 h).trans hx)
/-! spec.l9Atom (gates 0) -/
theorem f131_eq (base : Nat) (v0 : ByteArray) (h : AH) : exFun (Et base) (run (Et base)) loopL a131 Try.f131 [(vT v0)] h =
((some (h ++ [some ⟨[(.int .i64 0), (.int .i64 0), (.string ⟨#[]⟩), (.slice none 0 0)], 38⟩])).bind fun h1 =>
(wr base h1 (List.length h) 0 [(.int .i64 (2 : Int)), (.int .i64 (0 : Int)), (.string v0), (.slice none 0 0)]).bind fun h2 =>
((cell h2 (List.length h) 0).bind (getI .i64)).bind fun n3 =>
((cell h2 (List.length h) 1).bind (getI .i64)).bind fun n4 =>
((cell h2 (List.length h) 2).bind getStr).bind fun s5 =>
((cell h2 (List.length h) 3).bind getS).bind fun l6 =>
some ((.agg #[(.int .i64 n3), (.int .i64 n4), (.string s5), (.slice l6.1 l6.2 l6.2)]), h2) : Option (Value × AH)) := by kernel_rfl
theorem r131 {base : Nat} {v0 : ByteArray} {h : AH} {r : Value × AH} (hx : ((some (h ++ [some ⟨[(.int .i64 0), (.int .i64 0), (.string ⟨#[]⟩), (.slice none 0 0)], 38⟩])).bind fun h1 =>
(wr base h1 (List.length h) 0 [(.int .i64 (2 : Int)), (.int .i64 (0 : Int)), (.string v0), (.slice none 0 0)]).bind fun h2 =>
((cell h2 (List.length h) 0).bind (getI .i64)).bind fun n3 =>
((cell h2 (List.length h) 1).bind (getI .i64)).bind fun n4 =>
((cell h2 (List.length h) 2).bind getStr).bind fun s5 =>
((cell h2 (List.length h) 3).bind getS).bind fun l6 =>
some ((.agg #[(.int .i64 n3), (.int .i64 n4), (.string s5), (.slice l6.1 l6.2 l6.2)]), h2)) = some r) : run (Et base) 131 [(vT v0)] h = some r := run_i Try.func131 (by kernel_rfl) ((f131_eq base v0 h).trans hx)
/-! spec.l9Pid (gates 0) -/
theorem f132_eq (base : Nat) (v0 : Int) (h : AH) : exFun (Et base) (run (Et base)) loopL a132 Try.f132 [(vI v0)] h =
((some (h ++ [some ⟨[(.int .i64 0), (.int .i64 0), (.string ⟨#[]⟩), (.slice none 0 0)], 38⟩])).bind fun h1 =>
(wr base h1 (List.length h) 0 [(.int .i64 (3 : Int)), (.int .i64 v0), (.string (⟨#[]⟩ : ByteArray)), (.slice none 0 0)]).bind fun h2 =>
((cell h2 (List.length h) 0).bind (getI .i64)).bind fun n3 =>
((cell h2 (List.length h) 1).bind (getI .i64)).bind fun n4 =>
((cell h2 (List.length h) 2).bind getStr).bind fun s5 =>
((cell h2 (List.length h) 3).bind getS).bind fun l6 =>
some ((.agg #[(.int .i64 n3), (.int .i64 n4), (.string s5), (.slice l6.1 l6.2 l6.2)]), h2) : Option (Value × AH)) := by kernel_rfl
theorem r132 {base : Nat} {v0 : Int} {h : AH} {r : Value × AH} (hx : ((some (h ++ [some ⟨[(.int .i64 0), (.int .i64 0), (.string ⟨#[]⟩), (.slice none 0 0)], 38⟩])).bind fun h1 =>
(wr base h1 (List.length h) 0 [(.int .i64 (3 : Int)), (.int .i64 v0), (.string (⟨#[]⟩ : ByteArray)), (.slice none 0 0)]).bind fun h2 =>
((cell h2 (List.length h) 0).bind (getI .i64)).bind fun n3 =>
((cell h2 (List.length h) 1).bind (getI .i64)).bind fun n4 =>
((cell h2 (List.length h) 2).bind getStr).bind fun s5 =>
((cell h2 (List.length h) 3).bind getS).bind fun l6 =>
some ((.agg #[(.int .i64 n3), (.int .i64 n4), (.string s5), (.slice l6.1 l6.2 l6.2)]), h2)) = some r) : run (Et base) 132 [(vI v0)] h = some r := run_i Try.func132 (by kernel_rfl) ((f132_eq base v0 h).trans hx)
end Go.Proofs.Ytolcnednfbbnnaa.Am
