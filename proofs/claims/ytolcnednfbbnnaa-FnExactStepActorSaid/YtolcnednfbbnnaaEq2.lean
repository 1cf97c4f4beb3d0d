/- What each of these functions comes to on the abstract machine, one equation a function and one a loop.
Conditions: none. -/
import Derived.Test.YtolcnednfbbnnaaTb
set_option linter.unusedVariables false
set_option maxRecDepth 100000
namespace Go.Proofs.Ytolcnednfbbnnaa.Am
open Go Go.RowKit
/-! laws.toTermS (gates 0) -/
noncomputable def B45_0 (base : Nat) : Body := fun l h => lay s45_0 l fun s => exCode (Et base) (run (Et base)) loopL a45_0 (subC [1, 1, 0, 1, 0, 0] (bodyC Try.f45)) s h (keepK s45_0 e45_0)
theorem B45_0_eq (base : Nat) (v0 : Option Addr) (v0n : Nat) (v3 : Option Addr) (v3n : Nat) (v4 : Int) (h : AH) : B45_0 base [some (vL v0 v0n), some (vL v3 v3n), some (vI v4)] h =
((if (decide (v4 < ((v0n : Nat) : Int))) = true then
(if 0 ≤ v4 ∧ v4 < ((v0n : Nat) : Int) then
((v0 : Option Addr)).bind fun a1 =>
((cell h a1.block (a1.off + Int.toNat v4 * 4)).bind (getI .i64)).bind fun n2 =>
((cell h a1.block ((a1.off + Int.toNat v4 * 4) + 1)).bind (getI .i64)).bind fun n3 =>
((cell h a1.block (((a1.off + Int.toNat v4 * 4) + 1) + 1)).bind getStr).bind fun s4 =>
((cell h a1.block ((((a1.off + Int.toNat v4 * 4) + 1) + 1) + 1)).bind getS).bind fun l5 =>
(run (Et base) 11 [(.agg #[(.int .i64 n2), (.int .i64 n3), (.string s4), (.slice l5.1 l5.2 l5.2)])] h).bind fun r6 =>
((some r6.1).bind (getAgg 4)).bind fun l7 =>
((l7[0]?).bind (getI .i64)).bind fun n8 =>
((l7[1]?).bind (getI .i64)).bind fun n9 =>
((l7[2]?).bind getStr).bind fun s10 =>
((l7[3]?).bind getS).bind fun l11 =>
(if 0 ≤ v4 ∧ v4 < ((v3n : Nat) : Int) then
((v3 : Option Addr)).bind fun a12 =>
(wr base r6.2 a12.block (a12.off + Int.toNat v4 * 4) [(.int .i64 n8), (.int .i64 n9), (.string s10), (.slice l11.1 l11.2 l11.2)]).bind fun h13 =>
some (0, [some (.slice v0 v0n v0n), some (.slice v3 v3n v3n), some (.int .i64 (IntKind.wrap .i64 (v4 + (1 : Int))))], h13)
else none)
else none)
else
some (2, [some (.slice v3 v3n v3n)], h)) : Option (Nat × Slots × AH)) := by kernel_rfl
theorem f45_eq (base : Nat) (v0 : Option Addr) (v0n : Nat) (h : AH) : exFun (Et base) (run (Et base)) loopL a45 Try.f45 [(vL v0 v0n)] h =
((if ((v0n : Nat) : Int) = ((v0n : Nat) : Int) ∧ 0 ≤ ((v0n : Nat) : Int) ∧ ((v0n : Nat) : Int) * 56 ≤ 140737488355328 ∧ ((v0n : Nat) : Int) ≤ 140737488355328 then
(some (h ++ [some ⟨rep [(.int .i64 0), (.int .i64 0), (.string ⟨#[]⟩), (.slice none 0 0)] (Int.toNat ((v0n : Nat) : Int)), 38⟩])).bind fun h1 =>
(loopL (B45_0 base) [some (.slice v0 v0n v0n), some (.slice (some ⟨(List.length h), 0, none⟩) (Int.toNat ((v0n : Nat) : Int)) (Int.toNat ((v0n : Nat) : Int))), some (.int .i64 (0 : Int))] h1).bind fun q2 =>
(if q2.1 = 2 then
((sget q2.2.1 0).bind getS).bind fun l3 =>
some ((.slice l3.1 l3.2 l3.2), q2.2.2)
else
none)
else none) : Option (Value × AH)) := by kernel_rfl
theorem r45 {base : Nat} {v0 : Option Addr} {v0n : Nat} {h : AH} {r : Value × AH} (hx : ((if ((v0n : Nat) : Int) = ((v0n : Nat) : Int) ∧ 0 ≤ ((v0n : Nat) : Int) ∧ ((v0n : Nat) : Int) * 56 ≤ 140737488355328 ∧ ((v0n : Nat) : Int) ≤ 140737488355328 then
(some (h ++ [some ⟨rep [(.int .i64 0), (.int .i64 0), (.string ⟨#[]⟩), (.slice none 0 0)] (Int.toNat ((v0n : Nat) : Int)), 38⟩])).bind fun h1 =>
(loopL (B45_0 base) [some (.slice v0 v0n v0n), some (.slice (some ⟨(List.length h), 0, none⟩) (Int.toNat ((v0n : Nat) : Int)) (Int.toNat ((v0n : Nat) : Int))), some (.int .i64 (0 : Int))] h1).bind fun q2 =>
(if q2.1 = 2 then
((sget q2.2.1 0).bind getS).bind fun l3 =>
some ((.slice l3.1 l3.2 l3.2), q2.2.2)
else
none)
else none)) = some r) : run (Et base) 45 [(vL v0 v0n)] h = some r := run_i Try.func45 (by kernel_rfl) ((f45_eq base v0 v0n h).trans hx)
/-! laws.eqIns (gates 0) -/
theorem f50_eq (base : Nat) (v0_0 : Int) (v0_1 : Int) (v0_2 : Int) (v0_3 : Int) (v0_4 : Int) (v0_5 : ByteArray) (v1_0 : Int) (v1_1 : Int) (v1_2 : Int) (v1_3 : Int) (v1_4 : Int) (v1_5 : ByteArray) (h : AH) : exFun (Et base) (run (Et base)) loopL a50 Try.f50 [(.agg #[(vI v0_0), (vI v0_1), (vI v0_2), (vI v0_3), (vI v0_4), (vT v0_5)]), (.agg #[(vI v1_0), (vI v1_1), (vI v1_2), (vI v1_3), (vI v1_4), (vT v1_5)])] h =
((some (h ++ [some ⟨[(.int .i64 v0_0), (.int .i64 v0_1), (.int .i64 v0_2), (.int .i64 v0_3), (.int .i64 v0_4), (.string v0_5)], 82⟩])).bind fun h1 =>
(some (h1 ++ [some ⟨[(.int .i64 v1_0), (.int .i64 v1_1), (.int .i64 v1_2), (.int .i64 v1_3), (.int .i64 v1_4), (.string v1_5)], 82⟩])).bind fun h2 =>
((cell h2 (List.length h) 0).bind (getI .i64)).bind fun n3 =>
((cell h2 (List.length h1) 0).bind (getI .i64)).bind fun n4 =>
(if (n3 != n4) = true then
some ((.bool false), h2)
else
((cell h2 (List.length h) 1).bind (getI .i64)).bind fun n5 =>
((cell h2 (List.length h1) 1).bind (getI .i64)).bind fun n6 =>
(if (n5 != n6) = true then
some ((.bool false), h2)
else
((cell h2 (List.length h) 2).bind (getI .i64)).bind fun n7 =>
((cell h2 (List.length h1) 2).bind (getI .i64)).bind fun n8 =>
(if (n7 != n8) = true then
some ((.bool false), h2)
else
((cell h2 (List.length h) 3).bind (getI .i64)).bind fun n9 =>
((cell h2 (List.length h1) 3).bind (getI .i64)).bind fun n10 =>
(if (n9 != n10) = true then
some ((.bool false), h2)
else
((cell h2 (List.length h) 4).bind (getI .i64)).bind fun n11 =>
((cell h2 (List.length h1) 4).bind (getI .i64)).bind fun n12 =>
(if (n11 != n12) = true then
some ((.bool false), h2)
else
((cell h2 (List.length h) 5).bind getStr).bind fun s13 =>
((cell h2 (List.length h1) 5).bind getStr).bind fun s14 =>
(if (!(s13.toList == s14.toList)) = true then
some ((.bool false), h2)
else
some ((.bool true), h2))))))) : Option (Value × AH)) := by kernel_rfl
theorem r50 {base : Nat} {v0_0 : Int} {v0_1 : Int} {v0_2 : Int} {v0_3 : Int} {v0_4 : Int} {v0_5 : ByteArray} {v1_0 : Int} {v1_1 : Int} {v1_2 : Int} {v1_3 : Int} {v1_4 : Int} {v1_5 : ByteArray} {h : AH} {r : Value × AH} (hx : ((some (h ++ [some ⟨[(.int .i64 v0_0), (.int .i64 v0_1), (.int .i64 v0_2), (.int .i64 v0_3), (.int .i64 v0_4), (.string v0_5)], 82⟩])).bind fun h1 =>
(some (h1 ++ [some ⟨[(.int .i64 v1_0), (.int .i64 v1_1), (.int .i64 v1_2), (.int .i64 v1_3), (.int .i64 v1_4), (.string v1_5)], 82⟩])).bind fun h2 =>
((cell h2 (List.length h) 0).bind (getI .i64)).bind fun n3 =>
((cell h2 (List.length h1) 0).bind (getI .i64)).bind fun n4 =>
(if (n3 != n4) = true then
some ((.bool false), h2)
else
((cell h2 (List.length h) 1).bind (getI .i64)).bind fun n5 =>
((cell h2 (List.length h1) 1).bind (getI .i64)).bind fun n6 =>
(if (n5 != n6) = true then
some ((.bool false), h2)
else
((cell h2 (List.length h) 2).bind (getI .i64)).bind fun n7 =>
((cell h2 (List.length h1) 2).bind (getI .i64)).bind fun n8 =>
(if (n7 != n8) = true then
some ((.bool false), h2)
else
((cell h2 (List.length h) 3).bind (getI .i64)).bind fun n9 =>
((cell h2 (List.length h1) 3).bind (getI .i64)).bind fun n10 =>
(if (n9 != n10) = true then
some ((.bool false), h2)
else
((cell h2 (List.length h) 4).bind (getI .i64)).bind fun n11 =>
((cell h2 (List.length h1) 4).bind (getI .i64)).bind fun n12 =>
(if (n11 != n12) = true then
some ((.bool false), h2)
else
((cell h2 (List.length h) 5).bind getStr).bind fun s13 =>
((cell h2 (List.length h1) 5).bind getStr).bind fun s14 =>
(if (!(s13.toList == s14.toList)) = true then
some ((.bool false), h2)
else
some ((.bool true), h2)))))))) = some r) : run (Et base) 50 [(.agg #[(vI v0_0), (vI v0_1), (vI v0_2), (vI v0_3), (vI v0_4), (vT v0_5)]), (.agg #[(vI v1_0), (vI v1_1), (vI v1_2), (vI v1_3), (vI v1_4), (vT v1_5)])] h = some r := run_i Try.func50 (by kernel_rfl) ((f50_eq base v0_0 v0_1 v0_2 v0_3 v0_4 v0_5 v1_0 v1_1 v1_2 v1_3 v1_4 v1_5 h).trans hx)
/-! laws.eqTermS (gates 0) -/
noncomputable def B51_0 (base : Nat) : Body := fun l h => lay s51_0 l fun s => exCode (Et base) (run (Et base)) loopL a51_0 (subC [1, 1, 0, 1, 0, 0] (bodyC Try.f51)) s h (keepK s51_0 e51_0)
theorem B51_0_eq (base : Nat) (v0 : Option Addr) (v0n : Nat) (v1 : Option Addr) (v1n : Nat) (v5 : Int) (h : AH) : B51_0 base [some (vL v0 v0n), some (vL v1 v1n), some (vI v5)] h =
((if (decide (v5 < ((v0n : Nat) : Int))) = true then
(if 0 ≤ v5 ∧ v5 < ((v0n : Nat) : Int) then
((v0 : Option Addr)).bind fun a1 =>
((cell h a1.block (a1.off + Int.toNat v5 * 4)).bind (getI .i64)).bind fun n2 =>
((cell h a1.block ((a1.off + Int.toNat v5 * 4) + 1)).bind (getI .i64)).bind fun n3 =>
((cell h a1.block (((a1.off + Int.toNat v5 * 4) + 1) + 1)).bind getStr).bind fun s4 =>
((cell h a1.block ((((a1.off + Int.toNat v5 * 4) + 1) + 1) + 1)).bind getS).bind fun l5 =>
(if 0 ≤ v5 ∧ v5 < ((v1n : Nat) : Int) then
((v1 : Option Addr)).bind fun a6 =>
((cell h a6.block (a6.off + Int.toNat v5 * 4)).bind (getI .i64)).bind fun n7 =>
((cell h a6.block ((a6.off + Int.toNat v5 * 4) + 1)).bind (getI .i64)).bind fun n8 =>
((cell h a6.block (((a6.off + Int.toNat v5 * 4) + 1) + 1)).bind getStr).bind fun s9 =>
((cell h a6.block ((((a6.off + Int.toNat v5 * 4) + 1) + 1) + 1)).bind getS).bind fun l10 =>
(run (Et base) 15 [(.agg #[(.int .i64 n2), (.int .i64 n3), (.string s4), (.slice l5.1 l5.2 l5.2)]), (.agg #[(.int .i64 n7), (.int .i64 n8), (.string s9), (.slice l10.1 l10.2 l10.2)])] h).bind fun r11 =>
((some r11.1).bind getB).bind fun b12 =>
(if (!b12) = true then
some (1, [some (.bool false)], r11.2)
else
some (0, [some (.slice v0 v0n v0n), some (.slice v1 v1n v1n), some (.int .i64 (IntKind.wrap .i64 (v5 + (1 : Int))))], r11.2))
else none)
else none)
else
some (2, [], h)) : Option (Nat × Slots × AH)) := by kernel_rfl
theorem f51_eq (base : Nat) (v0 : Option Addr) (v0n : Nat) (v1 : Option Addr) (v1n : Nat) (h : AH) : exFun (Et base) (run (Et base)) loopL a51 Try.f51 [(vL v0 v0n), (vL v1 v1n)] h =
((if (((v0n : Nat) : Int) != ((v1n : Nat) : Int)) = true then
some ((.bool false), h)
else
(loopL (B51_0 base) [some (.slice v0 v0n v0n), some (.slice v1 v1n v1n), some (.int .i64 (0 : Int))] h).bind fun q1 =>
(if q1.1 = 1 then
((sget q1.2.1 0).bind getB).bind fun b2 =>
some ((.bool b2), q1.2.2)
else
(if q1.1 = 2 then
some ((.bool true), q1.2.2)
else
none))) : Option (Value × AH)) := by kernel_rfl
theorem r51 {base : Nat} {v0 : Option Addr} {v0n : Nat} {v1 : Option Addr} {v1n : Nat} {h : AH} {r : Value × AH} (hx : ((if (((v0n : Nat) : Int) != ((v1n : Nat) : Int)) = true then
some ((.bool false), h)
else
(loopL (B51_0 base) [some (.slice v0 v0n v0n), some (.slice v1 v1n v1n), some (.int .i64 (0 : Int))] h).bind fun q1 =>
(if q1.1 = 1 then
((sget q1.2.1 0).bind getB).bind fun b2 =>
some ((.bool b2), q1.2.2)
else
(if q1.1 = 2 then
some ((.bool true), q1.2.2)
else
none)))) = some r) : run (Et base) 51 [(vL v0 v0n), (vL v1 v1n)] h = some r := run_i Try.func51 (by kernel_rfl) ((f51_eq base v0 v0n v1 v1n h).trans hx)
/-! laws.markText (gates 0) -/
noncomputable def B52_0 (base : Nat) : Body := fun l h => lay s52_0 l fun s => exCode (Et base) (run (Et base)) loopL a52_0 (subC [1, 1, 1, 0, 0, 0] (bodyC Try.f52)) s h (keepK s52_0 e52_0)
theorem B52_0_eq (base : Nat) (v0 : Int) (v3 : ByteArray) (h : AH) : B52_0 base [some (vI v0), some (vT v3)] h =
((if (decide (v0 > (0 : Int))) = true then
(some (h ++ [some ⟨[(.int .u8 (IntKind.wrap .u8 (IntKind.wrap .i64 ((48 : Int) + (Int.tmod v0 (10 : Int))))))], 5⟩])).bind fun h1 =>
((rawAt h1 (some ⟨(List.length h), 0, none⟩) 1).bind u8s).bind fun z2 =>
(if (bstr z2).size + v3.size ≤ 9223372036854775807 then
some (0, [some (.int .i64 (IntKind.wrap .i64 (Int.tdiv v0 (10 : Int)))), some (.string ((bstr z2) ++ v3))], h1)
else none)
else
some (2, [some (.string v3)], h)) : Option (Nat × Slots × AH)) := by kernel_rfl
theorem f52_eq (base : Nat) (v0 : Int) (h : AH) : exFun (Et base) (run (Et base)) loopL a52 Try.f52 [(vI v0)] h =
((if (decide (v0 ≤ (0 : Int))) = true then
some ((.string (⟨#[109, 48]⟩ : ByteArray)), h)
else
(loopL (B52_0 base) [some (.int .i64 v0), some (.string (⟨#[]⟩ : ByteArray))] h).bind fun q1 =>
(if q1.1 = 2 then
((sget q1.2.1 0).bind getStr).bind fun s2 =>
(if (⟨#[109]⟩ : ByteArray).size + s2.size ≤ 9223372036854775807 then
some ((.string ((⟨#[109]⟩ : ByteArray) ++ s2)), q1.2.2)
else none)
else
none)) : Option (Value × AH)) := by kernel_rfl
theorem r52 {base : Nat} {v0 : Int} {h : AH} {r : Value × AH} (hx : ((if (decide (v0 ≤ (0 : Int))) = true then
some ((.string (⟨#[109, 48]⟩ : ByteArray)), h)
else
(loopL (B52_0 base) [some (.int .i64 v0), some (.string (⟨#[]⟩ : ByteArray))] h).bind fun q1 =>
(if q1.1 = 2 then
((sget q1.2.1 0).bind getStr).bind fun s2 =>
(if (⟨#[109]⟩ : ByteArray).size + s2.size ≤ 9223372036854775807 then
some ((.string ((⟨#[109]⟩ : ByteArray) ++ s2)), q1.2.2)
else none)
else
none))) = some r) : run (Et base) 52 [(vI v0)] h = some r := run_i Try.func52 (by kernel_rfl) ((f52_eq base v0 h).trans hx)
/-! laws.markTermS (gates 0) -/
noncomputable def B53_0 (base : Nat) : Body := fun l h => lay s53_0 l fun s => exCode (Et base) (run (Et base)) loopL a53_0 (subC [1, 0, 1, 0, 0] (bodyC Try.f53)) s h (keepK s53_0 e53_0)
theorem B53_0_eq (base : Nat) (v0 : Option Addr) (v0n : Nat) (v1 : Int) (v5 : Int) (h : AH) : B53_0 base [some (vL v0 v0n), some (vI v1), some (vI v5)] h =
((if (decide (v5 < ((v0n : Nat) : Int))) = true then
(if 0 ≤ v5 ∧ v5 < ((v0n : Nat) : Int) then
((v0 : Option Addr)).bind fun a1 =>
(wr base h a1.block ((a1.off + Int.toNat v5 * 4) + 0) [(.int .i64 v1)]).bind fun h2 =>
(if 0 ≤ v5 ∧ v5 < ((v0n : Nat) : Int) then
((v0 : Option Addr)).bind fun a3 =>
(wr base h2 a3.block ((a3.off + Int.toNat v5 * 4) + 1) [(.int .i64 (IntKind.wrap .i64 (v1 + (1 : Int))))]).bind fun h4 =>
(run (Et base) 52 [(.int .i64 (IntKind.wrap .i64 ((IntKind.wrap .i64 (v1 + (1 : Int))) + (1 : Int))))] h4).bind fun r5 =>
((some r5.1).bind getStr).bind fun s6 =>
(if 0 ≤ v5 ∧ v5 < ((v0n : Nat) : Int) then
((v0 : Option Addr)).bind fun a7 =>
(wr base r5.2 a7.block ((a7.off + Int.toNat v5 * 4) + 2) [(.string s6)]).bind fun h8 =>
(if 0 ≤ v5 ∧ v5 < ((v0n : Nat) : Int) then
((v0 : Option Addr)).bind fun a9 =>
((cell h8 a9.block ((a9.off + Int.toNat v5 * 4) + 3)).bind getS).bind fun l10 =>
(run (Et base) 53 [(.slice l10.1 l10.2 l10.2), (.int .i64 (IntKind.wrap .i64 ((IntKind.wrap .i64 ((IntKind.wrap .i64 (v1 + (1 : Int))) + (1 : Int))) + (1 : Int))))] h8).bind fun r11 =>
((some r11.1).bind (getI .i64)).bind fun n12 =>
some (0, [some (.slice v0 v0n v0n), some (.int .i64 n12), some (.int .i64 (IntKind.wrap .i64 (v5 + (1 : Int))))], r11.2)
else none)
else none)
else none)
else none)
else
some (2, [some (.int .i64 v1)], h)) : Option (Nat × Slots × AH)) := by kernel_rfl
theorem f53_eq (base : Nat) (v0 : Option Addr) (v0n : Nat) (v1 : Int) (h : AH) : exFun (Et base) (run (Et base)) loopL a53 Try.f53 [(vL v0 v0n), (vI v1)] h =
((loopL (B53_0 base) [some (.slice v0 v0n v0n), some (.int .i64 v1), some (.int .i64 (0 : Int))] h).bind fun q1 =>
(if q1.1 = 2 then
((sget q1.2.1 0).bind (getI .i64)).bind fun n2 =>
some ((.int .i64 n2), q1.2.2)
else
none) : Option (Value × AH)) := by kernel_rfl
theorem r53 {base : Nat} {v0 : Option Addr} {v0n : Nat} {v1 : Int} {h : AH} {r : Value × AH} (hx : ((loopL (B53_0 base) [some (.slice v0 v0n v0n), some (.int .i64 v1), some (.int .i64 (0 : Int))] h).bind fun q1 =>
(if q1.1 = 2 then
((sget q1.2.1 0).bind (getI .i64)).bind fun n2 =>
some ((.int .i64 n2), q1.2.2)
else
none)) = some r) : run (Et base) 53 [(vL v0 v0n), (vI v1)] h = some r := run_i Try.func53 (by kernel_rfl) ((f53_eq base v0 v0n v1 h).trans hx)
/-! laws.szIntS (gates 0) -/
theorem f59_eq (base : Nat) (v0 : Option Addr) (v0n : Nat) (v1 : Int) (h : AH) : exFun (Et base) (run (Et base)) loopL a59 Try.f59 [(vL v0 v0n), (vI v1)] h =
((if (decide ((IntKind.wrap .i64 (v1 - ((v0n : Nat) : Int))) < (0 : Int))) = true then
some ((.int .i64 (-1 : Int)), h)
else
some ((.int .i64 (IntKind.wrap .i64 (v1 - ((v0n : Nat) : Int)))), h)) : Option (Value × AH)) := by kernel_rfl
theorem r59 {base : Nat} {v0 : Option Addr} {v0n : Nat} {v1 : Int} {h : AH} {r : Value × AH} (hx : ((if (decide ((IntKind.wrap .i64 (v1 - ((v0n : Nat) : Int))) < (0 : Int))) = true then
some ((.int .i64 (-1 : Int)), h)
else
some ((.int .i64 (IntKind.wrap .i64 (v1 - ((v0n : Nat) : Int)))), h))) = some r) : run (Et base) 59 [(vL v0 v0n), (vI v1)] h = some r := run_i Try.func59 (by kernel_rfl) ((f59_eq base v0 v0n v1 h).trans hx)
/-! spec.ActorOk (gates 0) -/
theorem f60_eq (base : Nat) (v0 : Option Addr) (v0n : Nat) (v1_0 : Int) (v1_1 : Int) (v1_2 : Option Addr) (v1_2n : Nat) (v1_3 : Option Addr) (v1_3n : Nat) (v1_4 : Option Addr) (v1_4n : Nat) (h : AH) : exFun (Et base) (run (Et base)) loopL a60 Try.f60 [(vL v0 v0n), (.agg #[(vI v1_0), (vI v1_1), (vL v1_2 v1_2n), (vL v1_3 v1_3n), (vL v1_4 v1_4n)])] h =
(nw1 h 52 [(vI v1_0), (vI v1_1), (vL v1_2 v1_2n), (vL v1_3 v1_3n), (vL v1_4 v1_4n)] fun h1 =>
((run (Et base) 89 [(vL v0 v0n)] h1).bind fun r3 =>
((some r3.1).bind getB).bind fun b4 =>
(if (!b4) = true then
some (.inl ([some (vP (List.length h)), some (.bool true)], r3.2))
else
((cell r3.2 (List.length h) 0).bind (getI .i64)).bind fun n5 =>
(run (Et base) 61 [(vI n5), (vI (1 : Int)), (vI (99999 : Int))] r3.2).bind fun r6 =>
((some r6.1).bind getB).bind fun b7 =>
(if (!b7) = true then
some (.inl ([some (vP (List.length h)), some (.bool true)], r6.2))
else
((cell r6.2 (List.length h) 1).bind (getI .i64)).bind fun n8 =>
(run (Et base) 61 [(vI n8), (vI (0 : Int)), (vI (IntKind.wrap .i64 (((v0n : Nat) : Int) - (1 : Int))))] r6.2).bind fun r9 =>
((some r9.1).bind getB).bind fun b10 =>
(if (!b10) = true then
some (.inl ([some (vP (List.length h)), some (.bool true)], r9.2))
else
((cell r9.2 (List.length h) 2).bind getS).bind fun l11 =>
(if (((l11.2 : Nat) : Int) != (8 : Int)) = true then
some (.inl ([some (vP (List.length h)), some (.bool true)], r9.2))
else
((cell r9.2 (List.length h) 3).bind getS).bind fun l12 =>
some (.inl ([some (vP (List.length h)), some (.bool (decide (((l12.2 : Nat) : Int) > (30 : Int))))], r9.2))))))).bind fun j2 => joinK j2 fun j2 =>
j_AB j2.1 fun d13 b14 =>
(if b14 = true then
some ((.bool false), j2.2)
else
((cell j2.2 d13.block (d13.off + 2)).bind getS).bind fun l15 =>
(run (Et base) 104 [(vL l15.1 l15.2)] j2.2).bind fun r16 =>
((some r16.1).bind getB).bind fun b17 =>
(if b17 = true then
((cell r16.2 d13.block (d13.off + 3)).bind getS).bind fun l18 =>
(run (Et base) 104 [(vL l18.1 l18.2)] r16.2).bind fun r19 =>
((some r19.1).bind getB).bind fun b20 =>
(if b20 = true then
((cell r19.2 d13.block (d13.off + 4)).bind getS).bind fun l21 =>
((cell r19.2 d13.block (d13.off + 0)).bind (getI .i64)).bind fun n22 =>
(run (Et base) 105 [(vL l21.1 l21.2), (vI n22)] r19.2).bind fun r23 =>
((some r23.1).bind getB).bind fun b24 =>
some ((.bool b24), r23.2)
else
some ((.bool false), r19.2))
else
some ((.bool false), r16.2))) : Option (Value × AH)) := by kernel_rfl
theorem r60 {base : Nat} {v0 : Option Addr} {v0n : Nat} {v1_0 : Int} {v1_1 : Int} {v1_2 : Option Addr} {v1_2n : Nat} {v1_3 : Option Addr} {v1_3n : Nat} {v1_4 : Option Addr} {v1_4n : Nat} {h : AH} {r : Value × AH} (hx : (nw1 h 52 [(vI v1_0), (vI v1_1), (vL v1_2 v1_2n), (vL v1_3 v1_3n), (vL v1_4 v1_4n)] fun h1 =>
((run (Et base) 89 [(vL v0 v0n)] h1).bind fun r3 =>
((some r3.1).bind getB).bind fun b4 =>
(if (!b4) = true then
some (.inl ([some (vP (List.length h)), some (.bool true)], r3.2))
else
((cell r3.2 (List.length h) 0).bind (getI .i64)).bind fun n5 =>
(run (Et base) 61 [(vI n5), (vI (1 : Int)), (vI (99999 : Int))] r3.2).bind fun r6 =>
((some r6.1).bind getB).bind fun b7 =>
(if (!b7) = true then
some (.inl ([some (vP (List.length h)), some (.bool true)], r6.2))
else
((cell r6.2 (List.length h) 1).bind (getI .i64)).bind fun n8 =>
(run (Et base) 61 [(vI n8), (vI (0 : Int)), (vI (IntKind.wrap .i64 (((v0n : Nat) : Int) - (1 : Int))))] r6.2).bind fun r9 =>
((some r9.1).bind getB).bind fun b10 =>
(if (!b10) = true then
some (.inl ([some (vP (List.length h)), some (.bool true)], r9.2))
else
((cell r9.2 (List.length h) 2).bind getS).bind fun l11 =>
(if (((l11.2 : Nat) : Int) != (8 : Int)) = true then
some (.inl ([some (vP (List.length h)), some (.bool true)], r9.2))
else
((cell r9.2 (List.length h) 3).bind getS).bind fun l12 =>
some (.inl ([some (vP (List.length h)), some (.bool (decide (((l12.2 : Nat) : Int) > (30 : Int))))], r9.2))))))).bind fun j2 => joinK j2 fun j2 =>
j_AB j2.1 fun d13 b14 =>
(if b14 = true then
some ((.bool false), j2.2)
else
((cell j2.2 d13.block (d13.off + 2)).bind getS).bind fun l15 =>
(run (Et base) 104 [(vL l15.1 l15.2)] j2.2).bind fun r16 =>
((some r16.1).bind getB).bind fun b17 =>
(if b17 = true then
((cell r16.2 d13.block (d13.off + 3)).bind getS).bind fun l18 =>
(run (Et base) 104 [(vL l18.1 l18.2)] r16.2).bind fun r19 =>
((some r19.1).bind getB).bind fun b20 =>
(if b20 = true then
((cell r19.2 d13.block (d13.off + 4)).bind getS).bind fun l21 =>
((cell r19.2 d13.block (d13.off + 0)).bind (getI .i64)).bind fun n22 =>
(run (Et base) 105 [(vL l21.1 l21.2), (vI n22)] r19.2).bind fun r23 =>
((some r23.1).bind getB).bind fun b24 =>
some ((.bool b24), r23.2)
else
some ((.bool false), r19.2))
else
some ((.bool false), r16.2)))) = some r) : run (Et base) 60 [(vL v0 v0n), (.agg #[(vI v1_0), (vI v1_1), (vL v1_2 v1_2n), (vL v1_3 v1_3n), (vL v1_4 v1_4n)])] h = some r := run_i Try.func60 (by kernel_rfl) ((f60_eq base v0 v0n v1_0 v1_1 v1_2 v1_2n v1_3 v1_3n v1_4 v1_4n h).trans hx)
/-! spec.l1In (gates 0) -/
theorem f61_eq (base : Nat) (v0 : Int) (v1 : Int) (v2 : Int) (h : AH) : exFun (Et base) (run (Et base)) loopL a61 Try.f61 [(vI v0), (vI v1), (vI v2)] h =
((if (decide (v0 ≥ v1)) = true then
some ((.bool (decide (v0 ≤ v2))), h)
else
some ((.bool false), h)) : Option (Value × AH)) := by kernel_rfl
theorem r61 {base : Nat} {v0 : Int} {v1 : Int} {v2 : Int} {h : AH} {r : Value × AH} (hx : ((if (decide (v0 ≥ v1)) = true then
some ((.bool (decide (v0 ≤ v2))), h)
else
some ((.bool false), h))) = some r) : run (Et base) 61 [(vI v0), (vI v1), (vI v2)] h = some r := run_i Try.func61 (by kernel_rfl) ((f61_eq base v0 v1 v2 h).trans hx)
/-! spec.l9Copy (gates 14) -/
theorem f62_eq (base : Nat) (v0_0 : Int) (v0_1 : Int) (v0_2 : Option Addr) (v0_2n : Nat) (v0_3 : Option Addr) (v0_3n : Nat) (v0_4 : Option Addr) (v0_4n : Nat) (h : AH) : exFun (Et base) (run (Et base)) loopL a62 Try.f62 [(.agg #[(vI v0_0), (vI v0_1), (vL v0_2 v0_2n), (vL v0_3 v0_3n), (vL v0_4 v0_4n)])] h =
(nw1 h 52 [(vI v0_0), (vI v0_1), (vL v0_2 v0_2n), (vL v0_3 v0_3n), (vL v0_4 v0_4n)] fun h1 =>
nw1 h1 52 [(vI 0), (vI 0), (vL none 0), (vL none 0), (vL none 0)] fun h2 =>
c_IIL h2 (List.length h) 0 fun n3 n4 l5 =>
(run (Et base) 106 [(vL l5.1 l5.2)] h2).bind fun r6 =>
((some r6.1).bind getS).bind fun l7 =>
(gate (sameA h2 r6.2 (some ⟨(List.length h), 1, none⟩) 1)
((gate (sameA h2 r6.2 (some ⟨(List.length h), 0, none⟩) 1)
((gate (sameA h2 r6.2 (some ⟨(List.length h), 3, none⟩) 1)
(((cell r6.2 (List.length h) 3).bind getS).bind fun l8 =>
(run (Et base) 106 [(vL l8.1 l8.2)] r6.2).bind fun r9 =>
((some r9.1).bind getS).bind fun l10 =>
(gate (sameA r6.2 r9.2 (some ⟨(List.length h), 1, none⟩) 1)
((gate (sameA r6.2 r9.2 (some ⟨(List.length h), 0, none⟩) 1)
((gate (neA (some ⟨(List.length h), 3, none⟩) (List.length r9.2))
((gate (neA (some ⟨(List.length h), 2, none⟩) (List.length r9.2))
((gate (neA (some ⟨(List.length h), 1, none⟩) (List.length r9.2))
((gate (neA (some ⟨(List.length h), 0, none⟩) (List.length r9.2))
(nw1 r9.2 3 [] fun h11 =>
(gate (neA (some ⟨(List.length h), 4, none⟩) (List.length r9.2))
((gate (sameA r6.2 h11 (some ⟨(List.length h), 4, none⟩) 1)
((gate (sameA h2 h11 (some ⟨(List.length h), 4, none⟩) 1)
(((cell h11 (List.length h) 4).bind getS).bind fun l12 =>
(app base h11 3 1 8 (some ⟨(List.length r9.2), 0, none⟩) 0 (rawAt h11 l12.1 (l12.2 * 1)) l12.2).bind fun p13 =>
((some p13.1).bind getS).bind fun l14 =>
(gate (sameA h11 p13.2 (some ⟨(List.length h), 1, none⟩) 1)
((gate (sameA h11 p13.2 (some ⟨(List.length h), 0, none⟩) 1)
((wr base p13.2 (List.length h1) 0 [(vI n3), (vI n4), (vL l7.1 l7.2), (vL l10.1 l10.2), (vL l14.1 l14.2)]).bind fun h15 =>
c_IILLL h15 (List.length h1) 0 fun n16 n17 l18 l19 l20 =>
some ((.agg #[(vI n16), (vI n17), (vL l18.1 l18.2), (vL l19.1 l19.2), (vL l20.1 l20.2)]), h15))))))))))))))))))))))))))))) : Option (Value × AH)) := by kernel_rfl
theorem r62 {base : Nat} {v0_0 : Int} {v0_1 : Int} {v0_2 : Option Addr} {v0_2n : Nat} {v0_3 : Option Addr} {v0_3n : Nat} {v0_4 : Option Addr} {v0_4n : Nat} {h : AH} {r : Value × AH} (hx : (nw1 h 52 [(vI v0_0), (vI v0_1), (vL v0_2 v0_2n), (vL v0_3 v0_3n), (vL v0_4 v0_4n)] fun h1 =>
nw1 h1 52 [(vI 0), (vI 0), (vL none 0), (vL none 0), (vL none 0)] fun h2 =>
c_IIL h2 (List.length h) 0 fun n3 n4 l5 =>
(run (Et base) 106 [(vL l5.1 l5.2)] h2).bind fun r6 =>
((some r6.1).bind getS).bind fun l7 =>
(gate (sameA h2 r6.2 (some ⟨(List.length h), 1, none⟩) 1)
((gate (sameA h2 r6.2 (some ⟨(List.length h), 0, none⟩) 1)
((gate (sameA h2 r6.2 (some ⟨(List.length h), 3, none⟩) 1)
(((cell r6.2 (List.length h) 3).bind getS).bind fun l8 =>
(run (Et base) 106 [(vL l8.1 l8.2)] r6.2).bind fun r9 =>
((some r9.1).bind getS).bind fun l10 =>
(gate (sameA r6.2 r9.2 (some ⟨(List.length h), 1, none⟩) 1)
((gate (sameA r6.2 r9.2 (some ⟨(List.length h), 0, none⟩) 1)
((gate (neA (some ⟨(List.length h), 3, none⟩) (List.length r9.2))
((gate (neA (some ⟨(List.length h), 2, none⟩) (List.length r9.2))
((gate (neA (some ⟨(List.length h), 1, none⟩) (List.length r9.2))
((gate (neA (some ⟨(List.length h), 0, none⟩) (List.length r9.2))
(nw1 r9.2 3 [] fun h11 =>
(gate (neA (some ⟨(List.length h), 4, none⟩) (List.length r9.2))
((gate (sameA r6.2 h11 (some ⟨(List.length h), 4, none⟩) 1)
((gate (sameA h2 h11 (some ⟨(List.length h), 4, none⟩) 1)
(((cell h11 (List.length h) 4).bind getS).bind fun l12 =>
(app base h11 3 1 8 (some ⟨(List.length r9.2), 0, none⟩) 0 (rawAt h11 l12.1 (l12.2 * 1)) l12.2).bind fun p13 =>
((some p13.1).bind getS).bind fun l14 =>
(gate (sameA h11 p13.2 (some ⟨(List.length h), 1, none⟩) 1)
((gate (sameA h11 p13.2 (some ⟨(List.length h), 0, none⟩) 1)
((wr base p13.2 (List.length h1) 0 [(vI n3), (vI n4), (vL l7.1 l7.2), (vL l10.1 l10.2), (vL l14.1 l14.2)]).bind fun h15 =>
c_IILLL h15 (List.length h1) 0 fun n16 n17 l18 l19 l20 =>
some ((.agg #[(vI n16), (vI n17), (vL l18.1 l18.2), (vL l19.1 l19.2), (vL l20.1 l20.2)]), h15)))))))))))))))))))))))))))))) = some r) : run (Et base) 62 [(.agg #[(vI v0_0), (vI v0_1), (vL v0_2 v0_2n), (vL v0_3 v0_3n), (vL v0_4 v0_4n)])] h = some r := run_i Try.func62 (by kernel_rfl) ((f62_eq base v0_0 v0_1 v0_2 v0_2n v0_3 v0_3n v0_4 v0_4n h).trans hx)
/-! spec.l9Step (gates 12) -/
noncomputable abbrev qf63 (base : Nat) (v0 : Option Addr) (v0n : Nat) (v1_0 : Int) (v1_1 : Int) (v1_2 : Option Addr) (v1_2n : Nat) (v1_3 : Option Addr) (v1_3n : Nat) (v1_4 : Option Addr) (v1_4n : Nat) (v2 : Int) (h : AH) : Option (Value × AH) :=
nw1 h 52 [(vI v1_0), (vI v1_1), (vL v1_2 v1_2n), (vL v1_3 v1_3n), (vL v1_4 v1_4n)] fun h1 =>
nw1 h1 52 [(vI 0), (vI 0), (vL none 0), (vL none 0), (vL none 0)] fun h2 =>
nw1 h2 54 [(vI 0), (vI 0), (vI 0), (vI 0), (vI 0), (vT ⟨#[]⟩), (vL none 0)] fun h3 =>
((cell h3 (List.length h) 1).bind (getI .i64)).bind fun n4 =>
(if 0 ≤ n4 ∧ n4 < ((v0n : Nat) : Int) then
((v0 : Option Addr)).bind fun a5 =>
c_IIIIIT h3 a5.block (a5.off + Int.toNat n4 * 6) fun n6 n7 n8 n9 n10 s11 =>
nw1 h3 82 [(vI 0), (vI 0), (vI 0), (vI 0), (vI 0), (vT ⟨#[]⟩)] fun h12 =>
(wr base h12 (List.length h3) 0 [(vI n6), (vI n7), (vI n8), (vI n9), (vI n10), (vT s11)]).bind fun h13 =>
c_IILLL h13 (List.length h) 0 fun n14 n15 l16 l17 l18 =>
(run (Et base) 62 [(.agg #[(vI n14), (vI n15), (vL l16.1 l16.2), (vL l17.1 l17.2), (vL l18.1 l18.2)])] h13).bind fun r19 =>
gG (some r19.1) 5 fun l20 =>
l_IILLL l20 fun n21 n22 l23 l24 l25 =>
nw1 r19.2 52 [(vI 0), (vI 0), (vL none 0), (vL none 0), (vL none 0)] fun h26 =>
(wr base h26 (List.length r19.2) 0 [(vI n21), (vI n22), (vL l23.1 l23.2), (vL l24.1 l24.2), (vL l25.1 l25.2)]).bind fun h27 =>
((cell h27 (List.length h) 1).bind (getI .i64)).bind fun n28 =>
(wr base h27 (List.length r19.2) 1 [(vI (IntKind.wrap .i64 (n28 + (1 : Int))))]).bind fun h29 =>
nw1 h29 54 [(vI 0), (vI 0), (vI 0), (vI 0), (vI 0), (vT ⟨#[]⟩), (vL none 0)] fun h30 =>
(wr base h30 (List.length h29) 0 [(vI (1 : Int)), (vI (0 : Int)), (vI (0 : Int)), (vI (0 : Int)), (vI (0 : Int)), (vT (⟨#[]⟩ : ByteArray)), (vL none 0)]).bind fun h31 =>
((cell h31 (List.length h) 2).bind getS).bind fun l32 =>
((cell h31 (List.length h3) 1).bind (getI .i64)).bind fun n33 =>
(if 0 ≤ n33 ∧ n33 < ((l32.2 : Nat) : Int) then
((l32.1 : Option Addr)).bind fun a34 =>
c_IITL h31 a34.block (a34.off + Int.toNat n33 * 4) fun n35 n36 s37 l38 =>
(run (Et base) 101 [(.agg #[(vI n35), (vI n36), (vT s37), (vL l38.1 l38.2)])] h31).bind fun r39 =>
gG (some r39.1) 4 fun l40 =>
l_IITL l40 fun n41 n42 s43 l44 =>
nw1 r39.2 38 [(vI 0), (vI 0), (vT ⟨#[]⟩), (vL none 0)] fun h45 =>
(wr base h45 (List.length r39.2) 0 [(vI n41), (vI n42), (vT s43), (vL l44.1 l44.2)]).bind fun h46 =>
((cell h46 (List.length h3) 0).bind (getI .i64)).bind fun n47 =>
(if (n47 == (10 : Int)) = true then
(c_IITL h46 (List.length r39.2) 0 fun n49 n50 s51 l52 =>
((cell h46 (List.length h) 2).bind getS).bind fun l53 =>
((cell h46 (List.length h3) 2).bind (getI .i64)).bind fun n54 =>
(if 0 ≤ n54 ∧ n54 < ((l53.2 : Nat) : Int) then
((l53.1 : Option Addr)).bind fun a55 =>
c_IITL h46 a55.block (a55.off + Int.toNat n54 * 4) fun n56 n57 s58 l59 =>
(run (Et base) 107 [(.agg #[(vI n49), (vI n50), (vT s51), (vL l52.1 l52.2)]), (.agg #[(vI n56), (vI n57), (vT s58), (vL l59.1 l59.2)])] h46).bind fun r60 =>
((some r60.1).bind getB).bind fun b61 =>
(if (!b61) = true then
((cell r60.2 (List.length h3) 4).bind (getI .i64)).bind fun n62 =>
(wr base r60.2 (List.length r19.2) 1 [(vI n62)]).bind fun h63 =>
some (.inl ([some (vP (List.length h1)), some (vP (List.length h2)), some (vP (List.length r19.2)), some (vP (List.length h29))], h63))
else
some (.inl ([some (vP (List.length h1)), some (vP (List.length h2)), some (vP (List.length r19.2)), some (vP (List.length h29))], r60.2)))
else none)).bind fun j48 => joinK j48 fun j48 =>
j_AAAA j48.1 fun d64 d65 d66 d67 =>
c_IILLL j48.2 d66.block d66.off fun n68 n69 l70 l71 l72 =>
c_IIIIITL j48.2 d67.block d67.off fun n73 n74 n75 n76 n77 s78 l79 =>
(wr base j48.2 d64.block d64.off [(vI n68), (vI n69), (vL l70.1 l70.2), (vL l71.1 l71.2), (vL l72.1 l72.2)]).bind fun h80 =>
(gate (sameA j48.2 h80 (some d67) 7)
((wr base h80 d65.block d65.off [(vI n73), (vI n74), (vI n75), (vI n76), (vI n77), (vT s78), (vL l79.1 l79.2)]).bind fun h81 =>
c_IILLL h81 d64.block d64.off fun n82 n83 l84 l85 l86 =>
c_IIIIITL h81 d65.block d65.off fun n87 n88 n89 n90 n91 s92 l93 =>
some ((.tuple #[(.agg #[(vI n82), (vI n83), (vL l84.1 l84.2), (vL l85.1 l85.2), (vL l86.1 l86.2)]), (.agg #[(vI n87), (vI n88), (vI n89), (vI n90), (vI n91), (vT s92), (vL l93.1 l93.2)])]), h81)))
else
(if (n47 == (11 : Int)) = true then
(((cell h46 (List.length r39.2) 0).bind (getI .i64)).bind fun n95 =>
((cell h46 (List.length h3) 2).bind (getI .i64)).bind fun n96 =>
(if (n95 != n96) = true then
((cell h46 (List.length h3) 4).bind (getI .i64)).bind fun n97 =>
(wr base h46 (List.length r19.2) 1 [(vI n97)]).bind fun h98 =>
some (.inl ([some (vP (List.length h1)), some (vP (List.length h2)), some (vP (List.length r19.2)), some (vP (List.length h29))], h98))
else
some (.inl ([some (vP (List.length h1)), some (vP (List.length h2)), some (vP (List.length r19.2)), some (vP (List.length h29))], h46)))).bind fun j94 => joinK j94 fun j94 =>
j_AAAA j94.1 fun d99 d100 d101 d102 =>
c_IILLL j94.2 d101.block d101.off fun n103 n104 l105 l106 l107 =>
c_IIIIITL j94.2 d102.block d102.off fun n108 n109 n110 n111 n112 s113 l114 =>
(wr base j94.2 d99.block d99.off [(vI n103), (vI n104), (vL l105.1 l105.2), (vL l106.1 l106.2), (vL l107.1 l107.2)]).bind fun h115 =>
(gate (sameA j94.2 h115 (some d102) 7)
((wr base h115 d100.block d100.off [(vI n108), (vI n109), (vI n110), (vI n111), (vI n112), (vT s113), (vL l114.1 l114.2)]).bind fun h116 =>
c_IILLL h116 d99.block d99.off fun n117 n118 l119 l120 l121 =>
c_IIIIITL h116 d100.block d100.off fun n122 n123 n124 n125 n126 s127 l128 =>
some ((.tuple #[(.agg #[(vI n117), (vI n118), (vL l119.1 l119.2), (vL l120.1 l120.2), (vL l121.1 l121.2)]), (.agg #[(vI n122), (vI n123), (vI n124), (vI n125), (vI n126), (vT s127), (vL l128.1 l128.2)])]), h116)))
else
(if (n47 == (12 : Int)) = true then
((cell h46 (List.length h3) 4).bind (getI .i64)).bind fun n129 =>
(wr base h46 (List.length r19.2) 1 [(vI n129)]).bind fun h130 =>
c_IILLL h130 (List.length r19.2) 0 fun n131 n132 l133 l134 l135 =>
c_IIIIITL h130 (List.length h29) 0 fun n136 n137 n138 n139 n140 s141 l142 =>
(wr base h130 (List.length h1) 0 [(vI n131), (vI n132), (vL l133.1 l133.2), (vL l134.1 l134.2), (vL l135.1 l135.2)]).bind fun h143 =>
(gate (sameA h130 h143 (some ⟨(List.length h29), 0, none⟩) 7)
((wr base h143 (List.length h2) 0 [(vI n136), (vI n137), (vI n138), (vI n139), (vI n140), (vT s141), (vL l142.1 l142.2)]).bind fun h144 =>
c_IILLL h144 (List.length h1) 0 fun n145 n146 l147 l148 l149 =>
c_IIIIITL h144 (List.length h2) 0 fun n150 n151 n152 n153 n154 s155 l156 =>
some ((.tuple #[(.agg #[(vI n145), (vI n146), (vL l147.1 l147.2), (vL l148.1 l148.2), (vL l149.1 l149.2)]), (.agg #[(vI n150), (vI n151), (vI n152), (vI n153), (vI n154), (vT s155), (vL l156.1 l156.2)])]), h144)))
else
((if (n47 == (13 : Int)) = true then
some (.inl ([some (vI v2), some (vP (List.length h)), some (vP (List.length h1)), some (vP (List.length h2)), some (vP (List.length h3)), some (vP (List.length r19.2)), some (vP (List.length h29)), some (vP (List.length r39.2)), some (vI n47), some (.bool (n47 == (13 : Int)))], h46))
else
some (.inl ([some (vI v2), some (vP (List.length h)), some (vP (List.length h1)), some (vP (List.length h2)), some (vP (List.length h3)), some (vP (List.length r19.2)), some (vP (List.length h29)), some (vP (List.length r39.2)), some (vI n47), some (.bool (n47 == (18 : Int)))], h46)))).bind fun j157 => joinK j157 fun j157 =>
j_IAAAAAAAIB j157.1 fun n158 d159 d160 d161 d162 d163 d164 d165 n166 b167 =>
(if b167 = true then
((cell j157.2 d165.block (d165.off + 0)).bind (getI .i64)).bind fun n168 =>
(if (n168 != (3 : Int)) = true then
c_IILLL j157.2 d159.block d159.off fun n169 n170 l171 l172 l173 =>
(run (Et base) 62 [(.agg #[(vI n169), (vI n170), (vL l171.1 l171.2), (vL l172.1 l172.2), (vL l173.1 l173.2)])] j157.2).bind fun r174 =>
gG (some r174.1) 5 fun l175 =>
l_IILLL l175 fun n176 n177 l178 l179 l180 =>
(run (Et base) 108 [(.agg #[(vI n176), (vI n177), (vL l178.1 l178.2), (vL l179.1 l179.2), (vL l180.1 l180.2)])] r174.2).bind fun r181 =>
(getTup 2 r181.1).bind fun l182 =>
gG (l182[0]?) 5 fun l183 =>
l_IILLL l183 fun n184 n185 l186 l187 l188 =>
gG (l182[1]?) 7 fun l189 =>
l_IIIIITL l189 fun n190 n191 n192 n193 n194 s195 l196 =>
(wr base r181.2 d160.block d160.off [(vI n184), (vI n185), (vL l186.1 l186.2), (vL l187.1 l187.2), (vL l188.1 l188.2)]).bind fun h197 =>
(wr base h197 d161.block d161.off [(vI n190), (vI n191), (vI n192), (vI n193), (vI n194), (vT s195), (vL l196.1 l196.2)]).bind fun h198 =>
c_IILLL h198 d160.block d160.off fun n199 n200 l201 l202 l203 =>
c_IIIIITL h198 d161.block d161.off fun n204 n205 n206 n207 n208 s209 l210 =>
some ((.tuple #[(.agg #[(vI n199), (vI n200), (vL l201.1 l201.2), (vL l202.1 l202.2), (vL l203.1 l203.2)]), (.agg #[(vI n204), (vI n205), (vI n206), (vI n207), (vI n208), (vT s209), (vL l210.1 l210.2)])]), h198)
else
((cell j157.2 d162.block (d162.off + 0)).bind (getI .i64)).bind fun n211 =>
(if (n211 == (18 : Int)) = true then
c_IILLL j157.2 d163.block d163.off fun n212 n213 l214 l215 l216 =>
((cell j157.2 d165.block (d165.off + 1)).bind (getI .i64)).bind fun n217 =>
(wr base j157.2 d160.block d160.off [(vI n212), (vI n213), (vL l214.1 l214.2), (vL l215.1 l215.2), (vL l216.1 l216.2)]).bind fun h218 =>
(gate (sameA j157.2 h218 (some ⟨d165.block, (d165.off + 1), none⟩) 1)
((wr base h218 d161.block d161.off [(vI (6 : Int)), (vI n217), (vI (0 : Int)), (vI (0 : Int)), (vI (0 : Int)), (vT (⟨#[]⟩ : ByteArray)), (vL none 0)]).bind fun h219 =>
c_IILLL h219 d160.block d160.off fun n220 n221 l222 l223 l224 =>
c_IIIIITL h219 d161.block d161.off fun n225 n226 n227 n228 n229 s230 l231 =>
some ((.tuple #[(.agg #[(vI n220), (vI n221), (vL l222.1 l222.2), (vL l223.1 l223.2), (vL l224.1 l224.2)]), (.agg #[(vI n225), (vI n226), (vI n227), (vI n228), (vI n229), (vT s230), (vL l231.1 l231.2)])]), h219)))
else
c_IILLL j157.2 d163.block d163.off fun n232 n233 l234 l235 l236 =>
((cell j157.2 d165.block (d165.off + 1)).bind (getI .i64)).bind fun n237 =>
((cell j157.2 d159.block (d159.off + 2)).bind getS).bind fun l238 =>
((cell j157.2 d162.block (d162.off + 2)).bind (getI .i64)).bind fun n239 =>
(if 0 ≤ n239 ∧ n239 < ((l238.2 : Nat) : Int) then
((l238.1 : Option Addr)).bind fun a240 =>
c_IITL j157.2 a240.block (a240.off + Int.toNat n239 * 4) fun n241 n242 s243 l244 =>
(run (Et base) 101 [(.agg #[(vI n241), (vI n242), (vT s243), (vL l244.1 l244.2)])] j157.2).bind fun r245 =>
gG (some r245.1) 4 fun l246 =>
l_IITL l246 fun n247 n248 s249 l250 =>
(gate (sameA j157.2 r245.2 (some ⟨d165.block, (d165.off + 1), none⟩) 1)
((gate (sameA j157.2 r245.2 (some d163) 5)
((wr base r245.2 d160.block d160.off [(vI n232), (vI n233), (vL l234.1 l234.2), (vL l235.1 l235.2), (vL l236.1 l236.2)]).bind fun h251 =>
(gate (sameA r245.2 h251 (some ⟨d165.block, (d165.off + 1), none⟩) 1)
((wr base h251 d161.block d161.off [(vI (3 : Int)), (vI n237), (vI (0 : Int)), (vI n247), (vI n248), (vT s249), (vL l250.1 l250.2)]).bind fun h252 =>
c_IILLL h252 d160.block d160.off fun n253 n254 l255 l256 l257 =>
c_IIIIITL h252 d161.block d161.off fun n258 n259 n260 n261 n262 s263 l264 =>
some ((.tuple #[(.agg #[(vI n253), (vI n254), (vL l255.1 l255.2), (vL l256.1 l256.2), (vL l257.1 l257.2)]), (.agg #[(vI n258), (vI n259), (vI n260), (vI n261), (vI n262), (vT s263), (vL l264.1 l264.2)])]), h252)))))))
else none)))
else
(if (n166 == (17 : Int)) = true then
c_IILLL j157.2 d163.block d163.off fun n265 n266 l267 l268 l269 =>
c_IITL j157.2 d165.block d165.off fun n270 n271 s272 l273 =>
(wr base j157.2 d160.block d160.off [(vI n265), (vI n266), (vL l267.1 l267.2), (vL l268.1 l268.2), (vL l269.1 l269.2)]).bind fun h274 =>
(gate (sameA j157.2 h274 (some d165) 4)
((wr base h274 d161.block d161.off [(vI (5 : Int)), (vI (0 : Int)), (vI (0 : Int)), (vI n270), (vI n271), (vT s272), (vL l273.1 l273.2)]).bind fun h275 =>
c_IILLL h275 d160.block d160.off fun n276 n277 l278 l279 l280 =>
c_IIIIITL h275 d161.block d161.off fun n281 n282 n283 n284 n285 s286 l287 =>
some ((.tuple #[(.agg #[(vI n276), (vI n277), (vL l278.1 l278.2), (vL l279.1 l279.2), (vL l280.1 l280.2)]), (.agg #[(vI n281), (vI n282), (vI n283), (vI n284), (vI n285), (vT s286), (vL l287.1 l287.2)])]), h275)))
else
(if (n166 == (19 : Int)) = true then
((cell j157.2 d159.block (d159.off + 1)).bind (getI .i64)).bind fun n288 =>
(wr base j157.2 d163.block (d163.off + 1) [(vI n288)]).bind fun h289 =>
c_IILLL h289 d163.block d163.off fun n290 n291 l292 l293 l294 =>
c_IITL h289 d165.block d165.off fun n295 n296 s297 l298 =>
(wr base h289 d160.block d160.off [(vI n290), (vI n291), (vL l292.1 l292.2), (vL l293.1 l293.2), (vL l294.1 l294.2)]).bind fun h299 =>
(gate (sameA h289 h299 (some d165) 4)
((wr base h299 d161.block d161.off [(vI (7 : Int)), (vI (0 : Int)), (vI (0 : Int)), (vI n295), (vI n296), (vT s297), (vL l298.1 l298.2)]).bind fun h300 =>
c_IILLL h300 d160.block d160.off fun n301 n302 l303 l304 l305 =>
c_IIIIITL h300 d161.block d161.off fun n306 n307 n308 n309 n310 s311 l312 =>
some ((.tuple #[(.agg #[(vI n301), (vI n302), (vL l303.1 l303.2), (vL l304.1 l304.2), (vL l305.1 l305.2)]), (.agg #[(vI n306), (vI n307), (vI n308), (vI n309), (vI n310), (vT s311), (vL l312.1 l312.2)])]), h300)))
else
(if (n166 == (14 : Int)) = true then
((cell j157.2 d159.block (d159.off + 3)).bind getS).bind fun l313 =>
(if (((l313.2 : Nat) : Int) == (0 : Int)) = true then
c_IILLL j157.2 d159.block d159.off fun n314 n315 l316 l317 l318 =>
(run (Et base) 62 [(.agg #[(vI n314), (vI n315), (vL l316.1 l316.2), (vL l317.1 l317.2), (vL l318.1 l318.2)])] j157.2).bind fun r319 =>
gG (some r319.1) 5 fun l320 =>
l_IILLL l320 fun n321 n322 l323 l324 l325 =>
(wr base r319.2 d160.block d160.off [(vI n321), (vI n322), (vL l323.1 l323.2), (vL l324.1 l324.2), (vL l325.1 l325.2)]).bind fun h326 =>
(wr base h326 d161.block d161.off [(vI (2 : Int)), (vI (0 : Int)), (vI (0 : Int)), (vI (0 : Int)), (vI (0 : Int)), (vT (⟨#[]⟩ : ByteArray)), (vL none 0)]).bind fun h327 =>
c_IILLL h327 d160.block d160.off fun n328 n329 l330 l331 l332 =>
c_IIIIITL h327 d161.block d161.off fun n333 n334 n335 n336 n337 s338 l339 =>
some ((.tuple #[(.agg #[(vI n328), (vI n329), (vL l330.1 l330.2), (vL l331.1 l331.2), (vL l332.1 l332.2)]), (.agg #[(vI n333), (vI n334), (vI n335), (vI n336), (vI n337), (vT s338), (vL l339.1 l339.2)])]), h327)
else
((cell j157.2 d163.block (d163.off + 2)).bind getS).bind fun l340 =>
((cell j157.2 d162.block (d162.off + 1)).bind (getI .i64)).bind fun n341 =>
((cell j157.2 d163.block (d163.off + 3)).bind getS).bind fun l342 =>
(if 0 ≤ (0 : Int) ∧ (0 : Int) < ((l342.2 : Nat) : Int) then
((l342.1 : Option Addr)).bind fun a343 =>
c_IITL j157.2 a343.block (a343.off + Int.toNat (0 : Int) * 4) fun n344 n345 s346 l347 =>
(if 0 ≤ n341 ∧ n341 < ((l340.2 : Nat) : Int) then
((l340.1 : Option Addr)).bind fun a348 =>
(wr base j157.2 a348.block (a348.off + Int.toNat n341 * 4) [(vI n344), (vI n345), (vT s346), (vL l347.1 l347.2)]).bind fun h349 =>
((cell h349 d163.block (d163.off + 3)).bind getS).bind fun l350 =>
(if 0 ≤ (1 : Int) ∧ (1 : Int) ≤ ((l350.2 : Nat) : Int) ∧ ((l350.2 : Nat) : Int) ≤ ((l350.2 : Nat) : Int) ∧ okTy base h349 l350.1 38 (Int.toNat (1 : Int)) = true then
(wr base h349 d163.block (d163.off + 3) [(.slice (shiftA l350.1 (Int.toNat (1 : Int) * 4)) (Int.toNat ((l350.2 : Nat) : Int) - Int.toNat (1 : Int)) (Int.toNat ((l350.2 : Nat) : Int) - Int.toNat (1 : Int)))]).bind fun h351 =>
c_IILLL h351 d163.block d163.off fun n352 n353 l354 l355 l356 =>
c_IIIIITL h351 d164.block d164.off fun n357 n358 n359 n360 n361 s362 l363 =>
(wr base h351 d160.block d160.off [(vI n352), (vI n353), (vL l354.1 l354.2), (vL l355.1 l355.2), (vL l356.1 l356.2)]).bind fun h364 =>
(gate (sameA h351 h364 (some d164) 7)
((wr base h364 d161.block d161.off [(vI n357), (vI n358), (vI n359), (vI n360), (vI n361), (vT s362), (vL l363.1 l363.2)]).bind fun h365 =>
c_IILLL h365 d160.block d160.off fun n366 n367 l368 l369 l370 =>
c_IIIIITL h365 d161.block d161.off fun n371 n372 n373 n374 n375 s376 l377 =>
some ((.tuple #[(.agg #[(vI n366), (vI n367), (vL l368.1 l368.2), (vL l369.1 l369.2), (vL l370.1 l370.2)]), (.agg #[(vI n371), (vI n372), (vI n373), (vI n374), (vI n375), (vT s376), (vL l377.1 l377.2)])]), h365)))
else none)
else none)
else none))
else
c_IIIIIT j157.2 d162.block d162.off fun n378 n379 n380 n381 n382 s383 =>
c_IILLL j157.2 d159.block d159.off fun n384 n385 l386 l387 l388 =>
(run (Et base) 109 [(.agg #[(vI n378), (vI n379), (vI n380), (vI n381), (vI n382), (vT s383)]), (.agg #[(vI n384), (vI n385), (vL l386.1 l386.2), (vL l387.1 l387.2), (vL l388.1 l388.2)]), (vI n158)] j157.2).bind fun r389 =>
(getTup 2 r389.1).bind fun l390 =>
gG (l390[0]?) 4 fun l391 =>
l_IITL l391 fun n392 n393 s394 l395 =>
((l390[1]?).bind getB).bind fun b396 =>
nw1 r389.2 38 [(vI 0), (vI 0), (vT ⟨#[]⟩), (vL none 0)] fun h397 =>
(wr base h397 (List.length r389.2) 0 [(vI n392), (vI n393), (vT s394), (vL l395.1 l395.2)]).bind fun h398 =>
((if (!b396) = true then
some (.inl ([some (vI n158), some (vA d159), some (vA d160), some (vA d161), some (vA d162), some (vA d163), some (vA d164), some (vP (List.length r389.2)), some (.bool true)], h398))
else
c_IITL h398 (List.length r389.2) 0 fun n400 n401 s402 l403 =>
(run (Et base) 95 [(.agg #[(vI n400), (vI n401), (vT s402), (vL l403.1 l403.2)])] h398).bind fun r404 =>
((some r404.1).bind getB).bind fun b405 =>
some (.inl ([some (vI n158), some (vA d159), some (vA d160), some (vA d161), some (vA d162), some (vA d163), some (vA d164), some (vP (List.length r389.2)), some (.bool (!b405))], r404.2)))).bind fun j399 => joinK j399 fun j399 =>
j_IAAAAAAAB j399.1 fun n406 d407 d408 d409 d410 d411 d412 d413 b414 =>
(if b414 = true then
c_IILLL j399.2 d407.block d407.off fun n415 n416 l417 l418 l419 =>
(run (Et base) 62 [(.agg #[(vI n415), (vI n416), (vL l417.1 l417.2), (vL l418.1 l418.2), (vL l419.1 l419.2)])] j399.2).bind fun r420 =>
gG (some r420.1) 5 fun l421 =>
l_IILLL l421 fun n422 n423 l424 l425 l426 =>
(run (Et base) 108 [(.agg #[(vI n422), (vI n423), (vL l424.1 l424.2), (vL l425.1 l425.2), (vL l426.1 l426.2)])] r420.2).bind fun r427 =>
(getTup 2 r427.1).bind fun l428 =>
gG (l428[0]?) 5 fun l429 =>
l_IILLL l429 fun n430 n431 l432 l433 l434 =>
gG (l428[1]?) 7 fun l435 =>
l_IIIIITL l435 fun n436 n437 n438 n439 n440 s441 l442 =>
(wr base r427.2 d408.block d408.off [(vI n430), (vI n431), (vL l432.1 l432.2), (vL l433.1 l433.2), (vL l434.1 l434.2)]).bind fun h443 =>
(wr base h443 d409.block d409.off [(vI n436), (vI n437), (vI n438), (vI n439), (vI n440), (vT s441), (vL l442.1 l442.2)]).bind fun h444 =>
c_IILLL h444 d408.block d408.off fun n445 n446 l447 l448 l449 =>
c_IIIIITL h444 d409.block d409.off fun n450 n451 n452 n453 n454 s455 l456 =>
some ((.tuple #[(.agg #[(vI n445), (vI n446), (vL l447.1 l447.2), (vL l448.1 l448.2), (vL l449.1 l449.2)]), (.agg #[(vI n450), (vI n451), (vI n452), (vI n453), (vI n454), (vT s455), (vL l456.1 l456.2)])]), h444)
else
(((cell j399.2 d410.block (d410.off + 0)).bind (getI .i64)).bind fun n458 =>
(if (n458 == (16 : Int)) = true then
((cell j399.2 d410.block (d410.off + 4)).bind (getI .i64)).bind fun n459 =>
((cell j399.2 d407.block (d407.off + 2)).bind getS).bind fun l460 =>
((cell j399.2 d410.block (d410.off + 2)).bind (getI .i64)).bind fun n461 =>
(if 0 ≤ n461 ∧ n461 < ((l460.2 : Nat) : Int) then
((l460.1 : Option Addr)).bind fun a462 =>
c_IITL j399.2 a462.block (a462.off + Int.toNat n461 * 4) fun n463 n464 s465 l466 =>
(run (Et base) 101 [(.agg #[(vI n463), (vI n464), (vT s465), (vL l466.1 l466.2)])] j399.2).bind fun r467 =>
gG (some r467.1) 4 fun l468 =>
l_IITL l468 fun n469 n470 s471 l472 =>
(gate (sameA j399.2 r467.2 (some ⟨d410.block, (d410.off + 4), none⟩) 1)
((wr base r467.2 d412.block d412.off [(vI (4 : Int)), (vI n406), (vI n459), (vI n469), (vI n470), (vT s471), (vL l472.1 l472.2)]).bind fun h473 =>
some (.inl ([some (vA d408), some (vA d409), some (vA d410), some (vA d411), some (vA d412), some (vA d413)], h473))))
else none)
else
some (.inl ([some (vA d408), some (vA d409), some (vA d410), some (vA d411), some (vA d412), some (vA d413)], j399.2)))).bind fun j457 => joinK j457 fun j457 =>
j_AAAAAA j457.1 fun d474 d475 d476 d477 d478 d479 =>
((cell j457.2 d477.block (d477.off + 2)).bind getS).bind fun l480 =>
((cell j457.2 d476.block (d476.off + 1)).bind (getI .i64)).bind fun n481 =>
c_IITL j457.2 d479.block d479.off fun n482 n483 s484 l485 =>
(if 0 ≤ n481 ∧ n481 < ((l480.2 : Nat) : Int) then
((l480.1 : Option Addr)).bind fun a486 =>
(wr base j457.2 a486.block (a486.off + Int.toNat n481 * 4) [(vI n482), (vI n483), (vT s484), (vL l485.1 l485.2)]).bind fun h487 =>
c_IILLL h487 d477.block d477.off fun n488 n489 l490 l491 l492 =>
c_IIIIITL h487 d478.block d478.off fun n493 n494 n495 n496 n497 s498 l499 =>
(wr base h487 d474.block d474.off [(vI n488), (vI n489), (vL l490.1 l490.2), (vL l491.1 l491.2), (vL l492.1 l492.2)]).bind fun h500 =>
(gate (sameA h487 h500 (some d478) 7)
((wr base h500 d475.block d475.off [(vI n493), (vI n494), (vI n495), (vI n496), (vI n497), (vT s498), (vL l499.1 l499.2)]).bind fun h501 =>
c_IILLL h501 d474.block d474.off fun n502 n503 l504 l505 l506 =>
c_IIIIITL h501 d475.block d475.off fun n507 n508 n509 n510 n511 s512 l513 =>
some ((.tuple #[(.agg #[(vI n502), (vI n503), (vL l504.1 l504.2), (vL l505.1 l505.2), (vL l506.1 l506.2)]), (.agg #[(vI n507), (vI n508), (vI n509), (vI n510), (vI n511), (vT s512), (vL l513.1 l513.2)])]), h501)))
else none)))))))))
else none)
else none)
theorem f63_eq (base : Nat) (v0 : Option Addr) (v0n : Nat) (v1_0 : Int) (v1_1 : Int) (v1_2 : Option Addr) (v1_2n : Nat) (v1_3 : Option Addr) (v1_3n : Nat) (v1_4 : Option Addr) (v1_4n : Nat) (v2 : Int) (h : AH) : exFun (Et base) (run (Et base)) loopL a63 Try.f63 [(vL v0 v0n), (.agg #[(vI v1_0), (vI v1_1), (vL v1_2 v1_2n), (vL v1_3 v1_3n), (vL v1_4 v1_4n)]), (vI v2)] h = qf63 base v0 v0n v1_0 v1_1 v1_2 v1_2n v1_3 v1_3n v1_4 v1_4n v2 h := by kernel_rfl
theorem r63 {base : Nat} {v0 : Option Addr} {v0n : Nat} {v1_0 : Int} {v1_1 : Int} {v1_2 : Option Addr} {v1_2n : Nat} {v1_3 : Option Addr} {v1_3n : Nat} {v1_4 : Option Addr} {v1_4n : Nat} {v2 : Int} {h : AH} {r : Value × AH} (hx : qf63 base v0 v0n v1_0 v1_1 v1_2 v1_2n v1_3 v1_3n v1_4 v1_4n v2 h = some r) : run (Et base) 63 [(vL v0 v0n), (.agg #[(vI v1_0), (vI v1_1), (vL v1_2 v1_2n), (vL v1_3 v1_3n), (vL v1_4 v1_4n)]), (vI v2)] h = some r := run_i Try.func63 (by kernel_rfl) ((f63_eq base v0 v0n v1_0 v1_1 v1_2 v1_2n v1_3 v1_3n v1_4 v1_4n v2 h).trans hx)
/-! laws.toIntS (gates 0) -/
noncomputable def B64_0 (base : Nat) : Body := fun l h => lay s64_0 l fun s => exCode (Et base) (run (Et base)) loopL a64_0 (subC [1, 1, 0, 1, 0, 0] (bodyC Try.f64)) s h (keepK s64_0 e64_0)
theorem B64_0_eq (base : Nat) (v0 : Option Addr) (v0n : Nat) (v3 : Option Addr) (v3n : Nat) (v4 : Int) (h : AH) : B64_0 base [some (vL v0 v0n), some (vL v3 v3n), some (vI v4)] h =
((if (decide (v4 < ((v0n : Nat) : Int))) = true then
(if 0 ≤ v4 ∧ v4 < ((v0n : Nat) : Int) then
((v0 : Option Addr)).bind fun a1 =>
((cell h a1.block (a1.off + Int.toNat v4 * 1)).bind (getI .i64)).bind fun n2 =>
(if 0 ≤ v4 ∧ v4 < ((v3n : Nat) : Int) then
((v3 : Option Addr)).bind fun a3 =>
(wr base h a3.block (a3.off + Int.toNat v4 * 1) [(.int .i64 n2)]).bind fun h4 =>
some (0, [some (.slice v0 v0n v0n), some (.slice v3 v3n v3n), some (.int .i64 (IntKind.wrap .i64 (v4 + (1 : Int))))], h4)
else none)
else none)
else
some (2, [some (.slice v3 v3n v3n)], h)) : Option (Nat × Slots × AH)) := by kernel_rfl
theorem f64_eq (base : Nat) (v0 : Option Addr) (v0n : Nat) (h : AH) : exFun (Et base) (run (Et base)) loopL a64 Try.f64 [(vL v0 v0n)] h =
((if ((v0n : Nat) : Int) = ((v0n : Nat) : Int) ∧ 0 ≤ ((v0n : Nat) : Int) ∧ ((v0n : Nat) : Int) * 8 ≤ 140737488355328 ∧ ((v0n : Nat) : Int) ≤ 140737488355328 then
(some (h ++ [some ⟨rep [(.int .i64 0)] (Int.toNat ((v0n : Nat) : Int)), 3⟩])).bind fun h1 =>
(loopL (B64_0 base) [some (.slice v0 v0n v0n), some (.slice (some ⟨(List.length h), 0, none⟩) (Int.toNat ((v0n : Nat) : Int)) (Int.toNat ((v0n : Nat) : Int))), some (.int .i64 (0 : Int))] h1).bind fun q2 =>
(if q2.1 = 2 then
((sget q2.2.1 0).bind getS).bind fun l3 =>
some ((.slice l3.1 l3.2 l3.2), q2.2.2)
else
none)
else none) : Option (Value × AH)) := by kernel_rfl
theorem r64 {base : Nat} {v0 : Option Addr} {v0n : Nat} {h : AH} {r : Value × AH} (hx : ((if ((v0n : Nat) : Int) = ((v0n : Nat) : Int) ∧ 0 ≤ ((v0n : Nat) : Int) ∧ ((v0n : Nat) : Int) * 8 ≤ 140737488355328 ∧ ((v0n : Nat) : Int) ≤ 140737488355328 then
(some (h ++ [some ⟨rep [(.int .i64 0)] (Int.toNat ((v0n : Nat) : Int)), 3⟩])).bind fun h1 =>
(loopL (B64_0 base) [some (.slice v0 v0n v0n), some (.slice (some ⟨(List.length h), 0, none⟩) (Int.toNat ((v0n : Nat) : Int)) (Int.toNat ((v0n : Nat) : Int))), some (.int .i64 (0 : Int))] h1).bind fun q2 =>
(if q2.1 = 2 then
((sget q2.2.1 0).bind getS).bind fun l3 =>
some ((.slice l3.1 l3.2 l3.2), q2.2.2)
else
none)
else none)) = some r) : run (Et base) 64 [(vL v0 v0n)] h = some r := run_i Try.func64 (by kernel_rfl) ((f64_eq base v0 v0n h).trans hx)
/-! impl.copyActor (gates 3) -/
theorem f65_eq (base : Nat) (v0_0 : Int) (v0_1 : Int) (v0_2 : Option Addr) (v0_2n : Nat) (v0_3 : Option Addr) (v0_3n : Nat) (v0_4 : Option Addr) (v0_4n : Nat) (h : AH) : exFun (Et base) (run (Et base)) loopL a65 Try.f65 [(.agg #[(vI v0_0), (vI v0_1), (vL v0_2 v0_2n), (vL v0_3 v0_3n), (vL v0_4 v0_4n)])] h =
(nw1 h 52 [(vI v0_0), (vI v0_1), (vL v0_2 v0_2n), (vL v0_3 v0_3n), (vL v0_4 v0_4n)] fun h1 =>
nw1 h1 52 [(vI 0), (vI 0), (vL none 0), (vL none 0), (vL none 0)] fun h2 =>
((cell h2 (List.length h) 2).bind getS).bind fun l3 =>
(run (Et base) 110 [(vL l3.1 l3.2)] h2).bind fun r4 =>
((some r4.1).bind getS).bind fun l5 =>
(gate (sameA h2 r4.2 (some ⟨(List.length h), 3, none⟩) 1)
(((cell r4.2 (List.length h) 3).bind getS).bind fun l6 =>
(run (Et base) 110 [(vL l6.1 l6.2)] r4.2).bind fun r7 =>
((some r7.1).bind getS).bind fun l8 =>
(gate (sameA r4.2 r7.2 (some ⟨(List.length h), 4, none⟩) 1)
((gate (sameA h2 r7.2 (some ⟨(List.length h), 4, none⟩) 1)
(((cell r7.2 (List.length h) 4).bind getS).bind fun l9 =>
(run (Et base) 111 [(vL l9.1 l9.2)] r7.2).bind fun r10 =>
((some r10.1).bind getS).bind fun l11 =>
(wr base r10.2 (List.length h) 2 [(vL l5.1 l5.2)]).bind fun h12 =>
(wr base h12 (List.length h) 3 [(vL l8.1 l8.2)]).bind fun h13 =>
(wr base h13 (List.length h) 4 [(vL l11.1 l11.2)]).bind fun h14 =>
c_IILLL h14 (List.length h) 0 fun n15 n16 l17 l18 l19 =>
(wr base h14 (List.length h1) 0 [(vI n15), (vI n16), (vL l17.1 l17.2), (vL l18.1 l18.2), (vL l19.1 l19.2)]).bind fun h20 =>
c_IILLL h20 (List.length h1) 0 fun n21 n22 l23 l24 l25 =>
some ((.agg #[(vI n21), (vI n22), (vL l23.1 l23.2), (vL l24.1 l24.2), (vL l25.1 l25.2)]), h20))))))) : Option (Value × AH)) := by kernel_rfl
theorem r65 {base : Nat} {v0_0 : Int} {v0_1 : Int} {v0_2 : Option Addr} {v0_2n : Nat} {v0_3 : Option Addr} {v0_3n : Nat} {v0_4 : Option Addr} {v0_4n : Nat} {h : AH} {r : Value × AH} (hx : (nw1 h 52 [(vI v0_0), (vI v0_1), (vL v0_2 v0_2n), (vL v0_3 v0_3n), (vL v0_4 v0_4n)] fun h1 =>
nw1 h1 52 [(vI 0), (vI 0), (vL none 0), (vL none 0), (vL none 0)] fun h2 =>
((cell h2 (List.length h) 2).bind getS).bind fun l3 =>
(run (Et base) 110 [(vL l3.1 l3.2)] h2).bind fun r4 =>
((some r4.1).bind getS).bind fun l5 =>
(gate (sameA h2 r4.2 (some ⟨(List.length h), 3, none⟩) 1)
(((cell r4.2 (List.length h) 3).bind getS).bind fun l6 =>
(run (Et base) 110 [(vL l6.1 l6.2)] r4.2).bind fun r7 =>
((some r7.1).bind getS).bind fun l8 =>
(gate (sameA r4.2 r7.2 (some ⟨(List.length h), 4, none⟩) 1)
((gate (sameA h2 r7.2 (some ⟨(List.length h), 4, none⟩) 1)
(((cell r7.2 (List.length h) 4).bind getS).bind fun l9 =>
(run (Et base) 111 [(vL l9.1 l9.2)] r7.2).bind fun r10 =>
((some r10.1).bind getS).bind fun l11 =>
(wr base r10.2 (List.length h) 2 [(vL l5.1 l5.2)]).bind fun h12 =>
(wr base h12 (List.length h) 3 [(vL l8.1 l8.2)]).bind fun h13 =>
(wr base h13 (List.length h) 4 [(vL l11.1 l11.2)]).bind fun h14 =>
c_IILLL h14 (List.length h) 0 fun n15 n16 l17 l18 l19 =>
(wr base h14 (List.length h1) 0 [(vI n15), (vI n16), (vL l17.1 l17.2), (vL l18.1 l18.2), (vL l19.1 l19.2)]).bind fun h20 =>
c_IILLL h20 (List.length h1) 0 fun n21 n22 l23 l24 l25 =>
some ((.agg #[(vI n21), (vI n22), (vL l23.1 l23.2), (vL l24.1 l24.2), (vL l25.1 l25.2)]), h20)))))))) = some r) : run (Et base) 65 [(.agg #[(vI v0_0), (vI v0_1), (vL v0_2 v0_2n), (vL v0_3 v0_3n), (vL v0_4 v0_4n)])] h = some r := run_i Try.func65 (by kernel_rfl) ((f65_eq base v0_0 v0_1 v0_2 v0_2n v0_3 v0_3n v0_4 v0_4n h).trans hx)
/-! impl.in (gates 0) -/
theorem f66_eq (base : Nat) (v0 : Int) (v1 : Int) (v2 : Int) (h : AH) : exFun (Et base) (run (Et base)) loopL a66 Try.f66 [(vI v0), (vI v1), (vI v2)] h =
((if (decide (v0 ≥ v1)) = true then
some ((.bool (decide (v0 ≤ v2))), h)
else
some ((.bool false), h)) : Option (Value × AH)) := by kernel_rfl
theorem r66 {base : Nat} {v0 : Int} {v1 : Int} {v2 : Int} {h : AH} {r : Value × AH} (hx : ((if (decide (v0 ≥ v1)) = true then
some ((.bool (decide (v0 ≤ v2))), h)
else
some ((.bool false), h))) = some r) : run (Et base) 66 [(vI v0), (vI v1), (vI v2)] h = some r := run_i Try.func66 (by kernel_rfl) ((f66_eq base v0 v1 v2 h).trans hx)
/-! impl.acts (gates 5) -/
noncomputable abbrev qf67 (base : Nat) (v0_0 : Int) (v0_1 : Int) (v0_2 : Int) (v0_3 : Int) (v0_4 : Int) (v0_5 : ByteArray) (v1 : Option Addr) (v1n : Nat) (v2 : Int) (h : AH) : Option (Value × AH) :=
nw1 h 82 [(vI v0_0), (vI v0_1), (vI v0_2), (vI v0_3), (vI v0_4), (vT v0_5)] fun h1 =>
nw1 h1 54 [(vI 0), (vI 0), (vI 0), (vI 0), (vI 0), (vT ⟨#[]⟩), (vL none 0)] fun h2 =>
((cell h2 (List.length h) 1).bind (getI .i64)).bind fun n3 =>
(if 0 ≤ n3 ∧ n3 < ((v1n : Nat) : Int) then
((v1 : Option Addr)).bind fun a4 =>
c_IITL h2 a4.block (a4.off + Int.toNat n3 * 4) fun n5 n6 s7 l8 =>
nw1 h2 38 [(vI 0), (vI 0), (vT ⟨#[]⟩), (vL none 0)] fun h9 =>
(wr base h9 (List.length h2) 0 [(vI n5), (vI n6), (vT s7), (vL l8.1 l8.2)]).bind fun h10 =>
((cell h10 (List.length h) 0).bind (getI .i64)).bind fun n11 =>
(if (n11 == (13 : Int)) = true then
((cell h10 (List.length h2) 1).bind (getI .i64)).bind fun n12 =>
((cell h10 (List.length h) 2).bind (getI .i64)).bind fun n13 =>
(if 0 ≤ n13 ∧ n13 < ((v1n : Nat) : Int) then
((v1 : Option Addr)).bind fun a14 =>
c_IITL h10 a14.block (a14.off + Int.toNat n13 * 4) fun n15 n16 s17 l18 =>
(run (Et base) 72 [(.agg #[(vI n15), (vI n16), (vT s17), (vL l18.1 l18.2)])] h10).bind fun r19 =>
gG (some r19.1) 4 fun l20 =>
l_IITL l20 fun n21 n22 s23 l24 =>
(gate (sameA h10 r19.2 (some ⟨(List.length h2), 1, none⟩) 1)
((gate (sameA h10 r19.2 (some ⟨(List.length h2), 0, none⟩) 1)
(((cell r19.2 (List.length h2) 0).bind (getI .i64)).bind fun n25 =>
(wr base r19.2 (List.length h1) 0 [(vI (3 : Int)), (vI n12), (vI (0 : Int)), (vI n21), (vI n22), (vT s23), (vL l24.1 l24.2)]).bind fun h26 =>
(gate (sameA r19.2 h26 (some ⟨(List.length h2), 0, none⟩) 1)
(c_IIIIITL h26 (List.length h1) 0 fun n27 n28 n29 n30 n31 s32 l33 =>
some ((.tuple #[(.agg #[(vI n27), (vI n28), (vI n29), (vI n30), (vI n31), (vT s32), (vL l33.1 l33.2)]), (.bool (n25 == (3 : Int)))]), h26)))))))
else none)
else
(if (n11 == (16 : Int)) = true then
((cell h10 (List.length h) 4).bind (getI .i64)).bind fun n34 =>
((cell h10 (List.length h) 2).bind (getI .i64)).bind fun n35 =>
(if 0 ≤ n35 ∧ n35 < ((v1n : Nat) : Int) then
((v1 : Option Addr)).bind fun a36 =>
c_IITL h10 a36.block (a36.off + Int.toNat n35 * 4) fun n37 n38 s39 l40 =>
(run (Et base) 72 [(.agg #[(vI n37), (vI n38), (vT s39), (vL l40.1 l40.2)])] h10).bind fun r41 =>
gG (some r41.1) 4 fun l42 =>
l_IITL l42 fun n43 n44 s45 l46 =>
(gate (sameA h10 r41.2 (some ⟨(List.length h), 4, none⟩) 1)
((wr base r41.2 (List.length h1) 0 [(vI (4 : Int)), (vI v2), (vI n34), (vI n43), (vI n44), (vT s45), (vL l46.1 l46.2)]).bind fun h47 =>
c_IIIIITL h47 (List.length h1) 0 fun n48 n49 n50 n51 n52 s53 l54 =>
some ((.tuple #[(.agg #[(vI n48), (vI n49), (vI n50), (vI n51), (vI n52), (vT s53), (vL l54.1 l54.2)]), (.bool true)]), h47)))
else none)
else
(if (n11 == (17 : Int)) = true then
c_IITL h10 (List.length h2) 0 fun n55 n56 s57 l58 =>
(run (Et base) 72 [(.agg #[(vI n55), (vI n56), (vT s57), (vL l58.1 l58.2)])] h10).bind fun r59 =>
gG (some r59.1) 4 fun l60 =>
l_IITL l60 fun n61 n62 s63 l64 =>
(wr base r59.2 (List.length h1) 0 [(vI (5 : Int)), (vI (0 : Int)), (vI (0 : Int)), (vI n61), (vI n62), (vT s63), (vL l64.1 l64.2)]).bind fun h65 =>
c_IIIIITL h65 (List.length h1) 0 fun n66 n67 n68 n69 n70 s71 l72 =>
some ((.tuple #[(.agg #[(vI n66), (vI n67), (vI n68), (vI n69), (vI n70), (vT s71), (vL l72.1 l72.2)]), (.bool true)]), h65)
else
(if (n11 == (18 : Int)) = true then
((cell h10 (List.length h2) 1).bind (getI .i64)).bind fun n73 =>
((cell h10 (List.length h2) 0).bind (getI .i64)).bind fun n74 =>
(wr base h10 (List.length h1) 0 [(vI (6 : Int)), (vI n73), (vI (0 : Int)), (vI (0 : Int)), (vI (0 : Int)), (vT (⟨#[]⟩ : ByteArray)), (vL none 0)]).bind fun h75 =>
(gate (sameA h10 h75 (some ⟨(List.length h2), 0, none⟩) 1)
(c_IIIIITL h75 (List.length h1) 0 fun n76 n77 n78 n79 n80 s81 l82 =>
some ((.tuple #[(.agg #[(vI n76), (vI n77), (vI n78), (vI n79), (vI n80), (vT s81), (vL l82.1 l82.2)]), (.bool (n74 == (3 : Int)))]), h75)))
else
(if (n11 == (19 : Int)) = true then
c_IITL h10 (List.length h2) 0 fun n83 n84 s85 l86 =>
(run (Et base) 72 [(.agg #[(vI n83), (vI n84), (vT s85), (vL l86.1 l86.2)])] h10).bind fun r87 =>
gG (some r87.1) 4 fun l88 =>
l_IITL l88 fun n89 n90 s91 l92 =>
(wr base r87.2 (List.length h1) 0 [(vI (7 : Int)), (vI (0 : Int)), (vI (0 : Int)), (vI n89), (vI n90), (vT s91), (vL l92.1 l92.2)]).bind fun h93 =>
c_IIIIITL h93 (List.length h1) 0 fun n94 n95 n96 n97 n98 s99 l100 =>
some ((.tuple #[(.agg #[(vI n94), (vI n95), (vI n96), (vI n97), (vI n98), (vT s99), (vL l100.1 l100.2)]), (.bool true)]), h93)
else
(wr base h10 (List.length h1) 0 [(vI (1 : Int)), (vI (0 : Int)), (vI (0 : Int)), (vI (0 : Int)), (vI (0 : Int)), (vT (⟨#[]⟩ : ByteArray)), (vL none 0)]).bind fun h101 =>
c_IIIIITL h101 (List.length h1) 0 fun n102 n103 n104 n105 n106 s107 l108 =>
some ((.tuple #[(.agg #[(vI n102), (vI n103), (vI n104), (vI n105), (vI n106), (vT s107), (vL l108.1 l108.2)]), (.bool true)]), h101))))))
else none)
theorem f67_eq (base : Nat) (v0_0 : Int) (v0_1 : Int) (v0_2 : Int) (v0_3 : Int) (v0_4 : Int) (v0_5 : ByteArray) (v1 : Option Addr) (v1n : Nat) (v2 : Int) (h : AH) : exFun (Et base) (run (Et base)) loopL a67 Try.f67 [(.agg #[(vI v0_0), (vI v0_1), (vI v0_2), (vI v0_3), (vI v0_4), (vT v0_5)]), (vL v1 v1n), (vI v2)] h = qf67 base v0_0 v0_1 v0_2 v0_3 v0_4 v0_5 v1 v1n v2 h := by kernel_rfl
theorem r67 {base : Nat} {v0_0 : Int} {v0_1 : Int} {v0_2 : Int} {v0_3 : Int} {v0_4 : Int} {v0_5 : ByteArray} {v1 : Option Addr} {v1n : Nat} {v2 : Int} {h : AH} {r : Value × AH} (hx : qf67 base v0_0 v0_1 v0_2 v0_3 v0_4 v0_5 v1 v1n v2 h = some r) : run (Et base) 67 [(.agg #[(vI v0_0), (vI v0_1), (vI v0_2), (vI v0_3), (vI v0_4), (vT v0_5)]), (vL v1 v1n), (vI v2)] h = some r := run_i Try.func67 (by kernel_rfl) ((f67_eq base v0_0 v0_1 v0_2 v0_3 v0_4 v0_5 v1 v1n v2 h).trans hx)
/-! impl.fault (gates 0) -/
theorem f68_eq (base : Nat)  (h : AH) : exFun (Et base) (run (Et base)) loopL a68 Try.f68 [] h =
((some (h ++ [some ⟨[(.int .i64 0), (.int .i64 0), (.int .i64 0), (.int .i64 0), (.int .i64 0), (.string ⟨#[]⟩), (.slice none 0 0)], 54⟩])).bind fun h1 =>
(run (Et base) 112 [(.string (⟨#[102, 97, 117, 108, 116]⟩ : ByteArray))] h1).bind fun r2 =>
((some r2.1).bind (getAgg 4)).bind fun l3 =>
((l3[0]?).bind (getI .i64)).bind fun n4 =>
((l3[1]?).bind (getI .i64)).bind fun n5 =>
((l3[2]?).bind getStr).bind fun s6 =>
((l3[3]?).bind getS).bind fun l7 =>
(wr base r2.2 (List.length h) 0 [(.int .i64 (7 : Int)), (.int .i64 (0 : Int)), (.int .i64 (0 : Int)), (.int .i64 n4), (.int .i64 n5), (.string s6), (.slice l7.1 l7.2 l7.2)]).bind fun h8 =>
((cell h8 (List.length h) 0).bind (getI .i64)).bind fun n9 =>
((cell h8 (List.length h) 1).bind (getI .i64)).bind fun n10 =>
((cell h8 (List.length h) 2).bind (getI .i64)).bind fun n11 =>
((cell h8 (List.length h) 3).bind (getI .i64)).bind fun n12 =>
((cell h8 (List.length h) 4).bind (getI .i64)).bind fun n13 =>
((cell h8 (List.length h) 5).bind getStr).bind fun s14 =>
((cell h8 (List.length h) 6).bind getS).bind fun l15 =>
some ((.agg #[(.int .i64 n9), (.int .i64 n10), (.int .i64 n11), (.int .i64 n12), (.int .i64 n13), (.string s14), (.slice l15.1 l15.2 l15.2)]), h8) : Option (Value × AH)) := by kernel_rfl
theorem r68 {base : Nat}  {h : AH} {r : Value × AH} (hx : ((some (h ++ [some ⟨[(.int .i64 0), (.int .i64 0), (.int .i64 0), (.int .i64 0), (.int .i64 0), (.string ⟨#[]⟩), (.slice none 0 0)], 54⟩])).bind fun h1 =>
(run (Et base) 112 [(.string (⟨#[102, 97, 117, 108, 116]⟩ : ByteArray))] h1).bind fun r2 =>
((some r2.1).bind (getAgg 4)).bind fun l3 =>
((l3[0]?).bind (getI .i64)).bind fun n4 =>
((l3[1]?).bind (getI .i64)).bind fun n5 =>
((l3[2]?).bind getStr).bind fun s6 =>
((l3[3]?).bind getS).bind fun l7 =>
(wr base r2.2 (List.length h) 0 [(.int .i64 (7 : Int)), (.int .i64 (0 : Int)), (.int .i64 (0 : Int)), (.int .i64 n4), (.int .i64 n5), (.string s6), (.slice l7.1 l7.2 l7.2)]).bind fun h8 =>
((cell h8 (List.length h) 0).bind (getI .i64)).bind fun n9 =>
((cell h8 (List.length h) 1).bind (getI .i64)).bind fun n10 =>
((cell h8 (List.length h) 2).bind (getI .i64)).bind fun n11 =>
((cell h8 (List.length h) 3).bind (getI .i64)).bind fun n12 =>
((cell h8 (List.length h) 4).bind (getI .i64)).bind fun n13 =>
((cell h8 (List.length h) 5).bind getStr).bind fun s14 =>
((cell h8 (List.length h) 6).bind getS).bind fun l15 =>
some ((.agg #[(.int .i64 n9), (.int .i64 n10), (.int .i64 n11), (.int .i64 n12), (.int .i64 n13), (.string s14), (.slice l15.1 l15.2 l15.2)]), h8)) = some r) : run (Et base) 68 [] h = some r := run_i Try.func68 (by kernel_rfl) ((f68_eq base  h).trans hx)
/-! impl.makes (gates 0) -/
theorem f69_eq (base : Nat) (v0 : Int) (h : AH) : exFun (Et base) (run (Et base)) loopL a69 Try.f69 [(vI v0)] h =
(((if (v0 == (10 : Int)) = true then
some (.inl ([some (.bool (v0 == (10 : Int)))], h))
else
(if (v0 == (11 : Int)) = true then
some (.inl ([some (.bool (v0 == (11 : Int)))], h))
else
(if (v0 == (12 : Int)) = true then
some (.inl ([some (.bool (v0 == (12 : Int)))], h))
else
(if (v0 == (13 : Int)) = true then
some (.inl ([some (.bool (v0 == (13 : Int)))], h))
else
(if (v0 == (17 : Int)) = true then
some (.inl ([some (.bool (v0 == (17 : Int)))], h))
else
(if (v0 == (18 : Int)) = true then
some (.inl ([some (.bool (v0 == (18 : Int)))], h))
else
some (.inl ([some (.bool (v0 == (19 : Int)))], h))))))))).bind fun j1 => joinK j1 fun j1 =>
((sget j1.1 0).bind getB).bind fun b2 =>
(if b2 = true then
some ((.bool false), j1.2)
else
some ((.bool true), j1.2)) : Option (Value × AH)) := by kernel_rfl
theorem r69 {base : Nat} {v0 : Int} {h : AH} {r : Value × AH} (hx : (((if (v0 == (10 : Int)) = true then
some (.inl ([some (.bool (v0 == (10 : Int)))], h))
else
(if (v0 == (11 : Int)) = true then
some (.inl ([some (.bool (v0 == (11 : Int)))], h))
else
(if (v0 == (12 : Int)) = true then
some (.inl ([some (.bool (v0 == (12 : Int)))], h))
else
(if (v0 == (13 : Int)) = true then
some (.inl ([some (.bool (v0 == (13 : Int)))], h))
else
(if (v0 == (17 : Int)) = true then
some (.inl ([some (.bool (v0 == (17 : Int)))], h))
else
(if (v0 == (18 : Int)) = true then
some (.inl ([some (.bool (v0 == (18 : Int)))], h))
else
some (.inl ([some (.bool (v0 == (19 : Int)))], h))))))))).bind fun j1 => joinK j1 fun j1 =>
((sget j1.1 0).bind getB).bind fun b2 =>
(if b2 = true then
some ((.bool false), j1.2)
else
some ((.bool true), j1.2))) = some r) : run (Et base) 69 [(vI v0)] h = some r := run_i Try.func69 (by kernel_rfl) ((f69_eq base v0 h).trans hx)
/-! impl.made (gates 15) -/
noncomputable abbrev qf70 (base : Nat) (v0_0 : Int) (v0_1 : Int) (v0_2 : Int) (v0_3 : Int) (v0_4 : Int) (v0_5 : ByteArray) (v1 : Option Addr) (v1n : Nat) (v2 : Int) (v3 : Int) (h : AH) : Option (Value × AH) :=
nw1 h 82 [(vI v0_0), (vI v0_1), (vI v0_2), (vI v0_3), (vI v0_4), (vT v0_5)] fun h1 =>
nw1 h1 38 [(vI 0), (vI 0), (vT ⟨#[]⟩), (vL none 0)] fun h2 =>
((cell h2 (List.length h) 2).bind (getI .i64)).bind fun n3 =>
(if 0 ≤ n3 ∧ n3 < ((v1n : Nat) : Int) then
((v1 : Option Addr)).bind fun a4 =>
c_IITL h2 a4.block (a4.off + Int.toNat n3 * 4) fun n5 n6 s7 l8 =>
((cell h2 (List.length h) 3).bind (getI .i64)).bind fun n9 =>
(if 0 ≤ n9 ∧ n9 < ((v1n : Nat) : Int) then
((v1 : Option Addr)).bind fun a10 =>
c_IITL h2 a10.block (a10.off + Int.toNat n9 * 4) fun n11 n12 s13 l14 =>
(gate (neA (some ⟨a10.block, (a10.off + Int.toNat n9 * 4), none⟩) (List.length h2))
((gate (neA (some ⟨(List.length h), 3, none⟩) (List.length h2))
((gate (neA (some ⟨a4.block, (a4.off + Int.toNat n3 * 4), none⟩) (List.length h2))
((gate (neA (some ⟨(List.length h), 2, none⟩) (List.length h2))
(nw1 h2 38 [(vI 0), (vI 0), (vT ⟨#[]⟩), (vL none 0)] fun h15 =>
(gate (neA (some ⟨a10.block, (a10.off + Int.toNat n9 * 4), none⟩) (List.length h15))
((gate (neA (some ⟨(List.length h), 3, none⟩) (List.length h15))
((gate (neA (some ⟨a4.block, (a4.off + Int.toNat n3 * 4), none⟩) (List.length h15))
((gate (neA (some ⟨(List.length h), 2, none⟩) (List.length h15))
(nw1 h15 38 [(vI 0), (vI 0), (vT ⟨#[]⟩), (vL none 0)] fun h16 =>
(wr base h16 (List.length h2) 0 [(vI n5), (vI n6), (vT s7), (vL l8.1 l8.2)]).bind fun h17 =>
(gate (sameA h16 h17 (some ⟨a10.block, (a10.off + Int.toNat n9 * 4), none⟩) 4)
((gate (sameA h16 h17 (some ⟨(List.length h), 3, none⟩) 1)
((wr base h17 (List.length h15) 0 [(vI n11), (vI n12), (vT s13), (vL l14.1 l14.2)]).bind fun h18 =>
((cell h18 (List.length h) 0).bind (getI .i64)).bind fun n19 =>
(if (n19 == (1 : Int)) = true then
((cell h18 (List.length h) 4).bind (getI .i64)).bind fun n20 =>
(wr base h18 (List.length h1) 0 [(vI (1 : Int)), (vI n20), (vT (⟨#[]⟩ : ByteArray)), (vL none 0)]).bind fun h21 =>
c_IITL h21 (List.length h1) 0 fun n22 n23 s24 l25 =>
some ((.tuple #[(.agg #[(vI n22), (vI n23), (vT s24), (vL l25.1 l25.2)]), (.bool true)]), h21)
else
(if (n19 == (2 : Int)) = true then
((cell h18 (List.length h) 5).bind getStr).bind fun s26 =>
(run (Et base) 112 [(vT s26)] h18).bind fun r27 =>
gG (some r27.1) 4 fun l28 =>
l_IITL l28 fun n29 n30 s31 l32 =>
(wr base r27.2 (List.length h1) 0 [(vI n29), (vI n30), (vT s31), (vL l32.1 l32.2)]).bind fun h33 =>
c_IITL h33 (List.length h1) 0 fun n34 n35 s36 l37 =>
some ((.tuple #[(.agg #[(vI n34), (vI n35), (vT s36), (vL l37.1 l37.2)]), (.bool true)]), h33)
else
(if (n19 == (20 : Int)) = true then
(wr base h18 (List.length h1) 0 [(vI (5 : Int)), (vI (0 : Int)), (vT (⟨#[]⟩ : ByteArray)), (vL none 0)]).bind fun h38 =>
c_IITL h38 (List.length h1) 0 fun n39 n40 s41 l42 =>
some ((.tuple #[(.agg #[(vI n39), (vI n40), (vT s41), (vL l42.1 l42.2)]), (.bool true)]), h38)
else
(if (n19 == (3 : Int)) = true then
c_IITL h18 (List.length h2) 0 fun n43 n44 s45 l46 =>
(wr base h18 (List.length h1) 0 [(vI n43), (vI n44), (vT s45), (vL l46.1 l46.2)]).bind fun h47 =>
c_IITL h47 (List.length h1) 0 fun n48 n49 s50 l51 =>
some ((.tuple #[(.agg #[(vI n48), (vI n49), (vT s50), (vL l51.1 l51.2)]), (.bool true)]), h47)
else
(if (n19 == (4 : Int)) = true then
((cell h18 (List.length h) 2).bind (getI .i64)).bind fun n52 =>
((cell h18 (List.length h) 2).bind (getI .i64)).bind fun n53 =>
((cell h18 (List.length h) 4).bind (getI .i64)).bind fun n54 =>
(if 0 ≤ n52 ∧ n52 ≤ (IntKind.wrap .i64 (n53 + n54)) ∧ (IntKind.wrap .i64 (n53 + n54)) ≤ ((v1n : Nat) : Int) ∧ okTy base h18 v1 38 (Int.toNat n52) = true then
(wr base h18 (List.length h1) 0 [(vI (4 : Int)), (vI (0 : Int)), (vT (⟨#[]⟩ : ByteArray)), (.slice (shiftA v1 (Int.toNat n52 * 4)) (Int.toNat (IntKind.wrap .i64 (n53 + n54)) - Int.toNat n52) (Int.toNat (IntKind.wrap .i64 (n53 + n54)) - Int.toNat n52))]).bind fun h55 =>
c_IITL h55 (List.length h1) 0 fun n56 n57 s58 l59 =>
some ((.tuple #[(.agg #[(vI n56), (vI n57), (vT s58), (vL l59.1 l59.2)]), (.bool true)]), h55)
else none)
else
(if (n19 == (5 : Int)) = true then
c_IITL h18 (List.length h2) 0 fun n60 n61 s62 l63 =>
nw1 h18 38 [(vI n60), (vI n61), (vT s62), (vL l63.1 l63.2)] fun h64 =>
(gate (neA (some ⟨(List.length h15), 3, none⟩) (List.length h18))
(((cell h64 (List.length h15) 3).bind getS).bind fun l65 =>
(app base h64 38 4 56 (some ⟨(List.length h18), 0, none⟩) 1 (rawAt h64 l65.1 (l65.2 * 4)) l65.2).bind fun p66 =>
((some p66.1).bind getS).bind fun l67 =>
(gate (neA (some ⟨(List.length h15), 0, none⟩) (List.length h18))
((gate (sameA h64 p66.2 (some ⟨(List.length h15), 0, none⟩) 1)
(((cell p66.2 (List.length h15) 0).bind (getI .i64)).bind fun n68 =>
(wr base p66.2 (List.length h1) 0 [(vI (5 : Int)), (vI (0 : Int)), (vT (⟨#[]⟩ : ByteArray)), (vL l67.1 l67.2)]).bind fun h69 =>
(gate (sameA p66.2 h69 (some ⟨(List.length h15), 0, none⟩) 1)
(c_IITL h69 (List.length h1) 0 fun n70 n71 s72 l73 =>
some ((.tuple #[(.agg #[(vI n70), (vI n71), (vT s72), (vL l73.1 l73.2)]), (.bool (n68 == (5 : Int)))]), h69)))))))))
else
(if (n19 == (6 : Int)) = true then
(((cell h18 (List.length h2) 0).bind (getI .i64)).bind fun n75 =>
(if (n75 != (4 : Int)) = true then
some (.inl ([some (vP (List.length h)), some (vP (List.length h1)), some (vP (List.length h2)), some (.bool true)], h18))
else
((cell h18 (List.length h) 4).bind (getI .i64)).bind fun n76 =>
((cell h18 (List.length h2) 3).bind getS).bind fun l77 =>
some (.inl ([some (vP (List.length h)), some (vP (List.length h1)), some (vP (List.length h2)), some (.bool (decide (n76 ≥ ((l77.2 : Nat) : Int))))], h18)))).bind fun j74 => joinK j74 fun j74 =>
j_AAAB j74.1 fun d78 d79 d80 b81 =>
(if b81 = true then
(wr base j74.2 d79.block d79.off [(vI (0 : Int)), (vI (0 : Int)), (vT (⟨#[]⟩ : ByteArray)), (vL none 0)]).bind fun h82 =>
c_IITL h82 d79.block d79.off fun n83 n84 s85 l86 =>
some ((.tuple #[(.agg #[(vI n83), (vI n84), (vT s85), (vL l86.1 l86.2)]), (.bool false)]), h82)
else
((cell j74.2 d80.block (d80.off + 3)).bind getS).bind fun l87 =>
((cell j74.2 d78.block (d78.off + 4)).bind (getI .i64)).bind fun n88 =>
(if 0 ≤ n88 ∧ n88 < ((l87.2 : Nat) : Int) then
((l87.1 : Option Addr)).bind fun a89 =>
c_IITL j74.2 a89.block (a89.off + Int.toNat n88 * 4) fun n90 n91 s92 l93 =>
(wr base j74.2 d79.block d79.off [(vI n90), (vI n91), (vT s92), (vL l93.1 l93.2)]).bind fun h94 =>
c_IITL h94 d79.block d79.off fun n95 n96 s97 l98 =>
some ((.tuple #[(.agg #[(vI n95), (vI n96), (vT s97), (vL l98.1 l98.2)]), (.bool true)]), h94)
else none))
else
((if (n19 == (7 : Int)) = true then
some (.inl ([some (vI v2), some (vI v3), some (vP (List.length h)), some (vP (List.length h1)), some (vP (List.length h2)), some (vP (List.length h15)), some (vI n19), some (.bool (n19 == (7 : Int)))], h18))
else
some (.inl ([some (vI v2), some (vI v3), some (vP (List.length h)), some (vP (List.length h1)), some (vP (List.length h2)), some (vP (List.length h15)), some (vI n19), some (.bool (n19 == (8 : Int)))], h18)))).bind fun j99 => joinK j99 fun j99 =>
j_IIAAAAIB j99.1 fun n100 n101 d102 d103 d104 d105 n106 b107 =>
(if b107 = true then
(((cell j99.2 d104.block (d104.off + 0)).bind (getI .i64)).bind fun n109 =>
(if (n109 != (5 : Int)) = true then
some (.inl ([some (vA d102), some (vA d103), some (vA d104), some (.bool true)], j99.2))
else
((cell j99.2 d104.block (d104.off + 3)).bind getS).bind fun l110 =>
some (.inl ([some (vA d102), some (vA d103), some (vA d104), some (.bool (((l110.2 : Nat) : Int) == (0 : Int)))], j99.2)))).bind fun j108 => joinK j108 fun j108 =>
j_AAAB j108.1 fun d111 d112 d113 b114 =>
(if b114 = true then
(wr base j108.2 d112.block d112.off [(vI (0 : Int)), (vI (0 : Int)), (vT (⟨#[]⟩ : ByteArray)), (vL none 0)]).bind fun h115 =>
c_IITL h115 d112.block d112.off fun n116 n117 s118 l119 =>
some ((.tuple #[(.agg #[(vI n116), (vI n117), (vT s118), (vL l119.1 l119.2)]), (.bool false)]), h115)
else
((cell j108.2 d111.block (d111.off + 0)).bind (getI .i64)).bind fun n120 =>
(if (n120 == (7 : Int)) = true then
((cell j108.2 d113.block (d113.off + 3)).bind getS).bind fun l121 =>
(if 0 ≤ (0 : Int) ∧ (0 : Int) < ((l121.2 : Nat) : Int) then
((l121.1 : Option Addr)).bind fun a122 =>
c_IITL j108.2 a122.block (a122.off + Int.toNat (0 : Int) * 4) fun n123 n124 s125 l126 =>
(wr base j108.2 d112.block d112.off [(vI n123), (vI n124), (vT s125), (vL l126.1 l126.2)]).bind fun h127 =>
c_IITL h127 d112.block d112.off fun n128 n129 s130 l131 =>
some ((.tuple #[(.agg #[(vI n128), (vI n129), (vT s130), (vL l131.1 l131.2)]), (.bool true)]), h127)
else none)
else
((cell j108.2 d113.block (d113.off + 3)).bind getS).bind fun l132 =>
(if 0 ≤ (1 : Int) ∧ (1 : Int) ≤ ((l132.2 : Nat) : Int) ∧ ((l132.2 : Nat) : Int) ≤ ((l132.2 : Nat) : Int) ∧ okTy base j108.2 l132.1 38 (Int.toNat (1 : Int)) = true then
(wr base j108.2 d112.block d112.off [(vI (5 : Int)), (vI (0 : Int)), (vT (⟨#[]⟩ : ByteArray)), (.slice (shiftA l132.1 (Int.toNat (1 : Int) * 4)) (Int.toNat ((l132.2 : Nat) : Int) - Int.toNat (1 : Int)) (Int.toNat ((l132.2 : Nat) : Int) - Int.toNat (1 : Int)))]).bind fun h133 =>
c_IITL h133 d112.block d112.off fun n134 n135 s136 l137 =>
some ((.tuple #[(.agg #[(vI n134), (vI n135), (vT s136), (vL l137.1 l137.2)]), (.bool true)]), h133)
else none)))
else
(if (n106 == (9 : Int)) = true then
((cell j99.2 d104.block (d104.off + 1)).bind (getI .i64)).bind fun n138 =>
((cell j99.2 d105.block (d105.off + 1)).bind (getI .i64)).bind fun n139 =>
((cell j99.2 d104.block (d104.off + 0)).bind (getI .i64)).bind fun n140 =>
(if (n140 == (1 : Int)) = true then
((cell j99.2 d105.block (d105.off + 0)).bind (getI .i64)).bind fun n141 =>
(wr base j99.2 d103.block d103.off [(vI (1 : Int)), (vI (IntKind.wrap .i64 (n138 + n139))), (vT (⟨#[]⟩ : ByteArray)), (vL none 0)]).bind fun h142 =>
(gate (sameA j99.2 h142 (some ⟨d105.block, (d105.off + 0), none⟩) 1)
(c_IITL h142 d103.block d103.off fun n143 n144 s145 l146 =>
some ((.tuple #[(.agg #[(vI n143), (vI n144), (vT s145), (vL l146.1 l146.2)]), (.bool (n141 == (1 : Int)))]), h142)))
else
(wr base j99.2 d103.block d103.off [(vI (1 : Int)), (vI (IntKind.wrap .i64 (n138 + n139))), (vT (⟨#[]⟩ : ByteArray)), (vL none 0)]).bind fun h147 =>
c_IITL h147 d103.block d103.off fun n148 n149 s150 l151 =>
some ((.tuple #[(.agg #[(vI n148), (vI n149), (vT s150), (vL l151.1 l151.2)]), (.bool false)]), h147))
else
(if (n106 == (15 : Int)) = true then
(wr base j99.2 d103.block d103.off [(vI (3 : Int)), (vI n100), (vT (⟨#[]⟩ : ByteArray)), (vL none 0)]).bind fun h152 =>
c_IITL h152 d103.block d103.off fun n153 n154 s155 l156 =>
some ((.tuple #[(.agg #[(vI n153), (vI n154), (vT s155), (vL l156.1 l156.2)]), (.bool true)]), h152)
else
(wr base j99.2 d103.block d103.off [(vI (3 : Int)), (vI n101), (vT (⟨#[]⟩ : ByteArray)), (vL none 0)]).bind fun h157 =>
c_IITL h157 d103.block d103.off fun n158 n159 s160 l161 =>
some ((.tuple #[(.agg #[(vI n158), (vI n159), (vT s160), (vL l161.1 l161.2)]), (.bool true)]), h157)))))))))))))))))))))))))))))))
else none)
else none)
theorem f70_eq (base : Nat) (v0_0 : Int) (v0_1 : Int) (v0_2 : Int) (v0_3 : Int) (v0_4 : Int) (v0_5 : ByteArray) (v1 : Option Addr) (v1n : Nat) (v2 : Int) (v3 : Int) (h : AH) : exFun (Et base) (run (Et base)) loopL a70 Try.f70 [(.agg #[(vI v0_0), (vI v0_1), (vI v0_2), (vI v0_3), (vI v0_4), (vT v0_5)]), (vL v1 v1n), (vI v2), (vI v3)] h = qf70 base v0_0 v0_1 v0_2 v0_3 v0_4 v0_5 v1 v1n v2 v3 h := by kernel_rfl
theorem r70 {base : Nat} {v0_0 : Int} {v0_1 : Int} {v0_2 : Int} {v0_3 : Int} {v0_4 : Int} {v0_5 : ByteArray} {v1 : Option Addr} {v1n : Nat} {v2 : Int} {v3 : Int} {h : AH} {r : Value × AH} (hx : qf70 base v0_0 v0_1 v0_2 v0_3 v0_4 v0_5 v1 v1n v2 v3 h = some r) : run (Et base) 70 [(.agg #[(vI v0_0), (vI v0_1), (vI v0_2), (vI v0_3), (vI v0_4), (vT v0_5)]), (vL v1 v1n), (vI v2), (vI v3)] h = some r := run_i Try.func70 (by kernel_rfl) ((f70_eq base v0_0 v0_1 v0_2 v0_3 v0_4 v0_5 v1 v1n v2 v3 h).trans hx)
/-! impl.TermOk (gates 0) -/
theorem f71_eq (base : Nat) (v0_0 : Int) (v0_1 : Int) (v0_2 : ByteArray) (v0_3 : Option Addr) (v0_3n : Nat) (h : AH) : exFun (Et base) (run (Et base)) loopL a71 Try.f71 [(.agg #[(vI v0_0), (vI v0_1), (vT v0_2), (vL v0_3 v0_3n)])] h =
((some (h ++ [some ⟨[(.int .i64 v0_0), (.int .i64 v0_1), (.string v0_2), (.slice v0_3 v0_3n v0_3n)], 38⟩])).bind fun h1 =>
((cell h1 (List.length h) 0).bind (getI .i64)).bind fun n2 =>
((cell h1 (List.length h) 1).bind (getI .i64)).bind fun n3 =>
((cell h1 (List.length h) 2).bind getStr).bind fun s4 =>
((cell h1 (List.length h) 3).bind getS).bind fun l5 =>
(run (Et base) 113 [(.agg #[(.int .i64 n2), (.int .i64 n3), (.string s4), (.slice l5.1 l5.2 l5.2)]), (.int .i64 (1 : Int)), (.int .i64 (0 : Int))] h1).bind fun r6 =>
(getTup 2 r6.1).bind fun l7 =>
((l7[0]?).bind (getI .i64)).bind fun n8 =>
((l7[1]?).bind getB).bind fun b9 =>
some ((.bool b9), r6.2) : Option (Value × AH)) := by kernel_rfl
theorem r71 {base : Nat} {v0_0 : Int} {v0_1 : Int} {v0_2 : ByteArray} {v0_3 : Option Addr} {v0_3n : Nat} {h : AH} {r : Value × AH} (hx : ((some (h ++ [some ⟨[(.int .i64 v0_0), (.int .i64 v0_1), (.string v0_2), (.slice v0_3 v0_3n v0_3n)], 38⟩])).bind fun h1 =>
((cell h1 (List.length h) 0).bind (getI .i64)).bind fun n2 =>
((cell h1 (List.length h) 1).bind (getI .i64)).bind fun n3 =>
((cell h1 (List.length h) 2).bind getStr).bind fun s4 =>
((cell h1 (List.length h) 3).bind getS).bind fun l5 =>
(run (Et base) 113 [(.agg #[(.int .i64 n2), (.int .i64 n3), (.string s4), (.slice l5.1 l5.2 l5.2)]), (.int .i64 (1 : Int)), (.int .i64 (0 : Int))] h1).bind fun r6 =>
(getTup 2 r6.1).bind fun l7 =>
((l7[0]?).bind (getI .i64)).bind fun n8 =>
((l7[1]?).bind getB).bind fun b9 =>
some ((.bool b9), r6.2)) = some r) : run (Et base) 71 [(.agg #[(vI v0_0), (vI v0_1), (vT v0_2), (vL v0_3 v0_3n)])] h = some r := run_i Try.func71 (by kernel_rfl) ((f71_eq base v0_0 v0_1 v0_2 v0_3 v0_3n h).trans hx)
/-! impl.copyTerm (gates 0) -/
theorem f72_eq (base : Nat) (v0_0 : Int) (v0_1 : Int) (v0_2 : ByteArray) (v0_3 : Option Addr) (v0_3n : Nat) (h : AH) : exFun (Et base) (run (Et base)) loopL a72 Try.f72 [(.agg #[(vI v0_0), (vI v0_1), (vT v0_2), (vL v0_3 v0_3n)])] h =
((some (h ++ [some ⟨[(.int .i64 v0_0), (.int .i64 v0_1), (.string v0_2), (.slice v0_3 v0_3n v0_3n)], 38⟩])).bind fun h1 =>
(some (h1 ++ [some ⟨[(.int .i64 0), (.int .i64 0), (.string ⟨#[]⟩), (.slice none 0 0)], 38⟩])).bind fun h2 =>
((cell h2 (List.length h) 3).bind getS).bind fun l3 =>
(run (Et base) 110 [(.slice l3.1 l3.2 l3.2)] h2).bind fun r4 =>
((some r4.1).bind getS).bind fun l5 =>
(wr base r4.2 (List.length h) 3 [(.slice l5.1 l5.2 l5.2)]).bind fun h6 =>
((cell h6 (List.length h) 0).bind (getI .i64)).bind fun n7 =>
((cell h6 (List.length h) 1).bind (getI .i64)).bind fun n8 =>
((cell h6 (List.length h) 2).bind getStr).bind fun s9 =>
((cell h6 (List.length h) 3).bind getS).bind fun l10 =>
(wr base h6 (List.length h1) 0 [(.int .i64 n7), (.int .i64 n8), (.string s9), (.slice l10.1 l10.2 l10.2)]).bind fun h11 =>
((cell h11 (List.length h1) 0).bind (getI .i64)).bind fun n12 =>
((cell h11 (List.length h1) 1).bind (getI .i64)).bind fun n13 =>
((cell h11 (List.length h1) 2).bind getStr).bind fun s14 =>
((cell h11 (List.length h1) 3).bind getS).bind fun l15 =>
some ((.agg #[(.int .i64 n12), (.int .i64 n13), (.string s14), (.slice l15.1 l15.2 l15.2)]), h11) : Option (Value × AH)) := by kernel_rfl
theorem r72 {base : Nat} {v0_0 : Int} {v0_1 : Int} {v0_2 : ByteArray} {v0_3 : Option Addr} {v0_3n : Nat} {h : AH} {r : Value × AH} (hx : ((some (h ++ [some ⟨[(.int .i64 v0_0), (.int .i64 v0_1), (.string v0_2), (.slice v0_3 v0_3n v0_3n)], 38⟩])).bind fun h1 =>
(some (h1 ++ [some ⟨[(.int .i64 0), (.int .i64 0), (.string ⟨#[]⟩), (.slice none 0 0)], 38⟩])).bind fun h2 =>
((cell h2 (List.length h) 3).bind getS).bind fun l3 =>
(run (Et base) 110 [(.slice l3.1 l3.2 l3.2)] h2).bind fun r4 =>
((some r4.1).bind getS).bind fun l5 =>
(wr base r4.2 (List.length h) 3 [(.slice l5.1 l5.2 l5.2)]).bind fun h6 =>
((cell h6 (List.length h) 0).bind (getI .i64)).bind fun n7 =>
((cell h6 (List.length h) 1).bind (getI .i64)).bind fun n8 =>
((cell h6 (List.length h) 2).bind getStr).bind fun s9 =>
((cell h6 (List.length h) 3).bind getS).bind fun l10 =>
(wr base h6 (List.length h1) 0 [(.int .i64 n7), (.int .i64 n8), (.string s9), (.slice l10.1 l10.2 l10.2)]).bind fun h11 =>
((cell h11 (List.length h1) 0).bind (getI .i64)).bind fun n12 =>
((cell h11 (List.length h1) 1).bind (getI .i64)).bind fun n13 =>
((cell h11 (List.length h1) 2).bind getStr).bind fun s14 =>
((cell h11 (List.length h1) 3).bind getS).bind fun l15 =>
some ((.agg #[(.int .i64 n12), (.int .i64 n13), (.string s14), (.slice l15.1 l15.2 l15.2)]), h11)) = some r) : run (Et base) 72 [(.agg #[(vI v0_0), (vI v0_1), (vT v0_2), (vL v0_3 v0_3n)])] h = some r := run_i Try.func72 (by kernel_rfl) ((f72_eq base v0_0 v0_1 v0_2 v0_3 v0_3n h).trans hx)
/-! impl.jumps (gates 0) -/
theorem f73_eq (base : Nat) (v0_0 : Int) (v0_1 : Int) (v0_2 : Int) (v0_3 : Int) (v0_4 : Int) (v0_5 : ByteArray) (v1 : Option Addr) (v1n : Nat) (h : AH) : exFun (Et base) (run (Et base)) loopL a73 Try.f73 [(.agg #[(vI v0_0), (vI v0_1), (vI v0_2), (vI v0_3), (vI v0_4), (vT v0_5)]), (vL v1 v1n)] h =
(nw1 h 82 [(vI v0_0), (vI v0_1), (vI v0_2), (vI v0_3), (vI v0_4), (vT v0_5)] fun h1 =>
((cell h1 (List.length h) 0).bind (getI .i64)).bind fun n2 =>
(if (n2 == (10 : Int)) = true then
((cell h1 (List.length h) 1).bind (getI .i64)).bind fun n3 =>
(if 0 ≤ n3 ∧ n3 < ((v1n : Nat) : Int) then
((v1 : Option Addr)).bind fun a4 =>
c_IITL h1 a4.block (a4.off + Int.toNat n3 * 4) fun n5 n6 s7 l8 =>
((cell h1 (List.length h) 2).bind (getI .i64)).bind fun n9 =>
(if 0 ≤ n9 ∧ n9 < ((v1n : Nat) : Int) then
((v1 : Option Addr)).bind fun a10 =>
c_IITL h1 a10.block (a10.off + Int.toNat n9 * 4) fun n11 n12 s13 l14 =>
(run (Et base) 114 [(.agg #[(vI n5), (vI n6), (vT s7), (vL l8.1 l8.2)]), (.agg #[(vI n11), (vI n12), (vT s13), (vL l14.1 l14.2)])] h1).bind fun r15 =>
((some r15.1).bind getB).bind fun b16 =>
some ((.bool (!b16)), r15.2)
else none)
else none)
else
(if (n2 == (11 : Int)) = true then
((cell h1 (List.length h) 1).bind (getI .i64)).bind fun n17 =>
(if 0 ≤ n17 ∧ n17 < ((v1n : Nat) : Int) then
((v1 : Option Addr)).bind fun a18 =>
((cell h1 a18.block ((a18.off + Int.toNat n17 * 4) + 0)).bind (getI .i64)).bind fun n19 =>
((cell h1 (List.length h) 2).bind (getI .i64)).bind fun n20 =>
some ((.bool (n19 != n20)), h1)
else none)
else
((cell h1 (List.length h) 0).bind (getI .i64)).bind fun n21 =>
some ((.bool (n21 == (12 : Int))), h1))) : Option (Value × AH)) := by kernel_rfl
theorem r73 {base : Nat} {v0_0 : Int} {v0_1 : Int} {v0_2 : Int} {v0_3 : Int} {v0_4 : Int} {v0_5 : ByteArray} {v1 : Option Addr} {v1n : Nat} {h : AH} {r : Value × AH} (hx : (nw1 h 82 [(vI v0_0), (vI v0_1), (vI v0_2), (vI v0_3), (vI v0_4), (vT v0_5)] fun h1 =>
((cell h1 (List.length h) 0).bind (getI .i64)).bind fun n2 =>
(if (n2 == (10 : Int)) = true then
((cell h1 (List.length h) 1).bind (getI .i64)).bind fun n3 =>
(if 0 ≤ n3 ∧ n3 < ((v1n : Nat) : Int) then
((v1 : Option Addr)).bind fun a4 =>
c_IITL h1 a4.block (a4.off + Int.toNat n3 * 4) fun n5 n6 s7 l8 =>
((cell h1 (List.length h) 2).bind (getI .i64)).bind fun n9 =>
(if 0 ≤ n9 ∧ n9 < ((v1n : Nat) : Int) then
((v1 : Option Addr)).bind fun a10 =>
c_IITL h1 a10.block (a10.off + Int.toNat n9 * 4) fun n11 n12 s13 l14 =>
(run (Et base) 114 [(.agg #[(vI n5), (vI n6), (vT s7), (vL l8.1 l8.2)]), (.agg #[(vI n11), (vI n12), (vT s13), (vL l14.1 l14.2)])] h1).bind fun r15 =>
((some r15.1).bind getB).bind fun b16 =>
some ((.bool (!b16)), r15.2)
else none)
else none)
else
(if (n2 == (11 : Int)) = true then
((cell h1 (List.length h) 1).bind (getI .i64)).bind fun n17 =>
(if 0 ≤ n17 ∧ n17 < ((v1n : Nat) : Int) then
((v1 : Option Addr)).bind fun a18 =>
((cell h1 a18.block ((a18.off + Int.toNat n17 * 4) + 0)).bind (getI .i64)).bind fun n19 =>
((cell h1 (List.length h) 2).bind (getI .i64)).bind fun n20 =>
some ((.bool (n19 != n20)), h1)
else none)
else
((cell h1 (List.length h) 0).bind (getI .i64)).bind fun n21 =>
some ((.bool (n21 == (12 : Int))), h1)))) = some r) : run (Et base) 73 [(.agg #[(vI v0_0), (vI v0_1), (vI v0_2), (vI v0_3), (vI v0_4), (vT v0_5)]), (vL v1 v1n)] h = some r := run_i Try.func73 (by kernel_rfl) ((f73_eq base v0_0 v0_1 v0_2 v0_3 v0_4 v0_5 v1 v1n h).trans hx)
/-! laws.eqIntS (gates 0) -/
noncomputable def B74_0 (base : Nat) : Body := fun l h => lay s74_0 l fun s => exCode (Et base) (run (Et base)) loopL a74_0 (subC [1, 1, 0, 1, 0, 0] (bodyC Try.f74)) s h (keepK s74_0 e74_0)
theorem B74_0_eq (base : Nat) (v0 : Option Addr) (v0n : Nat) (v1 : Option Addr) (v1n : Nat) (v5 : Int) (h : AH) : B74_0 base [some (vL v0 v0n), some (vL v1 v1n), some (vI v5)] h =
((if (decide (v5 < ((v0n : Nat) : Int))) = true then
(if 0 ≤ v5 ∧ v5 < ((v0n : Nat) : Int) then
((v0 : Option Addr)).bind fun a1 =>
((cell h a1.block (a1.off + Int.toNat v5 * 1)).bind (getI .i64)).bind fun n2 =>
(if 0 ≤ v5 ∧ v5 < ((v1n : Nat) : Int) then
((v1 : Option Addr)).bind fun a3 =>
((cell h a3.block (a3.off + Int.toNat v5 * 1)).bind (getI .i64)).bind fun n4 =>
(if (n2 != n4) = true then
some (1, [some (.bool false)], h)
else
some (0, [some (.slice v0 v0n v0n), some (.slice v1 v1n v1n), some (.int .i64 (IntKind.wrap .i64 (v5 + (1 : Int))))], h))
else none)
else none)
else
some (2, [], h)) : Option (Nat × Slots × AH)) := by kernel_rfl
theorem f74_eq (base : Nat) (v0 : Option Addr) (v0n : Nat) (v1 : Option Addr) (v1n : Nat) (h : AH) : exFun (Et base) (run (Et base)) loopL a74 Try.f74 [(vL v0 v0n), (vL v1 v1n)] h =
((if (((v0n : Nat) : Int) != ((v1n : Nat) : Int)) = true then
some ((.bool false), h)
else
(loopL (B74_0 base) [some (.slice v0 v0n v0n), some (.slice v1 v1n v1n), some (.int .i64 (0 : Int))] h).bind fun q1 =>
(if q1.1 = 1 then
((sget q1.2.1 0).bind getB).bind fun b2 =>
some ((.bool b2), q1.2.2)
else
(if q1.1 = 2 then
some ((.bool true), q1.2.2)
else
none))) : Option (Value × AH)) := by kernel_rfl
theorem r74 {base : Nat} {v0 : Option Addr} {v0n : Nat} {v1 : Option Addr} {v1n : Nat} {h : AH} {r : Value × AH} (hx : ((if (((v0n : Nat) : Int) != ((v1n : Nat) : Int)) = true then
some ((.bool false), h)
else
(loopL (B74_0 base) [some (.slice v0 v0n v0n), some (.slice v1 v1n v1n), some (.int .i64 (0 : Int))] h).bind fun q1 =>
(if q1.1 = 1 then
((sget q1.2.1 0).bind getB).bind fun b2 =>
some ((.bool b2), q1.2.2)
else
(if q1.1 = 2 then
some ((.bool true), q1.2.2)
else
none)))) = some r) : run (Et base) 74 [(vL v0 v0n), (vL v1 v1n)] h = some r := run_i Try.func74 (by kernel_rfl) ((f74_eq base v0 v0n v1 v1n h).trans hx)
end Go.Proofs.Ytolcnednfbbnnaa.Am
