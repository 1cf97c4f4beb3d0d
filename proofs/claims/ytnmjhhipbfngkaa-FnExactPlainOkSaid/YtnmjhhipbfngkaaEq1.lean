/- What each of these functions comes to on the abstract machine, one equation a function and one a loop.
Conditions: none. -/
import Derived.Test.YtnmjhhipbfngkaaTb
set_option linter.unusedVariables false
set_option maxRecDepth 100000
namespace Go.Proofs.Ytnmjhhipbfngkaa.Am
open Go Go.RowKit
/-! laws.FnExactPlainOk (gates 1) -/
theorem f8_eq (base : Nat) (v0_0 : Option Addr) (v0_0n : Nat) (v0_1 : Option Addr) (v0_1n : Nat) (v0_2 : Int) (v0_3 : Option Addr) (v0_3n : Nat) (h : AH) : exFun (Et base) (run (Et base)) loopL a8 Try.f8 [(.agg #[(.slice v0_0 v0_0n v0_0n), (.slice v0_1 v0_1n v0_1n), (.int .i64 v0_2), (.slice v0_3 v0_3n v0_3n)])] h =
((some (h ++ [some ⟨[(.slice v0_0 v0_0n v0_0n), (.slice v0_1 v0_1n v0_1n), (.int .i64 v0_2), (.slice v0_3 v0_3n v0_3n)], 64⟩])).bind fun h1 =>
((cell h1 (List.length h) 0).bind getS).bind fun l2 =>
((cell h1 (List.length h) 1).bind getS).bind fun l3 =>
((cell h1 (List.length h) 2).bind (getI .i64)).bind fun n4 =>
((cell h1 (List.length h) 3).bind getS).bind fun l5 =>
(run (Et base) 40 [(.agg #[(.slice l2.1 l2.2 l2.2), (.slice l3.1 l3.2 l3.2), (.int .i64 n4), (.slice l5.1 l5.2 l5.2)]), (.int .i64 (1048576 : Int))] h1).bind fun r6 =>
((some r6.1).bind (getI .i64)).bind fun n7 =>
(if (decide (n7 < (0 : Int))) = true then
some ((.bool true), r6.2)
else
((cell r6.2 (List.length h) 0).bind getS).bind fun l8 =>
((cell r6.2 (List.length h) 1).bind getS).bind fun l9 =>
((cell r6.2 (List.length h) 2).bind (getI .i64)).bind fun n10 =>
((cell r6.2 (List.length h) 3).bind getS).bind fun l11 =>
(run (Et base) 42 [(.agg #[(.slice l8.1 l8.2 l8.2), (.slice l9.1 l9.2 l9.2), (.int .i64 n10), (.slice l11.1 l11.2 l11.2)])] r6.2).bind fun r12 =>
((some r12.1).bind (getAgg 4)).bind fun l13 =>
((l13[0]?).bind getS).bind fun l14 =>
((l13[1]?).bind getS).bind fun l15 =>
((l13[2]?).bind (getI .i64)).bind fun n16 =>
((l13[3]?).bind getS).bind fun l17 =>
(run (Et base) 41 [(.agg #[(.slice l14.1 l14.2 l14.2), (.slice l15.1 l15.2 l15.2), (.int .i64 n16), (.slice l17.1 l17.2 l17.2)])] r12.2).bind fun r18 =>
((some r18.1).bind getB).bind fun b19 =>
((cell r18.2 (List.length h) 0).bind getS).bind fun l20 =>
((cell r18.2 (List.length h) 1).bind getS).bind fun l21 =>
((cell r18.2 (List.length h) 2).bind (getI .i64)).bind fun n22 =>
((cell r18.2 (List.length h) 3).bind getS).bind fun l23 =>
(run (Et base) 42 [(.agg #[(.slice l20.1 l20.2 l20.2), (.slice l21.1 l21.2 l21.2), (.int .i64 n22), (.slice l23.1 l23.2 l23.2)])] r18.2).bind fun r24 =>
((some r24.1).bind (getAgg 4)).bind fun l25 =>
((l25[0]?).bind getS).bind fun l26 =>
((l25[1]?).bind getS).bind fun l27 =>
((l25[2]?).bind (getI .i64)).bind fun n28 =>
((l25[3]?).bind getS).bind fun l29 =>
(some (r24.2 ++ [some ⟨[(.slice none 0 0), (.slice none 0 0), (.int .i64 0), (.slice none 0 0)], 70⟩])).bind fun h30 =>
(wr base h30 (List.length r24.2) 0 [(.slice l26.1 l26.2 l26.2), (.slice l27.1 l27.2 l27.2), (.int .i64 n28), (.slice l29.1 l29.2 l29.2)]).bind fun h31 =>
((cell h31 (List.length r24.2) 0).bind getS).bind fun l32 =>
((cell h31 (List.length r24.2) 1).bind getS).bind fun l33 =>
((cell h31 (List.length r24.2) 2).bind (getI .i64)).bind fun n34 =>
((cell h31 (List.length r24.2) 3).bind getS).bind fun l35 =>
(run (Et base) 43 [(.agg #[(.slice l32.1 l32.2 l32.2), (.slice l33.1 l33.2 l33.2), (.int .i64 n34), (.slice l35.1 l35.2 l35.2)])] h31).bind fun r36 =>
((some r36.1).bind getB).bind fun b37 =>
(if (!(b37 == b19)) = true then
some ((.bool false), r36.2)
else
((cell r36.2 (List.length r24.2) 0).bind getS).bind fun l38 =>
((cell r36.2 (List.length r24.2) 1).bind getS).bind fun l39 =>
((cell r36.2 (List.length r24.2) 2).bind (getI .i64)).bind fun n40 =>
((cell r36.2 (List.length r24.2) 3).bind getS).bind fun l41 =>
((cell r36.2 (List.length h) 0).bind getS).bind fun l42 =>
((cell r36.2 (List.length h) 1).bind getS).bind fun l43 =>
((cell r36.2 (List.length h) 2).bind (getI .i64)).bind fun n44 =>
((cell r36.2 (List.length h) 3).bind getS).bind fun l45 =>
(run (Et base) 42 [(.agg #[(.slice l42.1 l42.2 l42.2), (.slice l43.1 l43.2 l43.2), (.int .i64 n44), (.slice l45.1 l45.2 l45.2)])] r36.2).bind fun r46 =>
((some r46.1).bind (getAgg 4)).bind fun l47 =>
((l47[0]?).bind getS).bind fun l48 =>
((l47[1]?).bind getS).bind fun l49 =>
((l47[2]?).bind (getI .i64)).bind fun n50 =>
((l47[3]?).bind getS).bind fun l51 =>
(gate (sameA r36.2 r46.2 (some ⟨(List.length r24.2), 0, none⟩) 4)
((run (Et base) 44 [(.agg #[(.slice l38.1 l38.2 l38.2), (.slice l39.1 l39.2 l39.2), (.int .i64 n40), (.slice l41.1 l41.2 l41.2)]), (.agg #[(.slice l48.1 l48.2 l48.2), (.slice l49.1 l49.2 l49.2), (.int .i64 n50), (.slice l51.1 l51.2 l51.2)])] r46.2).bind fun r52 =>
((some r52.1).bind getB).bind fun b53 =>
(if (!b53) = true then
some ((.bool false), r52.2)
else
some ((.bool true), r52.2)))))) : Option (Value × AH)) := by kernel_rfl
theorem r8 {base : Nat} {v0_0 : Option Addr} {v0_0n : Nat} {v0_1 : Option Addr} {v0_1n : Nat} {v0_2 : Int} {v0_3 : Option Addr} {v0_3n : Nat} {h : AH} {r : Value × AH} (hx :
((some (h ++ [some ⟨[(.slice v0_0 v0_0n v0_0n), (.slice v0_1 v0_1n v0_1n), (.int .i64 v0_2), (.slice v0_3 v0_3n v0_3n)], 64⟩])).bind fun h1 =>
((cell h1 (List.length h) 0).bind getS).bind fun l2 =>
((cell h1 (List.length h) 1).bind getS).bind fun l3 =>
((cell h1 (List.length h) 2).bind (getI .i64)).bind fun n4 =>
((cell h1 (List.length h) 3).bind getS).bind fun l5 =>
(run (Et base) 40 [(.agg #[(.slice l2.1 l2.2 l2.2), (.slice l3.1 l3.2 l3.2), (.int .i64 n4), (.slice l5.1 l5.2 l5.2)]), (.int .i64 (1048576 : Int))] h1).bind fun r6 =>
((some r6.1).bind (getI .i64)).bind fun n7 =>
(if (decide (n7 < (0 : Int))) = true then
some ((.bool true), r6.2)
else
((cell r6.2 (List.length h) 0).bind getS).bind fun l8 =>
((cell r6.2 (List.length h) 1).bind getS).bind fun l9 =>
((cell r6.2 (List.length h) 2).bind (getI .i64)).bind fun n10 =>
((cell r6.2 (List.length h) 3).bind getS).bind fun l11 =>
(run (Et base) 42 [(.agg #[(.slice l8.1 l8.2 l8.2), (.slice l9.1 l9.2 l9.2), (.int .i64 n10), (.slice l11.1 l11.2 l11.2)])] r6.2).bind fun r12 =>
((some r12.1).bind (getAgg 4)).bind fun l13 =>
((l13[0]?).bind getS).bind fun l14 =>
((l13[1]?).bind getS).bind fun l15 =>
((l13[2]?).bind (getI .i64)).bind fun n16 =>
((l13[3]?).bind getS).bind fun l17 =>
(run (Et base) 41 [(.agg #[(.slice l14.1 l14.2 l14.2), (.slice l15.1 l15.2 l15.2), (.int .i64 n16), (.slice l17.1 l17.2 l17.2)])] r12.2).bind fun r18 =>
((some r18.1).bind getB).bind fun b19 =>
((cell r18.2 (List.length h) 0).bind getS).bind fun l20 =>
((cell r18.2 (List.length h) 1).bind getS).bind fun l21 =>
((cell r18.2 (List.length h) 2).bind (getI .i64)).bind fun n22 =>
((cell r18.2 (List.length h) 3).bind getS).bind fun l23 =>
(run (Et base) 42 [(.agg #[(.slice l20.1 l20.2 l20.2), (.slice l21.1 l21.2 l21.2), (.int .i64 n22), (.slice l23.1 l23.2 l23.2)])] r18.2).bind fun r24 =>
((some r24.1).bind (getAgg 4)).bind fun l25 =>
((l25[0]?).bind getS).bind fun l26 =>
((l25[1]?).bind getS).bind fun l27 =>
((l25[2]?).bind (getI .i64)).bind fun n28 =>
((l25[3]?).bind getS).bind fun l29 =>
(some (r24.2 ++ [some ⟨[(.slice none 0 0), (.slice none 0 0), (.int .i64 0), (.slice none 0 0)], 70⟩])).bind fun h30 =>
(wr base h30 (List.length r24.2) 0 [(.slice l26.1 l26.2 l26.2), (.slice l27.1 l27.2 l27.2), (.int .i64 n28), (.slice l29.1 l29.2 l29.2)]).bind fun h31 =>
((cell h31 (List.length r24.2) 0).bind getS).bind fun l32 =>
((cell h31 (List.length r24.2) 1).bind getS).bind fun l33 =>
((cell h31 (List.length r24.2) 2).bind (getI .i64)).bind fun n34 =>
((cell h31 (List.length r24.2) 3).bind getS).bind fun l35 =>
(run (Et base) 43 [(.agg #[(.slice l32.1 l32.2 l32.2), (.slice l33.1 l33.2 l33.2), (.int .i64 n34), (.slice l35.1 l35.2 l35.2)])] h31).bind fun r36 =>
((some r36.1).bind getB).bind fun b37 =>
(if (!(b37 == b19)) = true then
some ((.bool false), r36.2)
else
((cell r36.2 (List.length r24.2) 0).bind getS).bind fun l38 =>
((cell r36.2 (List.length r24.2) 1).bind getS).bind fun l39 =>
((cell r36.2 (List.length r24.2) 2).bind (getI .i64)).bind fun n40 =>
((cell r36.2 (List.length r24.2) 3).bind getS).bind fun l41 =>
((cell r36.2 (List.length h) 0).bind getS).bind fun l42 =>
((cell r36.2 (List.length h) 1).bind getS).bind fun l43 =>
((cell r36.2 (List.length h) 2).bind (getI .i64)).bind fun n44 =>
((cell r36.2 (List.length h) 3).bind getS).bind fun l45 =>
(run (Et base) 42 [(.agg #[(.slice l42.1 l42.2 l42.2), (.slice l43.1 l43.2 l43.2), (.int .i64 n44), (.slice l45.1 l45.2 l45.2)])] r36.2).bind fun r46 =>
((some r46.1).bind (getAgg 4)).bind fun l47 =>
((l47[0]?).bind getS).bind fun l48 =>
((l47[1]?).bind getS).bind fun l49 =>
((l47[2]?).bind (getI .i64)).bind fun n50 =>
((l47[3]?).bind getS).bind fun l51 =>
(gate (sameA r36.2 r46.2 (some ⟨(List.length r24.2), 0, none⟩) 4)
((run (Et base) 44 [(.agg #[(.slice l38.1 l38.2 l38.2), (.slice l39.1 l39.2 l39.2), (.int .i64 n40), (.slice l41.1 l41.2 l41.2)]), (.agg #[(.slice l48.1 l48.2 l48.2), (.slice l49.1 l49.2 l49.2), (.int .i64 n50), (.slice l51.1 l51.2 l51.2)])] r46.2).bind fun r52 =>
((some r52.1).bind getB).bind fun b53 =>
(if (!b53) = true then
some ((.bool false), r52.2)
else
some ((.bool true), r52.2))))))) = some r) : run (Et base) 8 [(.agg #[(.slice v0_0 v0_0n v0_0n), (.slice v0_1 v0_1n v0_1n), (.int .i64 v0_2), (.slice v0_3 v0_3n v0_3n)])] h = some r := run_i Try.func8 (by kernel_rfl) ((f8_eq base v0_0 v0_0n v0_1 v0_1n v0_2 v0_3 v0_3n h).trans hx)
/-! laws.szTerm (gates 0) -/
theorem f11_eq (base : Nat) (v0_0 : Int) (v0_1 : Int) (v0_2 : ByteArray) (v0_3 : Option Addr) (v0_3n : Nat) (v1 : Int) (h : AH) : exFun (Et base) (run (Et base)) loopL a11 Try.f11 [(.agg #[(.int .i64 v0_0), (.int .i64 v0_1), (.string v0_2), (.slice v0_3 v0_3n v0_3n)]), (.int .i64 v1)] h =
((some (h ++ [some ⟨[(.int .i64 v0_0), (.int .i64 v0_1), (.string v0_2), (.slice v0_3 v0_3n v0_3n)], 24⟩])).bind fun h1 =>
((cell h1 (List.length h) 2).bind getStr).bind fun s2 =>
(if (decide ((IntKind.wrap .i64 (v1 - (s2.size : Int))) < (0 : Int))) = true then
some ((.int .i64 (-1 : Int)), h1)
else
((cell h1 (List.length h) 3).bind getS).bind fun l3 =>
(run (Et base) 61 [(.slice l3.1 l3.2 l3.2), (.int .i64 (IntKind.wrap .i64 (v1 - (s2.size : Int))))] h1).bind fun r4 =>
((some r4.1).bind (getI .i64)).bind fun n5 =>
(if (decide (n5 < (0 : Int))) = true then
some ((.int .i64 (-1 : Int)), r4.2)
else
some ((.int .i64 n5), r4.2))) : Option (Value × AH)) := by kernel_rfl
theorem r11 {base : Nat} {v0_0 : Int} {v0_1 : Int} {v0_2 : ByteArray} {v0_3 : Option Addr} {v0_3n : Nat} {v1 : Int} {h : AH} {r : Value × AH} (hx :
((some (h ++ [some ⟨[(.int .i64 v0_0), (.int .i64 v0_1), (.string v0_2), (.slice v0_3 v0_3n v0_3n)], 24⟩])).bind fun h1 =>
((cell h1 (List.length h) 2).bind getStr).bind fun s2 =>
(if (decide ((IntKind.wrap .i64 (v1 - (s2.size : Int))) < (0 : Int))) = true then
some ((.int .i64 (-1 : Int)), h1)
else
((cell h1 (List.length h) 3).bind getS).bind fun l3 =>
(run (Et base) 61 [(.slice l3.1 l3.2 l3.2), (.int .i64 (IntKind.wrap .i64 (v1 - (s2.size : Int))))] h1).bind fun r4 =>
((some r4.1).bind (getI .i64)).bind fun n5 =>
(if (decide (n5 < (0 : Int))) = true then
some ((.int .i64 (-1 : Int)), r4.2)
else
some ((.int .i64 n5), r4.2)))) = some r) : run (Et base) 11 [(.agg #[(.int .i64 v0_0), (.int .i64 v0_1), (.string v0_2), (.slice v0_3 v0_3n v0_3n)]), (.int .i64 v1)] h = some r := run_i Try.func11 (by kernel_rfl) ((f11_eq base v0_0 v0_1 v0_2 v0_3 v0_3n v1 h).trans hx)
/-! laws.toTerm (gates 0) -/
theorem f13_eq (base : Nat) (v0_0 : Int) (v0_1 : Int) (v0_2 : ByteArray) (v0_3 : Option Addr) (v0_3n : Nat) (h : AH) : exFun (Et base) (run (Et base)) loopL a13 Try.f13 [(.agg #[(.int .i64 v0_0), (.int .i64 v0_1), (.string v0_2), (.slice v0_3 v0_3n v0_3n)])] h =
((some (h ++ [some ⟨[(.int .i64 v0_0), (.int .i64 v0_1), (.string v0_2), (.slice v0_3 v0_3n v0_3n)], 24⟩])).bind fun h1 =>
(some (h1 ++ [some ⟨[(.int .i64 0), (.int .i64 0), (.string ⟨#[]⟩), (.slice none 0 0)], 32⟩])).bind fun h2 =>
(some (h2 ++ [some ⟨[(.int .i64 0), (.int .i64 0), (.string ⟨#[]⟩), (.slice none 0 0)], 32⟩])).bind fun h3 =>
((cell h3 (List.length h) 0).bind (getI .i64)).bind fun n4 =>
(wr base h3 (List.length h2) 0 [(.int .i64 n4)]).bind fun h5 =>
((cell h5 (List.length h) 1).bind (getI .i64)).bind fun n6 =>
(wr base h5 (List.length h2) 1 [(.int .i64 n6)]).bind fun h7 =>
((cell h7 (List.length h) 2).bind getStr).bind fun s8 =>
(wr base h7 (List.length h2) 2 [(.string s8)]).bind fun h9 =>
((cell h9 (List.length h) 3).bind getS).bind fun l10 =>
(run (Et base) 66 [(.slice l10.1 l10.2 l10.2)] h9).bind fun r11 =>
((some r11.1).bind getS).bind fun l12 =>
(wr base r11.2 (List.length h2) 3 [(.slice l12.1 l12.2 l12.2)]).bind fun h13 =>
((cell h13 (List.length h2) 0).bind (getI .i64)).bind fun n14 =>
((cell h13 (List.length h2) 1).bind (getI .i64)).bind fun n15 =>
((cell h13 (List.length h2) 2).bind getStr).bind fun s16 =>
((cell h13 (List.length h2) 3).bind getS).bind fun l17 =>
(wr base h13 (List.length h1) 0 [(.int .i64 n14), (.int .i64 n15), (.string s16), (.slice l17.1 l17.2 l17.2)]).bind fun h18 =>
((cell h18 (List.length h1) 0).bind (getI .i64)).bind fun n19 =>
((cell h18 (List.length h1) 1).bind (getI .i64)).bind fun n20 =>
((cell h18 (List.length h1) 2).bind getStr).bind fun s21 =>
((cell h18 (List.length h1) 3).bind getS).bind fun l22 =>
some ((.agg #[(.int .i64 n19), (.int .i64 n20), (.string s21), (.slice l22.1 l22.2 l22.2)]), h18) : Option (Value × AH)) := by kernel_rfl
theorem r13 {base : Nat} {v0_0 : Int} {v0_1 : Int} {v0_2 : ByteArray} {v0_3 : Option Addr} {v0_3n : Nat} {h : AH} {r : Value × AH} (hx :
((some (h ++ [some ⟨[(.int .i64 v0_0), (.int .i64 v0_1), (.string v0_2), (.slice v0_3 v0_3n v0_3n)], 24⟩])).bind fun h1 =>
(some (h1 ++ [some ⟨[(.int .i64 0), (.int .i64 0), (.string ⟨#[]⟩), (.slice none 0 0)], 32⟩])).bind fun h2 =>
(some (h2 ++ [some ⟨[(.int .i64 0), (.int .i64 0), (.string ⟨#[]⟩), (.slice none 0 0)], 32⟩])).bind fun h3 =>
((cell h3 (List.length h) 0).bind (getI .i64)).bind fun n4 =>
(wr base h3 (List.length h2) 0 [(.int .i64 n4)]).bind fun h5 =>
((cell h5 (List.length h) 1).bind (getI .i64)).bind fun n6 =>
(wr base h5 (List.length h2) 1 [(.int .i64 n6)]).bind fun h7 =>
((cell h7 (List.length h) 2).bind getStr).bind fun s8 =>
(wr base h7 (List.length h2) 2 [(.string s8)]).bind fun h9 =>
((cell h9 (List.length h) 3).bind getS).bind fun l10 =>
(run (Et base) 66 [(.slice l10.1 l10.2 l10.2)] h9).bind fun r11 =>
((some r11.1).bind getS).bind fun l12 =>
(wr base r11.2 (List.length h2) 3 [(.slice l12.1 l12.2 l12.2)]).bind fun h13 =>
((cell h13 (List.length h2) 0).bind (getI .i64)).bind fun n14 =>
((cell h13 (List.length h2) 1).bind (getI .i64)).bind fun n15 =>
((cell h13 (List.length h2) 2).bind getStr).bind fun s16 =>
((cell h13 (List.length h2) 3).bind getS).bind fun l17 =>
(wr base h13 (List.length h1) 0 [(.int .i64 n14), (.int .i64 n15), (.string s16), (.slice l17.1 l17.2 l17.2)]).bind fun h18 =>
((cell h18 (List.length h1) 0).bind (getI .i64)).bind fun n19 =>
((cell h18 (List.length h1) 1).bind (getI .i64)).bind fun n20 =>
((cell h18 (List.length h1) 2).bind getStr).bind fun s21 =>
((cell h18 (List.length h1) 3).bind getS).bind fun l22 =>
some ((.agg #[(.int .i64 n19), (.int .i64 n20), (.string s21), (.slice l22.1 l22.2 l22.2)]), h18)) = some r) : run (Et base) 13 [(.agg #[(.int .i64 v0_0), (.int .i64 v0_1), (.string v0_2), (.slice v0_3 v0_3n v0_3n)])] h = some r := run_i Try.func13 (by kernel_rfl) ((f13_eq base v0_0 v0_1 v0_2 v0_3 v0_3n h).trans hx)
/-! laws.eqActor (gates 0) -/
theorem f15_eq (base : Nat) (v0_0 : Int) (v0_1 : Int) (v0_2 : Option Addr) (v0_2n : Nat) (v0_3 : Option Addr) (v0_3n : Nat) (v0_4 : Option Addr) (v0_4n : Nat) (v1_0 : Int) (v1_1 : Int) (v1_2 : Option Addr) (v1_2n : Nat) (v1_3 : Option Addr) (v1_3n : Nat) (v1_4 : Option Addr) (v1_4n : Nat) (h : AH) : exFun (Et base) (run (Et base)) loopL a15 Try.f15 [(.agg #[(.int .i64 v0_0), (.int .i64 v0_1), (.slice v0_2 v0_2n v0_2n), (.slice v0_3 v0_3n v0_3n), (.slice v0_4 v0_4n v0_4n)]), (.agg #[(.int .i64 v1_0), (.int .i64 v1_1), (.slice v1_2 v1_2n v1_2n), (.slice v1_3 v1_3n v1_3n), (.slice v1_4 v1_4n v1_4n)])] h =
((some (h ++ [some ⟨[(.int .i64 v0_0), (.int .i64 v0_1), (.slice v0_2 v0_2n v0_2n), (.slice v0_3 v0_3n v0_3n), (.slice v0_4 v0_4n v0_4n)], 29⟩])).bind fun h1 =>
(some (h1 ++ [some ⟨[(.int .i64 v1_0), (.int .i64 v1_1), (.slice v1_2 v1_2n v1_2n), (.slice v1_3 v1_3n v1_3n), (.slice v1_4 v1_4n v1_4n)], 29⟩])).bind fun h2 =>
((cell h2 (List.length h) 0).bind (getI .i64)).bind fun n3 =>
((cell h2 (List.length h1) 0).bind (getI .i64)).bind fun n4 =>
(if (n3 != n4) = true then
some ((.bool false), h2)
else
((cell h2 (List.length h) 1).bind (getI .i64)).bind fun n5 =>
((cell h2 (List.length h1) 1).bind (getI .i64)).bind fun n6 =>
(if (n5 != n6) = true then
some ((.bool false), h2)
else
((cell h2 (List.length h) 2).bind getS).bind fun l7 =>
((cell h2 (List.length h1) 2).bind getS).bind fun l8 =>
(run (Et base) 70 [(.slice l7.1 l7.2 l7.2), (.slice l8.1 l8.2 l8.2)] h2).bind fun r9 =>
((some r9.1).bind getB).bind fun b10 =>
(if (!b10) = true then
some ((.bool false), r9.2)
else
((cell r9.2 (List.length h) 3).bind getS).bind fun l11 =>
((cell r9.2 (List.length h1) 3).bind getS).bind fun l12 =>
(run (Et base) 70 [(.slice l11.1 l11.2 l11.2), (.slice l12.1 l12.2 l12.2)] r9.2).bind fun r13 =>
((some r13.1).bind getB).bind fun b14 =>
(if (!b14) = true then
some ((.bool false), r13.2)
else
((cell r13.2 (List.length h) 4).bind getS).bind fun l15 =>
((cell r13.2 (List.length h1) 4).bind getS).bind fun l16 =>
(run (Et base) 71 [(.slice l15.1 l15.2 l15.2), (.slice l16.1 l16.2 l16.2)] r13.2).bind fun r17 =>
((some r17.1).bind getB).bind fun b18 =>
(if (!b18) = true then
some ((.bool false), r17.2)
else
some ((.bool true), r17.2)))))) : Option (Value × AH)) := by kernel_rfl
theorem r15 {base : Nat} {v0_0 : Int} {v0_1 : Int} {v0_2 : Option Addr} {v0_2n : Nat} {v0_3 : Option Addr} {v0_3n : Nat} {v0_4 : Option Addr} {v0_4n : Nat} {v1_0 : Int} {v1_1 : Int} {v1_2 : Option Addr} {v1_2n : Nat} {v1_3 : Option Addr} {v1_3n : Nat} {v1_4 : Option Addr} {v1_4n : Nat} {h : AH} {r : Value × AH} (hx :
((some (h ++ [some ⟨[(.int .i64 v0_0), (.int .i64 v0_1), (.slice v0_2 v0_2n v0_2n), (.slice v0_3 v0_3n v0_3n), (.slice v0_4 v0_4n v0_4n)], 29⟩])).bind fun h1 =>
(some (h1 ++ [some ⟨[(.int .i64 v1_0), (.int .i64 v1_1), (.slice v1_2 v1_2n v1_2n), (.slice v1_3 v1_3n v1_3n), (.slice v1_4 v1_4n v1_4n)], 29⟩])).bind fun h2 =>
((cell h2 (List.length h) 0).bind (getI .i64)).bind fun n3 =>
((cell h2 (List.length h1) 0).bind (getI .i64)).bind fun n4 =>
(if (n3 != n4) = true then
some ((.bool false), h2)
else
((cell h2 (List.length h) 1).bind (getI .i64)).bind fun n5 =>
((cell h2 (List.length h1) 1).bind (getI .i64)).bind fun n6 =>
(if (n5 != n6) = true then
some ((.bool false), h2)
else
((cell h2 (List.length h) 2).bind getS).bind fun l7 =>
((cell h2 (List.length h1) 2).bind getS).bind fun l8 =>
(run (Et base) 70 [(.slice l7.1 l7.2 l7.2), (.slice l8.1 l8.2 l8.2)] h2).bind fun r9 =>
((some r9.1).bind getB).bind fun b10 =>
(if (!b10) = true then
some ((.bool false), r9.2)
else
((cell r9.2 (List.length h) 3).bind getS).bind fun l11 =>
((cell r9.2 (List.length h1) 3).bind getS).bind fun l12 =>
(run (Et base) 70 [(.slice l11.1 l11.2 l11.2), (.slice l12.1 l12.2 l12.2)] r9.2).bind fun r13 =>
((some r13.1).bind getB).bind fun b14 =>
(if (!b14) = true then
some ((.bool false), r13.2)
else
((cell r13.2 (List.length h) 4).bind getS).bind fun l15 =>
((cell r13.2 (List.length h1) 4).bind getS).bind fun l16 =>
(run (Et base) 71 [(.slice l15.1 l15.2 l15.2), (.slice l16.1 l16.2 l16.2)] r13.2).bind fun r17 =>
((some r17.1).bind getB).bind fun b18 =>
(if (!b18) = true then
some ((.bool false), r17.2)
else
some ((.bool true), r17.2))))))) = some r) : run (Et base) 15 [(.agg #[(.int .i64 v0_0), (.int .i64 v0_1), (.slice v0_2 v0_2n v0_2n), (.slice v0_3 v0_3n v0_3n), (.slice v0_4 v0_4n v0_4n)]), (.agg #[(.int .i64 v1_0), (.int .i64 v1_1), (.slice v1_2 v1_2n v1_2n), (.slice v1_3 v1_3n v1_3n), (.slice v1_4 v1_4n v1_4n)])] h = some r := run_i Try.func15 (by kernel_rfl) ((f15_eq base v0_0 v0_1 v0_2 v0_2n v0_3 v0_3n v0_4 v0_4n v1_0 v1_1 v1_2 v1_2n v1_3 v1_3n v1_4 v1_4n h).trans hx)
/-! laws.eqTerm (gates 0) -/
theorem f16_eq (base : Nat) (v0_0 : Int) (v0_1 : Int) (v0_2 : ByteArray) (v0_3 : Option Addr) (v0_3n : Nat) (v1_0 : Int) (v1_1 : Int) (v1_2 : ByteArray) (v1_3 : Option Addr) (v1_3n : Nat) (h : AH) : exFun (Et base) (run (Et base)) loopL a16 Try.f16 [(.agg #[(.int .i64 v0_0), (.int .i64 v0_1), (.string v0_2), (.slice v0_3 v0_3n v0_3n)]), (.agg #[(.int .i64 v1_0), (.int .i64 v1_1), (.string v1_2), (.slice v1_3 v1_3n v1_3n)])] h =
((some (h ++ [some ⟨[(.int .i64 v0_0), (.int .i64 v0_1), (.string v0_2), (.slice v0_3 v0_3n v0_3n)], 32⟩])).bind fun h1 =>
(some (h1 ++ [some ⟨[(.int .i64 v1_0), (.int .i64 v1_1), (.string v1_2), (.slice v1_3 v1_3n v1_3n)], 32⟩])).bind fun h2 =>
((cell h2 (List.length h) 0).bind (getI .i64)).bind fun n3 =>
((cell h2 (List.length h1) 0).bind (getI .i64)).bind fun n4 =>
(if (n3 != n4) = true then
some ((.bool false), h2)
else
((cell h2 (List.length h) 1).bind (getI .i64)).bind fun n5 =>
((cell h2 (List.length h1) 1).bind (getI .i64)).bind fun n6 =>
(if (n5 != n6) = true then
some ((.bool false), h2)
else
((cell h2 (List.length h) 2).bind getStr).bind fun s7 =>
((cell h2 (List.length h1) 2).bind getStr).bind fun s8 =>
(if (!(s7.toList == s8.toList)) = true then
some ((.bool false), h2)
else
((cell h2 (List.length h) 3).bind getS).bind fun l9 =>
((cell h2 (List.length h1) 3).bind getS).bind fun l10 =>
(run (Et base) 70 [(.slice l9.1 l9.2 l9.2), (.slice l10.1 l10.2 l10.2)] h2).bind fun r11 =>
((some r11.1).bind getB).bind fun b12 =>
(if (!b12) = true then
some ((.bool false), r11.2)
else
some ((.bool true), r11.2))))) : Option (Value × AH)) := by kernel_rfl
theorem r16 {base : Nat} {v0_0 : Int} {v0_1 : Int} {v0_2 : ByteArray} {v0_3 : Option Addr} {v0_3n : Nat} {v1_0 : Int} {v1_1 : Int} {v1_2 : ByteArray} {v1_3 : Option Addr} {v1_3n : Nat} {h : AH} {r : Value × AH} (hx :
((some (h ++ [some ⟨[(.int .i64 v0_0), (.int .i64 v0_1), (.string v0_2), (.slice v0_3 v0_3n v0_3n)], 32⟩])).bind fun h1 =>
(some (h1 ++ [some ⟨[(.int .i64 v1_0), (.int .i64 v1_1), (.string v1_2), (.slice v1_3 v1_3n v1_3n)], 32⟩])).bind fun h2 =>
((cell h2 (List.length h) 0).bind (getI .i64)).bind fun n3 =>
((cell h2 (List.length h1) 0).bind (getI .i64)).bind fun n4 =>
(if (n3 != n4) = true then
some ((.bool false), h2)
else
((cell h2 (List.length h) 1).bind (getI .i64)).bind fun n5 =>
((cell h2 (List.length h1) 1).bind (getI .i64)).bind fun n6 =>
(if (n5 != n6) = true then
some ((.bool false), h2)
else
((cell h2 (List.length h) 2).bind getStr).bind fun s7 =>
((cell h2 (List.length h1) 2).bind getStr).bind fun s8 =>
(if (!(s7.toList == s8.toList)) = true then
some ((.bool false), h2)
else
((cell h2 (List.length h) 3).bind getS).bind fun l9 =>
((cell h2 (List.length h1) 3).bind getS).bind fun l10 =>
(run (Et base) 70 [(.slice l9.1 l9.2 l9.2), (.slice l10.1 l10.2 l10.2)] h2).bind fun r11 =>
((some r11.1).bind getB).bind fun b12 =>
(if (!b12) = true then
some ((.bool false), r11.2)
else
some ((.bool true), r11.2)))))) = some r) : run (Et base) 16 [(.agg #[(.int .i64 v0_0), (.int .i64 v0_1), (.string v0_2), (.slice v0_3 v0_3n v0_3n)]), (.agg #[(.int .i64 v1_0), (.int .i64 v1_1), (.string v1_2), (.slice v1_3 v1_3n v1_3n)])] h = some r := run_i Try.func16 (by kernel_rfl) ((f16_eq base v0_0 v0_1 v0_2 v0_3 v0_3n v1_0 v1_1 v1_2 v1_3 v1_3n h).trans hx)
/-! laws.szInsS (gates 0) -/
noncomputable def B20_0 (base : Nat) : Body := fun l h => lay s20_0 l fun s => exCode (Et base) (run (Et base)) loopL a20_0 (subC [1, 1, 1, 0, 1, 0, 0] (bodyC Try.f20)) s h (keepK s20_0 e20_0)
theorem B20_0_eq (base : Nat) (v0 : Option Addr) (v0n : Nat) (v1 : Int) (v5 : Int) (h : AH) : B20_0 base [some (.slice v0 v0n v0n), some (.int .i64 v1), some (.int .i64 v5)] h =
((if (decide (v5 < ((v0n : Nat) : Int))) = true then
(if 0 ≤ v5 ∧ v5 < ((v0n : Nat) : Int) then
((v0 : Option Addr)).bind fun a1 =>
((cell h a1.block (a1.off + Int.toNat v5 * 6)).bind (getI .i64)).bind fun n2 =>
((cell h a1.block ((a1.off + Int.toNat v5 * 6) + 1)).bind (getI .i64)).bind fun n3 =>
((cell h a1.block (((a1.off + Int.toNat v5 * 6) + 1) + 1)).bind (getI .i64)).bind fun n4 =>
((cell h a1.block ((((a1.off + Int.toNat v5 * 6) + 1) + 1) + 1)).bind (getI .i64)).bind fun n5 =>
((cell h a1.block (((((a1.off + Int.toNat v5 * 6) + 1) + 1) + 1) + 1)).bind (getI .i64)).bind fun n6 =>
((cell h a1.block ((((((a1.off + Int.toNat v5 * 6) + 1) + 1) + 1) + 1) + 1)).bind getStr).bind fun s7 =>
(run (Et base) 76 [(.agg #[(.int .i64 n2), (.int .i64 n3), (.int .i64 n4), (.int .i64 n5), (.int .i64 n6), (.string s7)]), (.int .i64 v1)] h).bind fun r8 =>
((some r8.1).bind (getI .i64)).bind fun n9 =>
(if (decide (n9 < (0 : Int))) = true then
some (1, [some (.int .i64 (-1 : Int))], r8.2)
else
some (0, [some (.slice v0 v0n v0n), some (.int .i64 n9), some (.int .i64 (IntKind.wrap .i64 (v5 + (1 : Int))))], r8.2))
else none)
else
some (2, [some (.int .i64 v1)], h)) : Option (Nat × Slots × AH)) := by kernel_rfl
theorem f20_eq (base : Nat) (v0 : Option Addr) (v0n : Nat) (v1 : Int) (h : AH) : exFun (Et base) (run (Et base)) loopL a20 Try.f20 [(.slice v0 v0n v0n), (.int .i64 v1)] h =
((if (decide ((IntKind.wrap .i64 (v1 - ((v0n : Nat) : Int))) < (0 : Int))) = true then
some ((.int .i64 (-1 : Int)), h)
else
(loopL (B20_0 base) [some (.slice v0 v0n v0n), some (.int .i64 (IntKind.wrap .i64 (v1 - ((v0n : Nat) : Int)))), some (.int .i64 (0 : Int))] h).bind fun q1 =>
(if q1.1 = 1 then
((sget q1.2.1 0).bind (getI .i64)).bind fun n2 =>
some ((.int .i64 n2), q1.2.2)
else
(if q1.1 = 2 then
((sget q1.2.1 0).bind (getI .i64)).bind fun n3 =>
some ((.int .i64 n3), q1.2.2)
else
none))) : Option (Value × AH)) := by kernel_rfl
theorem r20 {base : Nat} {v0 : Option Addr} {v0n : Nat} {v1 : Int} {h : AH} {r : Value × AH} (hx :
((if (decide ((IntKind.wrap .i64 (v1 - ((v0n : Nat) : Int))) < (0 : Int))) = true then
some ((.int .i64 (-1 : Int)), h)
else
(loopL (B20_0 base) [some (.slice v0 v0n v0n), some (.int .i64 (IntKind.wrap .i64 (v1 - ((v0n : Nat) : Int)))), some (.int .i64 (0 : Int))] h).bind fun q1 =>
(if q1.1 = 1 then
((sget q1.2.1 0).bind (getI .i64)).bind fun n2 =>
some ((.int .i64 n2), q1.2.2)
else
(if q1.1 = 2 then
((sget q1.2.1 0).bind (getI .i64)).bind fun n3 =>
some ((.int .i64 n3), q1.2.2)
else
none)))) = some r) : run (Et base) 20 [(.slice v0 v0n v0n), (.int .i64 v1)] h = some r := run_i Try.func20 (by kernel_rfl) ((f20_eq base v0 v0n v1 h).trans hx)
/-! laws.toInsS (gates 0) -/
noncomputable def B22_0 (base : Nat) : Body := fun l h => lay s22_0 l fun s => exCode (Et base) (run (Et base)) loopL a22_0 (subC [1, 1, 0, 1, 0, 0] (bodyC Try.f22)) s h (keepK s22_0 e22_0)
theorem B22_0_eq (base : Nat) (v0 : Option Addr) (v0n : Nat) (v3 : Option Addr) (v3n : Nat) (v4 : Int) (h : AH) : B22_0 base [some (.slice v0 v0n v0n), some (.slice v3 v3n v3n), some (.int .i64 v4)] h =
((if (decide (v4 < ((v0n : Nat) : Int))) = true then
(if 0 ≤ v4 ∧ v4 < ((v0n : Nat) : Int) then
((v0 : Option Addr)).bind fun a1 =>
((cell h a1.block (a1.off + Int.toNat v4 * 6)).bind (getI .i64)).bind fun n2 =>
((cell h a1.block ((a1.off + Int.toNat v4 * 6) + 1)).bind (getI .i64)).bind fun n3 =>
((cell h a1.block (((a1.off + Int.toNat v4 * 6) + 1) + 1)).bind (getI .i64)).bind fun n4 =>
((cell h a1.block ((((a1.off + Int.toNat v4 * 6) + 1) + 1) + 1)).bind (getI .i64)).bind fun n5 =>
((cell h a1.block (((((a1.off + Int.toNat v4 * 6) + 1) + 1) + 1) + 1)).bind (getI .i64)).bind fun n6 =>
((cell h a1.block ((((((a1.off + Int.toNat v4 * 6) + 1) + 1) + 1) + 1) + 1)).bind getStr).bind fun s7 =>
(run (Et base) 79 [(.agg #[(.int .i64 n2), (.int .i64 n3), (.int .i64 n4), (.int .i64 n5), (.int .i64 n6), (.string s7)])] h).bind fun r8 =>
((some r8.1).bind (getAgg 6)).bind fun l9 =>
((l9[0]?).bind (getI .i64)).bind fun n10 =>
((l9[1]?).bind (getI .i64)).bind fun n11 =>
((l9[2]?).bind (getI .i64)).bind fun n12 =>
((l9[3]?).bind (getI .i64)).bind fun n13 =>
((l9[4]?).bind (getI .i64)).bind fun n14 =>
((l9[5]?).bind getStr).bind fun s15 =>
(if 0 ≤ v4 ∧ v4 < ((v3n : Nat) : Int) then
((v3 : Option Addr)).bind fun a16 =>
(wr base r8.2 a16.block (a16.off + Int.toNat v4 * 6) [(.int .i64 n10), (.int .i64 n11), (.int .i64 n12), (.int .i64 n13), (.int .i64 n14), (.string s15)]).bind fun h17 =>
some (0, [some (.slice v0 v0n v0n), some (.slice v3 v3n v3n), some (.int .i64 (IntKind.wrap .i64 (v4 + (1 : Int))))], h17)
else none)
else none)
else
some (2, [some (.slice v3 v3n v3n)], h)) : Option (Nat × Slots × AH)) := by kernel_rfl
theorem f22_eq (base : Nat) (v0 : Option Addr) (v0n : Nat) (h : AH) : exFun (Et base) (run (Et base)) loopL a22 Try.f22 [(.slice v0 v0n v0n)] h =
((if ((v0n : Nat) : Int) = ((v0n : Nat) : Int) ∧ 0 ≤ ((v0n : Nat) : Int) ∧ ((v0n : Nat) : Int) * 56 ≤ 140737488355328 ∧ ((v0n : Nat) : Int) ≤ 140737488355328 then
(some (h ++ [some ⟨rep [(.int .i64 0), (.int .i64 0), (.int .i64 0), (.int .i64 0), (.int .i64 0), (.string ⟨#[]⟩)] (Int.toNat ((v0n : Nat) : Int)), 116⟩])).bind fun h1 =>
(loopL (B22_0 base) [some (.slice v0 v0n v0n), some (.slice (some ⟨(List.length h), 0, none⟩) (Int.toNat ((v0n : Nat) : Int)) (Int.toNat ((v0n : Nat) : Int))), some (.int .i64 (0 : Int))] h1).bind fun q2 =>
(if q2.1 = 2 then
((sget q2.2.1 0).bind getS).bind fun l3 =>
some ((.slice l3.1 l3.2 l3.2), q2.2.2)
else
none)
else none) : Option (Value × AH)) := by kernel_rfl
theorem r22 {base : Nat} {v0 : Option Addr} {v0n : Nat} {h : AH} {r : Value × AH} (hx :
((if ((v0n : Nat) : Int) = ((v0n : Nat) : Int) ∧ 0 ≤ ((v0n : Nat) : Int) ∧ ((v0n : Nat) : Int) * 56 ≤ 140737488355328 ∧ ((v0n : Nat) : Int) ≤ 140737488355328 then
(some (h ++ [some ⟨rep [(.int .i64 0), (.int .i64 0), (.int .i64 0), (.int .i64 0), (.int .i64 0), (.string ⟨#[]⟩)] (Int.toNat ((v0n : Nat) : Int)), 116⟩])).bind fun h1 =>
(loopL (B22_0 base) [some (.slice v0 v0n v0n), some (.slice (some ⟨(List.length h), 0, none⟩) (Int.toNat ((v0n : Nat) : Int)) (Int.toNat ((v0n : Nat) : Int))), some (.int .i64 (0 : Int))] h1).bind fun q2 =>
(if q2.1 = 2 then
((sget q2.2.1 0).bind getS).bind fun l3 =>
some ((.slice l3.1 l3.2 l3.2), q2.2.2)
else
none)
else none)) = some r) : run (Et base) 22 [(.slice v0 v0n v0n)] h = some r := run_i Try.func22 (by kernel_rfl) ((f22_eq base v0 v0n h).trans hx)
/-! laws.eqInsS (gates 0) -/
noncomputable def B25_0 (base : Nat) : Body := fun l h => lay s25_0 l fun s => exCode (Et base) (run (Et base)) loopL a25_0 (subC [1, 1, 0, 1, 0, 0] (bodyC Try.f25)) s h (keepK s25_0 e25_0)
theorem B25_0_eq (base : Nat) (v0 : Option Addr) (v0n : Nat) (v1 : Option Addr) (v1n : Nat) (v5 : Int) (h : AH) : B25_0 base [some (.slice v0 v0n v0n), some (.slice v1 v1n v1n), some (.int .i64 v5)] h =
((if (decide (v5 < ((v0n : Nat) : Int))) = true then
(if 0 ≤ v5 ∧ v5 < ((v0n : Nat) : Int) then
((v0 : Option Addr)).bind fun a1 =>
((cell h a1.block (a1.off + Int.toNat v5 * 6)).bind (getI .i64)).bind fun n2 =>
((cell h a1.block ((a1.off + Int.toNat v5 * 6) + 1)).bind (getI .i64)).bind fun n3 =>
((cell h a1.block (((a1.off + Int.toNat v5 * 6) + 1) + 1)).bind (getI .i64)).bind fun n4 =>
((cell h a1.block ((((a1.off + Int.toNat v5 * 6) + 1) + 1) + 1)).bind (getI .i64)).bind fun n5 =>
((cell h a1.block (((((a1.off + Int.toNat v5 * 6) + 1) + 1) + 1) + 1)).bind (getI .i64)).bind fun n6 =>
((cell h a1.block ((((((a1.off + Int.toNat v5 * 6) + 1) + 1) + 1) + 1) + 1)).bind getStr).bind fun s7 =>
(if 0 ≤ v5 ∧ v5 < ((v1n : Nat) : Int) then
((v1 : Option Addr)).bind fun a8 =>
((cell h a8.block (a8.off + Int.toNat v5 * 6)).bind (getI .i64)).bind fun n9 =>
((cell h a8.block ((a8.off + Int.toNat v5 * 6) + 1)).bind (getI .i64)).bind fun n10 =>
((cell h a8.block (((a8.off + Int.toNat v5 * 6) + 1) + 1)).bind (getI .i64)).bind fun n11 =>
((cell h a8.block ((((a8.off + Int.toNat v5 * 6) + 1) + 1) + 1)).bind (getI .i64)).bind fun n12 =>
((cell h a8.block (((((a8.off + Int.toNat v5 * 6) + 1) + 1) + 1) + 1)).bind (getI .i64)).bind fun n13 =>
((cell h a8.block ((((((a8.off + Int.toNat v5 * 6) + 1) + 1) + 1) + 1) + 1)).bind getStr).bind fun s14 =>
(run (Et base) 82 [(.agg #[(.int .i64 n2), (.int .i64 n3), (.int .i64 n4), (.int .i64 n5), (.int .i64 n6), (.string s7)]), (.agg #[(.int .i64 n9), (.int .i64 n10), (.int .i64 n11), (.int .i64 n12), (.int .i64 n13), (.string s14)])] h).bind fun r15 =>
((some r15.1).bind getB).bind fun b16 =>
(if (!b16) = true then
some (1, [some (.bool false)], r15.2)
else
some (0, [some (.slice v0 v0n v0n), some (.slice v1 v1n v1n), some (.int .i64 (IntKind.wrap .i64 (v5 + (1 : Int))))], r15.2))
else none)
else none)
else
some (2, [], h)) : Option (Nat × Slots × AH)) := by kernel_rfl
theorem f25_eq (base : Nat) (v0 : Option Addr) (v0n : Nat) (v1 : Option Addr) (v1n : Nat) (h : AH) : exFun (Et base) (run (Et base)) loopL a25 Try.f25 [(.slice v0 v0n v0n), (.slice v1 v1n v1n)] h =
((if (((v0n : Nat) : Int) != ((v1n : Nat) : Int)) = true then
some ((.bool false), h)
else
(loopL (B25_0 base) [some (.slice v0 v0n v0n), some (.slice v1 v1n v1n), some (.int .i64 (0 : Int))] h).bind fun q1 =>
(if q1.1 = 1 then
((sget q1.2.1 0).bind getB).bind fun b2 =>
some ((.bool b2), q1.2.2)
else
(if q1.1 = 2 then
some ((.bool true), q1.2.2)
else
none))) : Option (Value × AH)) := by kernel_rfl
theorem r25 {base : Nat} {v0 : Option Addr} {v0n : Nat} {v1 : Option Addr} {v1n : Nat} {h : AH} {r : Value × AH} (hx :
((if (((v0n : Nat) : Int) != ((v1n : Nat) : Int)) = true then
some ((.bool false), h)
else
(loopL (B25_0 base) [some (.slice v0 v0n v0n), some (.slice v1 v1n v1n), some (.int .i64 (0 : Int))] h).bind fun q1 =>
(if q1.1 = 1 then
((sget q1.2.1 0).bind getB).bind fun b2 =>
some ((.bool b2), q1.2.2)
else
(if q1.1 = 2 then
some ((.bool true), q1.2.2)
else
none)))) = some r) : run (Et base) 25 [(.slice v0 v0n v0n), (.slice v1 v1n v1n)] h = some r := run_i Try.func25 (by kernel_rfl) ((f25_eq base v0 v0n v1 v1n h).trans hx)
/-! laws.szActor (gates 0) -/
theorem f36_eq (base : Nat) (v0_0 : Int) (v0_1 : Int) (v0_2 : Option Addr) (v0_2n : Nat) (v0_3 : Option Addr) (v0_3n : Nat) (v0_4 : Option Addr) (v0_4n : Nat) (v1 : Int) (h : AH) : exFun (Et base) (run (Et base)) loopL a36 Try.f36 [(.agg #[(.int .i64 v0_0), (.int .i64 v0_1), (.slice v0_2 v0_2n v0_2n), (.slice v0_3 v0_3n v0_3n), (.slice v0_4 v0_4n v0_4n)]), (.int .i64 v1)] h =
((some (h ++ [some ⟨[(.int .i64 v0_0), (.int .i64 v0_1), (.slice v0_2 v0_2n v0_2n), (.slice v0_3 v0_3n v0_3n), (.slice v0_4 v0_4n v0_4n)], 56⟩])).bind fun h1 =>
((cell h1 (List.length h) 2).bind getS).bind fun l2 =>
(run (Et base) 61 [(.slice l2.1 l2.2 l2.2), (.int .i64 v1)] h1).bind fun r3 =>
((some r3.1).bind (getI .i64)).bind fun n4 =>
(if (decide (n4 < (0 : Int))) = true then
some ((.int .i64 (-1 : Int)), r3.2)
else
((cell r3.2 (List.length h) 3).bind getS).bind fun l5 =>
(run (Et base) 61 [(.slice l5.1 l5.2 l5.2), (.int .i64 n4)] r3.2).bind fun r6 =>
((some r6.1).bind (getI .i64)).bind fun n7 =>
(if (decide (n7 < (0 : Int))) = true then
some ((.int .i64 (-1 : Int)), r6.2)
else
((cell r6.2 (List.length h) 4).bind getS).bind fun l8 =>
(run (Et base) 89 [(.slice l8.1 l8.2 l8.2), (.int .i64 n7)] r6.2).bind fun r9 =>
((some r9.1).bind (getI .i64)).bind fun n10 =>
(if (decide (n10 < (0 : Int))) = true then
some ((.int .i64 (-1 : Int)), r9.2)
else
some ((.int .i64 n10), r9.2)))) : Option (Value × AH)) := by kernel_rfl
theorem r36 {base : Nat} {v0_0 : Int} {v0_1 : Int} {v0_2 : Option Addr} {v0_2n : Nat} {v0_3 : Option Addr} {v0_3n : Nat} {v0_4 : Option Addr} {v0_4n : Nat} {v1 : Int} {h : AH} {r : Value × AH} (hx :
((some (h ++ [some ⟨[(.int .i64 v0_0), (.int .i64 v0_1), (.slice v0_2 v0_2n v0_2n), (.slice v0_3 v0_3n v0_3n), (.slice v0_4 v0_4n v0_4n)], 56⟩])).bind fun h1 =>
((cell h1 (List.length h) 2).bind getS).bind fun l2 =>
(run (Et base) 61 [(.slice l2.1 l2.2 l2.2), (.int .i64 v1)] h1).bind fun r3 =>
((some r3.1).bind (getI .i64)).bind fun n4 =>
(if (decide (n4 < (0 : Int))) = true then
some ((.int .i64 (-1 : Int)), r3.2)
else
((cell r3.2 (List.length h) 3).bind getS).bind fun l5 =>
(run (Et base) 61 [(.slice l5.1 l5.2 l5.2), (.int .i64 n4)] r3.2).bind fun r6 =>
((some r6.1).bind (getI .i64)).bind fun n7 =>
(if (decide (n7 < (0 : Int))) = true then
some ((.int .i64 (-1 : Int)), r6.2)
else
((cell r6.2 (List.length h) 4).bind getS).bind fun l8 =>
(run (Et base) 89 [(.slice l8.1 l8.2 l8.2), (.int .i64 n7)] r6.2).bind fun r9 =>
((some r9.1).bind (getI .i64)).bind fun n10 =>
(if (decide (n10 < (0 : Int))) = true then
some ((.int .i64 (-1 : Int)), r9.2)
else
some ((.int .i64 n10), r9.2))))) = some r) : run (Et base) 36 [(.agg #[(.int .i64 v0_0), (.int .i64 v0_1), (.slice v0_2 v0_2n v0_2n), (.slice v0_3 v0_3n v0_3n), (.slice v0_4 v0_4n v0_4n)]), (.int .i64 v1)] h = some r := run_i Try.func36 (by kernel_rfl) ((f36_eq base v0_0 v0_1 v0_2 v0_2n v0_3 v0_3n v0_4 v0_4n v1 h).trans hx)
/-! spec.ActorOk (gates 0) -/
theorem f37_eq (base : Nat) (v0 : Option Addr) (v0n : Nat) (v1_0 : Int) (v1_1 : Int) (v1_2 : Option Addr) (v1_2n : Nat) (v1_3 : Option Addr) (v1_3n : Nat) (v1_4 : Option Addr) (v1_4n : Nat) (h : AH) : exFun (Et base) (run (Et base)) loopL a37 Try.f37 [(.slice v0 v0n v0n), (.agg #[(.int .i64 v1_0), (.int .i64 v1_1), (.slice v1_2 v1_2n v1_2n), (.slice v1_3 v1_3n v1_3n), (.slice v1_4 v1_4n v1_4n)])] h =
((some (h ++ [some ⟨[(.int .i64 v1_0), (.int .i64 v1_1), (.slice v1_2 v1_2n v1_2n), (.slice v1_3 v1_3n v1_3n), (.slice v1_4 v1_4n v1_4n)], 29⟩])).bind fun h1 =>
((run (Et base) 77 [(.slice v0 v0n v0n)] h1).bind fun r3 =>
((some r3.1).bind getB).bind fun b4 =>
(if (!b4) = true then
some (.inl ([some (.pointer (some ⟨(List.length h), 0, none⟩)), some (.bool true)], r3.2))
else
((cell r3.2 (List.length h) 0).bind (getI .i64)).bind fun n5 =>
(run (Et base) 62 [(.int .i64 n5), (.int .i64 (1 : Int)), (.int .i64 (99999 : Int))] r3.2).bind fun r6 =>
((some r6.1).bind getB).bind fun b7 =>
(if (!b7) = true then
some (.inl ([some (.pointer (some ⟨(List.length h), 0, none⟩)), some (.bool true)], r6.2))
else
((cell r6.2 (List.length h) 1).bind (getI .i64)).bind fun n8 =>
(run (Et base) 62 [(.int .i64 n8), (.int .i64 (0 : Int)), (.int .i64 (IntKind.wrap .i64 (((v0n : Nat) : Int) - (1 : Int))))] r6.2).bind fun r9 =>
((some r9.1).bind getB).bind fun b10 =>
(if (!b10) = true then
some (.inl ([some (.pointer (some ⟨(List.length h), 0, none⟩)), some (.bool true)], r9.2))
else
((cell r9.2 (List.length h) 2).bind getS).bind fun l11 =>
(if (((l11.2 : Nat) : Int) != (8 : Int)) = true then
some (.inl ([some (.pointer (some ⟨(List.length h), 0, none⟩)), some (.bool true)], r9.2))
else
((cell r9.2 (List.length h) 3).bind getS).bind fun l12 =>
some (.inl ([some (.pointer (some ⟨(List.length h), 0, none⟩)), some (.bool (decide (((l12.2 : Nat) : Int) > (30 : Int))))], r9.2))))))).bind fun j2 => joinK j2 fun j2 =>
((sget j2.1 0).bind getA).bind fun d13 =>
((sget (j2.1.tail) 0).bind getB).bind fun b14 =>
(if b14 = true then
some ((.bool false), j2.2)
else
((cell j2.2 d13.block (d13.off + 2)).bind getS).bind fun l15 =>
(run (Et base) 90 [(.slice l15.1 l15.2 l15.2)] j2.2).bind fun r16 =>
((some r16.1).bind getB).bind fun b17 =>
(if b17 = true then
((cell r16.2 d13.block (d13.off + 3)).bind getS).bind fun l18 =>
(run (Et base) 90 [(.slice l18.1 l18.2 l18.2)] r16.2).bind fun r19 =>
((some r19.1).bind getB).bind fun b20 =>
(if b20 = true then
((cell r19.2 d13.block (d13.off + 4)).bind getS).bind fun l21 =>
((cell r19.2 d13.block (d13.off + 0)).bind (getI .i64)).bind fun n22 =>
(run (Et base) 91 [(.slice l21.1 l21.2 l21.2), (.int .i64 n22)] r19.2).bind fun r23 =>
((some r23.1).bind getB).bind fun b24 =>
some ((.bool b24), r23.2)
else
some ((.bool false), r19.2))
else
some ((.bool false), r16.2))) : Option (Value × AH)) := by kernel_rfl
theorem r37 {base : Nat} {v0 : Option Addr} {v0n : Nat} {v1_0 : Int} {v1_1 : Int} {v1_2 : Option Addr} {v1_2n : Nat} {v1_3 : Option Addr} {v1_3n : Nat} {v1_4 : Option Addr} {v1_4n : Nat} {h : AH} {r : Value × AH} (hx :
((some (h ++ [some ⟨[(.int .i64 v1_0), (.int .i64 v1_1), (.slice v1_2 v1_2n v1_2n), (.slice v1_3 v1_3n v1_3n), (.slice v1_4 v1_4n v1_4n)], 29⟩])).bind fun h1 =>
((run (Et base) 77 [(.slice v0 v0n v0n)] h1).bind fun r3 =>
((some r3.1).bind getB).bind fun b4 =>
(if (!b4) = true then
some (.inl ([some (.pointer (some ⟨(List.length h), 0, none⟩)), some (.bool true)], r3.2))
else
((cell r3.2 (List.length h) 0).bind (getI .i64)).bind fun n5 =>
(run (Et base) 62 [(.int .i64 n5), (.int .i64 (1 : Int)), (.int .i64 (99999 : Int))] r3.2).bind fun r6 =>
((some r6.1).bind getB).bind fun b7 =>
(if (!b7) = true then
some (.inl ([some (.pointer (some ⟨(List.length h), 0, none⟩)), some (.bool true)], r6.2))
else
((cell r6.2 (List.length h) 1).bind (getI .i64)).bind fun n8 =>
(run (Et base) 62 [(.int .i64 n8), (.int .i64 (0 : Int)), (.int .i64 (IntKind.wrap .i64 (((v0n : Nat) : Int) - (1 : Int))))] r6.2).bind fun r9 =>
((some r9.1).bind getB).bind fun b10 =>
(if (!b10) = true then
some (.inl ([some (.pointer (some ⟨(List.length h), 0, none⟩)), some (.bool true)], r9.2))
else
((cell r9.2 (List.length h) 2).bind getS).bind fun l11 =>
(if (((l11.2 : Nat) : Int) != (8 : Int)) = true then
some (.inl ([some (.pointer (some ⟨(List.length h), 0, none⟩)), some (.bool true)], r9.2))
else
((cell r9.2 (List.length h) 3).bind getS).bind fun l12 =>
some (.inl ([some (.pointer (some ⟨(List.length h), 0, none⟩)), some (.bool (decide (((l12.2 : Nat) : Int) > (30 : Int))))], r9.2))))))).bind fun j2 => joinK j2 fun j2 =>
((sget j2.1 0).bind getA).bind fun d13 =>
((sget (j2.1.tail) 0).bind getB).bind fun b14 =>
(if b14 = true then
some ((.bool false), j2.2)
else
((cell j2.2 d13.block (d13.off + 2)).bind getS).bind fun l15 =>
(run (Et base) 90 [(.slice l15.1 l15.2 l15.2)] j2.2).bind fun r16 =>
((some r16.1).bind getB).bind fun b17 =>
(if b17 = true then
((cell r16.2 d13.block (d13.off + 3)).bind getS).bind fun l18 =>
(run (Et base) 90 [(.slice l18.1 l18.2 l18.2)] r16.2).bind fun r19 =>
((some r19.1).bind getB).bind fun b20 =>
(if b20 = true then
((cell r19.2 d13.block (d13.off + 4)).bind getS).bind fun l21 =>
((cell r19.2 d13.block (d13.off + 0)).bind (getI .i64)).bind fun n22 =>
(run (Et base) 91 [(.slice l21.1 l21.2 l21.2), (.int .i64 n22)] r19.2).bind fun r23 =>
((some r23.1).bind getB).bind fun b24 =>
some ((.bool b24), r23.2)
else
some ((.bool false), r19.2))
else
some ((.bool false), r16.2)))) = some r) : run (Et base) 37 [(.slice v0 v0n v0n), (.agg #[(.int .i64 v1_0), (.int .i64 v1_1), (.slice v1_2 v1_2n v1_2n), (.slice v1_3 v1_3n v1_3n), (.slice v1_4 v1_4n v1_4n)])] h = some r := run_i Try.func37 (by kernel_rfl) ((f37_eq base v0 v0n v1_0 v1_1 v1_2 v1_2n v1_3 v1_3n v1_4 v1_4n h).trans hx)
/-! laws.toActor (gates 0) -/
theorem f38_eq (base : Nat) (v0_0 : Int) (v0_1 : Int) (v0_2 : Option Addr) (v0_2n : Nat) (v0_3 : Option Addr) (v0_3n : Nat) (v0_4 : Option Addr) (v0_4n : Nat) (h : AH) : exFun (Et base) (run (Et base)) loopL a38 Try.f38 [(.agg #[(.int .i64 v0_0), (.int .i64 v0_1), (.slice v0_2 v0_2n v0_2n), (.slice v0_3 v0_3n v0_3n), (.slice v0_4 v0_4n v0_4n)])] h =
((some (h ++ [some ⟨[(.int .i64 v0_0), (.int .i64 v0_1), (.slice v0_2 v0_2n v0_2n), (.slice v0_3 v0_3n v0_3n), (.slice v0_4 v0_4n v0_4n)], 56⟩])).bind fun h1 =>
(some (h1 ++ [some ⟨[(.int .i64 0), (.int .i64 0), (.slice none 0 0), (.slice none 0 0), (.slice none 0 0)], 29⟩])).bind fun h2 =>
(some (h2 ++ [some ⟨[(.int .i64 0), (.int .i64 0), (.slice none 0 0), (.slice none 0 0), (.slice none 0 0)], 29⟩])).bind fun h3 =>
((cell h3 (List.length h) 0).bind (getI .i64)).bind fun n4 =>
(wr base h3 (List.length h2) 0 [(.int .i64 n4)]).bind fun h5 =>
((cell h5 (List.length h) 1).bind (getI .i64)).bind fun n6 =>
(wr base h5 (List.length h2) 1 [(.int .i64 n6)]).bind fun h7 =>
((cell h7 (List.length h) 2).bind getS).bind fun l8 =>
(run (Et base) 66 [(.slice l8.1 l8.2 l8.2)] h7).bind fun r9 =>
((some r9.1).bind getS).bind fun l10 =>
(wr base r9.2 (List.length h2) 2 [(.slice l10.1 l10.2 l10.2)]).bind fun h11 =>
((cell h11 (List.length h) 3).bind getS).bind fun l12 =>
(run (Et base) 66 [(.slice l12.1 l12.2 l12.2)] h11).bind fun r13 =>
((some r13.1).bind getS).bind fun l14 =>
(wr base r13.2 (List.length h2) 3 [(.slice l14.1 l14.2 l14.2)]).bind fun h15 =>
((cell h15 (List.length h) 4).bind getS).bind fun l16 =>
(run (Et base) 92 [(.slice l16.1 l16.2 l16.2)] h15).bind fun r17 =>
((some r17.1).bind getS).bind fun l18 =>
(wr base r17.2 (List.length h2) 4 [(.slice l18.1 l18.2 l18.2)]).bind fun h19 =>
((cell h19 (List.length h2) 0).bind (getI .i64)).bind fun n20 =>
((cell h19 (List.length h2) 1).bind (getI .i64)).bind fun n21 =>
((cell h19 (List.length h2) 2).bind getS).bind fun l22 =>
((cell h19 (List.length h2) 3).bind getS).bind fun l23 =>
((cell h19 (List.length h2) 4).bind getS).bind fun l24 =>
(wr base h19 (List.length h1) 0 [(.int .i64 n20), (.int .i64 n21), (.slice l22.1 l22.2 l22.2), (.slice l23.1 l23.2 l23.2), (.slice l24.1 l24.2 l24.2)]).bind fun h25 =>
((cell h25 (List.length h1) 0).bind (getI .i64)).bind fun n26 =>
((cell h25 (List.length h1) 1).bind (getI .i64)).bind fun n27 =>
((cell h25 (List.length h1) 2).bind getS).bind fun l28 =>
((cell h25 (List.length h1) 3).bind getS).bind fun l29 =>
((cell h25 (List.length h1) 4).bind getS).bind fun l30 =>
some ((.agg #[(.int .i64 n26), (.int .i64 n27), (.slice l28.1 l28.2 l28.2), (.slice l29.1 l29.2 l29.2), (.slice l30.1 l30.2 l30.2)]), h25) : Option (Value × AH)) := by kernel_rfl
theorem r38 {base : Nat} {v0_0 : Int} {v0_1 : Int} {v0_2 : Option Addr} {v0_2n : Nat} {v0_3 : Option Addr} {v0_3n : Nat} {v0_4 : Option Addr} {v0_4n : Nat} {h : AH} {r : Value × AH} (hx :
((some (h ++ [some ⟨[(.int .i64 v0_0), (.int .i64 v0_1), (.slice v0_2 v0_2n v0_2n), (.slice v0_3 v0_3n v0_3n), (.slice v0_4 v0_4n v0_4n)], 56⟩])).bind fun h1 =>
(some (h1 ++ [some ⟨[(.int .i64 0), (.int .i64 0), (.slice none 0 0), (.slice none 0 0), (.slice none 0 0)], 29⟩])).bind fun h2 =>
(some (h2 ++ [some ⟨[(.int .i64 0), (.int .i64 0), (.slice none 0 0), (.slice none 0 0), (.slice none 0 0)], 29⟩])).bind fun h3 =>
((cell h3 (List.length h) 0).bind (getI .i64)).bind fun n4 =>
(wr base h3 (List.length h2) 0 [(.int .i64 n4)]).bind fun h5 =>
((cell h5 (List.length h) 1).bind (getI .i64)).bind fun n6 =>
(wr base h5 (List.length h2) 1 [(.int .i64 n6)]).bind fun h7 =>
((cell h7 (List.length h) 2).bind getS).bind fun l8 =>
(run (Et base) 66 [(.slice l8.1 l8.2 l8.2)] h7).bind fun r9 =>
((some r9.1).bind getS).bind fun l10 =>
(wr base r9.2 (List.length h2) 2 [(.slice l10.1 l10.2 l10.2)]).bind fun h11 =>
((cell h11 (List.length h) 3).bind getS).bind fun l12 =>
(run (Et base) 66 [(.slice l12.1 l12.2 l12.2)] h11).bind fun r13 =>
((some r13.1).bind getS).bind fun l14 =>
(wr base r13.2 (List.length h2) 3 [(.slice l14.1 l14.2 l14.2)]).bind fun h15 =>
((cell h15 (List.length h) 4).bind getS).bind fun l16 =>
(run (Et base) 92 [(.slice l16.1 l16.2 l16.2)] h15).bind fun r17 =>
((some r17.1).bind getS).bind fun l18 =>
(wr base r17.2 (List.length h2) 4 [(.slice l18.1 l18.2 l18.2)]).bind fun h19 =>
((cell h19 (List.length h2) 0).bind (getI .i64)).bind fun n20 =>
((cell h19 (List.length h2) 1).bind (getI .i64)).bind fun n21 =>
((cell h19 (List.length h2) 2).bind getS).bind fun l22 =>
((cell h19 (List.length h2) 3).bind getS).bind fun l23 =>
((cell h19 (List.length h2) 4).bind getS).bind fun l24 =>
(wr base h19 (List.length h1) 0 [(.int .i64 n20), (.int .i64 n21), (.slice l22.1 l22.2 l22.2), (.slice l23.1 l23.2 l23.2), (.slice l24.1 l24.2 l24.2)]).bind fun h25 =>
((cell h25 (List.length h1) 0).bind (getI .i64)).bind fun n26 =>
((cell h25 (List.length h1) 1).bind (getI .i64)).bind fun n27 =>
((cell h25 (List.length h1) 2).bind getS).bind fun l28 =>
((cell h25 (List.length h1) 3).bind getS).bind fun l29 =>
((cell h25 (List.length h1) 4).bind getS).bind fun l30 =>
some ((.agg #[(.int .i64 n26), (.int .i64 n27), (.slice l28.1 l28.2 l28.2), (.slice l29.1 l29.2 l29.2), (.slice l30.1 l30.2 l30.2)]), h25)) = some r) : run (Et base) 38 [(.agg #[(.int .i64 v0_0), (.int .i64 v0_1), (.slice v0_2 v0_2n v0_2n), (.slice v0_3 v0_3n v0_3n), (.slice v0_4 v0_4n v0_4n)])] h = some r := run_i Try.func38 (by kernel_rfl) ((f38_eq base v0_0 v0_1 v0_2 v0_2n v0_3 v0_3n v0_4 v0_4n h).trans hx)
/-! impl.ActorOk (gates 0) -/
theorem f39_eq (base : Nat) (v0 : Option Addr) (v0n : Nat) (v1_0 : Int) (v1_1 : Int) (v1_2 : Option Addr) (v1_2n : Nat) (v1_3 : Option Addr) (v1_3n : Nat) (v1_4 : Option Addr) (v1_4n : Nat) (h : AH) : exFun (Et base) (run (Et base)) loopL a39 Try.f39 [(.slice v0 v0n v0n), (.agg #[(.int .i64 v1_0), (.int .i64 v1_1), (.slice v1_2 v1_2n v1_2n), (.slice v1_3 v1_3n v1_3n), (.slice v1_4 v1_4n v1_4n)])] h =
((some (h ++ [some ⟨[(.int .i64 v1_0), (.int .i64 v1_1), (.slice v1_2 v1_2n v1_2n), (.slice v1_3 v1_3n v1_3n), (.slice v1_4 v1_4n v1_4n)], 29⟩])).bind fun h1 =>
(run (Et base) 80 [(.slice v0 v0n v0n)] h1).bind fun r2 =>
((some r2.1).bind getB).bind fun b3 =>
(if b3 = true then
((cell r2.2 (List.length h) 0).bind (getI .i64)).bind fun n4 =>
(run (Et base) 67 [(.int .i64 n4), (.int .i64 (1 : Int)), (.int .i64 (99999 : Int))] r2.2).bind fun r5 =>
((some r5.1).bind getB).bind fun b6 =>
(if b6 = true then
((cell r5.2 (List.length h) 1).bind (getI .i64)).bind fun n7 =>
(run (Et base) 67 [(.int .i64 n7), (.int .i64 (0 : Int)), (.int .i64 (IntKind.wrap .i64 (((v0n : Nat) : Int) - (1 : Int))))] r5.2).bind fun r8 =>
((some r8.1).bind getB).bind fun b9 =>
(if b9 = true then
((cell r8.2 (List.length h) 2).bind getS).bind fun l10 =>
(if (((l10.2 : Nat) : Int) == (8 : Int)) = true then
((cell r8.2 (List.length h) 2).bind getS).bind fun l11 =>
(run (Et base) 93 [(.slice l11.1 l11.2 l11.2)] r8.2).bind fun r12 =>
((some r12.1).bind getB).bind fun b13 =>
(if b13 = true then
((cell r12.2 (List.length h) 3).bind getS).bind fun l14 =>
(if (decide (((l14.2 : Nat) : Int) ≤ (30 : Int))) = true then
((cell r12.2 (List.length h) 3).bind getS).bind fun l15 =>
(run (Et base) 93 [(.slice l15.1 l15.2 l15.2)] r12.2).bind fun r16 =>
((some r16.1).bind getB).bind fun b17 =>
(if b17 = true then
((cell r16.2 (List.length h) 4).bind getS).bind fun l18 =>
((cell r16.2 (List.length h) 0).bind (getI .i64)).bind fun n19 =>
(run (Et base) 94 [(.slice l18.1 l18.2 l18.2), (.int .i64 n19)] r16.2).bind fun r20 =>
((some r20.1).bind getB).bind fun b21 =>
some ((.bool b21), r20.2)
else
some ((.bool false), r16.2))
else
some ((.bool false), r12.2))
else
some ((.bool false), r12.2))
else
some ((.bool false), r8.2))
else
some ((.bool false), r8.2))
else
some ((.bool false), r5.2))
else
some ((.bool false), r2.2)) : Option (Value × AH)) := by kernel_rfl
theorem r39 {base : Nat} {v0 : Option Addr} {v0n : Nat} {v1_0 : Int} {v1_1 : Int} {v1_2 : Option Addr} {v1_2n : Nat} {v1_3 : Option Addr} {v1_3n : Nat} {v1_4 : Option Addr} {v1_4n : Nat} {h : AH} {r : Value × AH} (hx :
((some (h ++ [some ⟨[(.int .i64 v1_0), (.int .i64 v1_1), (.slice v1_2 v1_2n v1_2n), (.slice v1_3 v1_3n v1_3n), (.slice v1_4 v1_4n v1_4n)], 29⟩])).bind fun h1 =>
(run (Et base) 80 [(.slice v0 v0n v0n)] h1).bind fun r2 =>
((some r2.1).bind getB).bind fun b3 =>
(if b3 = true then
((cell r2.2 (List.length h) 0).bind (getI .i64)).bind fun n4 =>
(run (Et base) 67 [(.int .i64 n4), (.int .i64 (1 : Int)), (.int .i64 (99999 : Int))] r2.2).bind fun r5 =>
((some r5.1).bind getB).bind fun b6 =>
(if b6 = true then
((cell r5.2 (List.length h) 1).bind (getI .i64)).bind fun n7 =>
(run (Et base) 67 [(.int .i64 n7), (.int .i64 (0 : Int)), (.int .i64 (IntKind.wrap .i64 (((v0n : Nat) : Int) - (1 : Int))))] r5.2).bind fun r8 =>
((some r8.1).bind getB).bind fun b9 =>
(if b9 = true then
((cell r8.2 (List.length h) 2).bind getS).bind fun l10 =>
(if (((l10.2 : Nat) : Int) == (8 : Int)) = true then
((cell r8.2 (List.length h) 2).bind getS).bind fun l11 =>
(run (Et base) 93 [(.slice l11.1 l11.2 l11.2)] r8.2).bind fun r12 =>
((some r12.1).bind getB).bind fun b13 =>
(if b13 = true then
((cell r12.2 (List.length h) 3).bind getS).bind fun l14 =>
(if (decide (((l14.2 : Nat) : Int) ≤ (30 : Int))) = true then
((cell r12.2 (List.length h) 3).bind getS).bind fun l15 =>
(run (Et base) 93 [(.slice l15.1 l15.2 l15.2)] r12.2).bind fun r16 =>
((some r16.1).bind getB).bind fun b17 =>
(if b17 = true then
((cell r16.2 (List.length h) 4).bind getS).bind fun l18 =>
((cell r16.2 (List.length h) 0).bind (getI .i64)).bind fun n19 =>
(run (Et base) 94 [(.slice l18.1 l18.2 l18.2), (.int .i64 n19)] r16.2).bind fun r20 =>
((some r20.1).bind getB).bind fun b21 =>
some ((.bool b21), r20.2)
else
some ((.bool false), r16.2))
else
some ((.bool false), r12.2))
else
some ((.bool false), r12.2))
else
some ((.bool false), r8.2))
else
some ((.bool false), r8.2))
else
some ((.bool false), r5.2))
else
some ((.bool false), r2.2))) = some r) : run (Et base) 39 [(.slice v0 v0n v0n), (.agg #[(.int .i64 v1_0), (.int .i64 v1_1), (.slice v1_2 v1_2n v1_2n), (.slice v1_3 v1_3n v1_3n), (.slice v1_4 v1_4n v1_4n)])] h = some r := run_i Try.func39 (by kernel_rfl) ((f39_eq base v0 v0n v1_0 v1_1 v1_2 v1_2n v1_3 v1_3n v1_4 v1_4n h).trans hx)
/-! laws.szPlain (gates 0) -/
theorem f40_eq (base : Nat) (v0_0 : Option Addr) (v0_0n : Nat) (v0_1 : Option Addr) (v0_1n : Nat) (v0_2 : Int) (v0_3 : Option Addr) (v0_3n : Nat) (v1 : Int) (h : AH) : exFun (Et base) (run (Et base)) loopL a40 Try.f40 [(.agg #[(.slice v0_0 v0_0n v0_0n), (.slice v0_1 v0_1n v0_1n), (.int .i64 v0_2), (.slice v0_3 v0_3n v0_3n)]), (.int .i64 v1)] h =
((some (h ++ [some ⟨[(.slice v0_0 v0_0n v0_0n), (.slice v0_1 v0_1n v0_1n), (.int .i64 v0_2), (.slice v0_3 v0_3n v0_3n)], 64⟩])).bind fun h1 =>
((cell h1 (List.length h) 0).bind getS).bind fun l2 =>
(run (Et base) 20 [(.slice l2.1 l2.2 l2.2), (.int .i64 v1)] h1).bind fun r3 =>
((some r3.1).bind (getI .i64)).bind fun n4 =>
(if (decide (n4 < (0 : Int))) = true then
some ((.int .i64 (-1 : Int)), r3.2)
else
((cell r3.2 (List.length h) 1).bind getS).bind fun l5 =>
(run (Et base) 95 [(.slice l5.1 l5.2 l5.2), (.int .i64 n4)] r3.2).bind fun r6 =>
((some r6.1).bind (getI .i64)).bind fun n7 =>
(if (decide (n7 < (0 : Int))) = true then
some ((.int .i64 (-1 : Int)), r6.2)
else
((cell r6.2 (List.length h) 3).bind getS).bind fun l8 =>
(run (Et base) 96 [(.slice l8.1 l8.2 l8.2), (.int .i64 n7)] r6.2).bind fun r9 =>
((some r9.1).bind (getI .i64)).bind fun n10 =>
(if (decide (n10 < (0 : Int))) = true then
some ((.int .i64 (-1 : Int)), r9.2)
else
some ((.int .i64 n10), r9.2)))) : Option (Value × AH)) := by kernel_rfl
theorem r40 {base : Nat} {v0_0 : Option Addr} {v0_0n : Nat} {v0_1 : Option Addr} {v0_1n : Nat} {v0_2 : Int} {v0_3 : Option Addr} {v0_3n : Nat} {v1 : Int} {h : AH} {r : Value × AH} (hx :
((some (h ++ [some ⟨[(.slice v0_0 v0_0n v0_0n), (.slice v0_1 v0_1n v0_1n), (.int .i64 v0_2), (.slice v0_3 v0_3n v0_3n)], 64⟩])).bind fun h1 =>
((cell h1 (List.length h) 0).bind getS).bind fun l2 =>
(run (Et base) 20 [(.slice l2.1 l2.2 l2.2), (.int .i64 v1)] h1).bind fun r3 =>
((some r3.1).bind (getI .i64)).bind fun n4 =>
(if (decide (n4 < (0 : Int))) = true then
some ((.int .i64 (-1 : Int)), r3.2)
else
((cell r3.2 (List.length h) 1).bind getS).bind fun l5 =>
(run (Et base) 95 [(.slice l5.1 l5.2 l5.2), (.int .i64 n4)] r3.2).bind fun r6 =>
((some r6.1).bind (getI .i64)).bind fun n7 =>
(if (decide (n7 < (0 : Int))) = true then
some ((.int .i64 (-1 : Int)), r6.2)
else
((cell r6.2 (List.length h) 3).bind getS).bind fun l8 =>
(run (Et base) 96 [(.slice l8.1 l8.2 l8.2), (.int .i64 n7)] r6.2).bind fun r9 =>
((some r9.1).bind (getI .i64)).bind fun n10 =>
(if (decide (n10 < (0 : Int))) = true then
some ((.int .i64 (-1 : Int)), r9.2)
else
some ((.int .i64 n10), r9.2))))) = some r) : run (Et base) 40 [(.agg #[(.slice v0_0 v0_0n v0_0n), (.slice v0_1 v0_1n v0_1n), (.int .i64 v0_2), (.slice v0_3 v0_3n v0_3n)]), (.int .i64 v1)] h = some r := run_i Try.func40 (by kernel_rfl) ((f40_eq base v0_0 v0_0n v0_1 v0_1n v0_2 v0_3 v0_3n v1 h).trans hx)
/-! spec.PlainOk (gates 0) -/
noncomputable def B41_0 (base : Nat) : Body := fun l h => lay s41_0 l fun s => exCode (Et base) (run (Et base)) loopL a41_0 (subC [1, 1, 0, 1, 0, 0] (bodyC Try.f41)) s h (keepK s41_0 e41_0)
theorem B41_0_eq (base : Nat) (v1 : Addr) (v3 : Int) (h : AH) : B41_0 base [some (.pointer (some v1)), some (.int .i64 v3)] h =
(((cell h v1.block (v1.off + 1)).bind getS).bind fun l1 =>
(if (decide (v3 < ((l1.2 : Nat) : Int))) = true then
((cell h v1.block (v1.off + 1)).bind getS).bind fun l2 =>
(if 0 ≤ v3 ∧ v3 < ((l2.2 : Nat) : Int) then
((l2.1 : Option Addr)).bind fun a3 =>
((cell h a3.block (a3.off + Int.toNat v3 * 5)).bind (getI .i64)).bind fun n4 =>
((cell h a3.block ((a3.off + Int.toNat v3 * 5) + 1)).bind (getI .i64)).bind fun n5 =>
((cell h a3.block (((a3.off + Int.toNat v3 * 5) + 1) + 1)).bind getS).bind fun l6 =>
((cell h a3.block ((((a3.off + Int.toNat v3 * 5) + 1) + 1) + 1)).bind getS).bind fun l7 =>
((cell h a3.block (((((a3.off + Int.toNat v3 * 5) + 1) + 1) + 1) + 1)).bind getS).bind fun l8 =>
(some (h ++ [some ⟨[(.int .i64 0), (.int .i64 0), (.slice none 0 0), (.slice none 0 0), (.slice none 0 0)], 29⟩])).bind fun h9 =>
(wr base h9 (List.length h) 0 [(.int .i64 n4), (.int .i64 n5), (.slice l6.1 l6.2 l6.2), (.slice l7.1 l7.2 l7.2), (.slice l8.1 l8.2 l8.2)]).bind fun h10 =>
(((cell h10 v1.block (v1.off + 0)).bind getS).bind fun l12 =>
((cell h10 (List.length h) 0).bind (getI .i64)).bind fun n13 =>
((cell h10 (List.length h) 1).bind (getI .i64)).bind fun n14 =>
((cell h10 (List.length h) 2).bind getS).bind fun l15 =>
((cell h10 (List.length h) 3).bind getS).bind fun l16 =>
((cell h10 (List.length h) 4).bind getS).bind fun l17 =>
(run (Et base) 37 [(.slice l12.1 l12.2 l12.2), (.agg #[(.int .i64 n13), (.int .i64 n14), (.slice l15.1 l15.2 l15.2), (.slice l16.1 l16.2 l16.2), (.slice l17.1 l17.2 l17.2)])] h10).bind fun r18 =>
((some r18.1).bind getB).bind fun b19 =>
(if (!b19) = true then
some (.inl ([some (.pointer (some v1)), some (.int .i64 v3), some (.bool true)], r18.2))
else
((cell r18.2 (List.length h) 0).bind (getI .i64)).bind fun n20 =>
((cell r18.2 v1.block (v1.off + 2)).bind (getI .i64)).bind fun n21 =>
(if (decide (n20 ≥ n21)) = true then
some (.inl ([some (.pointer (some v1)), some (.int .i64 v3), some (.bool true)], r18.2))
else
(if (decide (v3 > (0 : Int))) = true then
((cell r18.2 v1.block (v1.off + 1)).bind getS).bind fun l22 =>
(if 0 ≤ (IntKind.wrap .i64 (v3 - (1 : Int))) ∧ (IntKind.wrap .i64 (v3 - (1 : Int))) < ((l22.2 : Nat) : Int) then
((l22.1 : Option Addr)).bind fun a23 =>
((cell r18.2 a23.block ((a23.off + Int.toNat (IntKind.wrap .i64 (v3 - (1 : Int))) * 5) + 0)).bind (getI .i64)).bind fun n24 =>
((cell r18.2 (List.length h) 0).bind (getI .i64)).bind fun n25 =>
(if (decide (n24 ≥ n25)) = true then
some (.inl ([some (.pointer (some v1)), some (.int .i64 v3), some (.bool true)], r18.2))
else
((cell r18.2 v1.block v1.off).bind getS).bind fun l26 =>
((cell r18.2 v1.block (v1.off + 1)).bind getS).bind fun l27 =>
((cell r18.2 v1.block ((v1.off + 1) + 1)).bind (getI .i64)).bind fun n28 =>
((cell r18.2 v1.block (((v1.off + 1) + 1) + 1)).bind getS).bind fun l29 =>
(run (Et base) 98 [(.agg #[(.slice l26.1 l26.2 l26.2), (.slice l27.1 l27.2 l27.2), (.int .i64 n28), (.slice l29.1 l29.2 l29.2)]), (.int .i64 v3)] r18.2).bind fun r30 =>
((some r30.1).bind getB).bind fun b31 =>
some (.inl ([some (.pointer (some v1)), some (.int .i64 v3), some (.bool (!b31))], r30.2)))
else none)
else
((cell r18.2 v1.block v1.off).bind getS).bind fun l32 =>
((cell r18.2 v1.block (v1.off + 1)).bind getS).bind fun l33 =>
((cell r18.2 v1.block ((v1.off + 1) + 1)).bind (getI .i64)).bind fun n34 =>
((cell r18.2 v1.block (((v1.off + 1) + 1) + 1)).bind getS).bind fun l35 =>
(run (Et base) 98 [(.agg #[(.slice l32.1 l32.2 l32.2), (.slice l33.1 l33.2 l33.2), (.int .i64 n34), (.slice l35.1 l35.2 l35.2)]), (.int .i64 v3)] r18.2).bind fun r36 =>
((some r36.1).bind getB).bind fun b37 =>
some (.inl ([some (.pointer (some v1)), some (.int .i64 v3), some (.bool (!b37))], r36.2)))))).bind fun j11 => joinK j11 fun j11 =>
((sget j11.1 0).bind getA).bind fun d38 =>
((sget (j11.1.tail) 0).bind (getI .i64)).bind fun n39 =>
((sget (j11.1.tail.tail) 0).bind getB).bind fun b40 =>
(if b40 = true then
some (1, [some (.bool false)], j11.2)
else
some (0, [some (.pointer (some d38)), some (.int .i64 (IntKind.wrap .i64 (n39 + (1 : Int))))], j11.2))
else none)
else
some (2, [], h)) : Option (Nat × Slots × AH)) := by kernel_rfl
theorem f41_eq (base : Nat) (v0_0 : Option Addr) (v0_0n : Nat) (v0_1 : Option Addr) (v0_1n : Nat) (v0_2 : Int) (v0_3 : Option Addr) (v0_3n : Nat) (h : AH) : exFun (Et base) (run (Et base)) loopL a41 Try.f41 [(.agg #[(.slice v0_0 v0_0n v0_0n), (.slice v0_1 v0_1n v0_1n), (.int .i64 v0_2), (.slice v0_3 v0_3n v0_3n)])] h =
((some (h ++ [some ⟨[(.slice v0_0 v0_0n v0_0n), (.slice v0_1 v0_1n v0_1n), (.int .i64 v0_2), (.slice v0_3 v0_3n v0_3n)], 70⟩])).bind fun h1 =>
(((cell h1 (List.length h) 0).bind getS).bind fun l3 =>
(run (Et base) 77 [(.slice l3.1 l3.2 l3.2)] h1).bind fun r4 =>
((some r4.1).bind getB).bind fun b5 =>
(if (!b5) = true then
some (.inl ([some (.pointer (some ⟨(List.length h), 0, none⟩)), some (.bool true)], r4.2))
else
((cell r4.2 (List.length h) 2).bind (getI .i64)).bind fun n6 =>
(run (Et base) 62 [(.int .i64 n6), (.int .i64 (1 : Int)), (.int .i64 (90000 : Int))] r4.2).bind fun r7 =>
((some r7.1).bind getB).bind fun b8 =>
(if (!b8) = true then
some (.inl ([some (.pointer (some ⟨(List.length h), 0, none⟩)), some (.bool true)], r7.2))
else
((cell r7.2 (List.length h) 1).bind getS).bind fun l9 =>
(if (decide (((l9.2 : Nat) : Int) > (20 : Int))) = true then
some (.inl ([some (.pointer (some ⟨(List.length h), 0, none⟩)), some (.bool true)], r7.2))
else
((cell r7.2 (List.length h) 3).bind getS).bind fun l10 =>
(run (Et base) 97 [(.slice l10.1 l10.2 l10.2)] r7.2).bind fun r11 =>
((some r11.1).bind getB).bind fun b12 =>
some (.inl ([some (.pointer (some ⟨(List.length h), 0, none⟩)), some (.bool (!b12))], r11.2)))))).bind fun j2 => joinK j2 fun j2 =>
((sget j2.1 0).bind getA).bind fun d13 =>
((sget (j2.1.tail) 0).bind getB).bind fun b14 =>
(if b14 = true then
some ((.bool false), j2.2)
else
(loopL (B41_0 base) [some (.pointer (some d13)), some (.int .i64 (0 : Int))] j2.2).bind fun q15 =>
(if q15.1 = 1 then
((sget q15.2.1 0).bind getB).bind fun b16 =>
some ((.bool b16), q15.2.2)
else
(if q15.1 = 2 then
some ((.bool true), q15.2.2)
else
none))) : Option (Value × AH)) := by kernel_rfl
theorem r41 {base : Nat} {v0_0 : Option Addr} {v0_0n : Nat} {v0_1 : Option Addr} {v0_1n : Nat} {v0_2 : Int} {v0_3 : Option Addr} {v0_3n : Nat} {h : AH} {r : Value × AH} (hx :
((some (h ++ [some ⟨[(.slice v0_0 v0_0n v0_0n), (.slice v0_1 v0_1n v0_1n), (.int .i64 v0_2), (.slice v0_3 v0_3n v0_3n)], 70⟩])).bind fun h1 =>
(((cell h1 (List.length h) 0).bind getS).bind fun l3 =>
(run (Et base) 77 [(.slice l3.1 l3.2 l3.2)] h1).bind fun r4 =>
((some r4.1).bind getB).bind fun b5 =>
(if (!b5) = true then
some (.inl ([some (.pointer (some ⟨(List.length h), 0, none⟩)), some (.bool true)], r4.2))
else
((cell r4.2 (List.length h) 2).bind (getI .i64)).bind fun n6 =>
(run (Et base) 62 [(.int .i64 n6), (.int .i64 (1 : Int)), (.int .i64 (90000 : Int))] r4.2).bind fun r7 =>
((some r7.1).bind getB).bind fun b8 =>
(if (!b8) = true then
some (.inl ([some (.pointer (some ⟨(List.length h), 0, none⟩)), some (.bool true)], r7.2))
else
((cell r7.2 (List.length h) 1).bind getS).bind fun l9 =>
(if (decide (((l9.2 : Nat) : Int) > (20 : Int))) = true then
some (.inl ([some (.pointer (some ⟨(List.length h), 0, none⟩)), some (.bool true)], r7.2))
else
((cell r7.2 (List.length h) 3).bind getS).bind fun l10 =>
(run (Et base) 97 [(.slice l10.1 l10.2 l10.2)] r7.2).bind fun r11 =>
((some r11.1).bind getB).bind fun b12 =>
some (.inl ([some (.pointer (some ⟨(List.length h), 0, none⟩)), some (.bool (!b12))], r11.2)))))).bind fun j2 => joinK j2 fun j2 =>
((sget j2.1 0).bind getA).bind fun d13 =>
((sget (j2.1.tail) 0).bind getB).bind fun b14 =>
(if b14 = true then
some ((.bool false), j2.2)
else
(loopL (B41_0 base) [some (.pointer (some d13)), some (.int .i64 (0 : Int))] j2.2).bind fun q15 =>
(if q15.1 = 1 then
((sget q15.2.1 0).bind getB).bind fun b16 =>
some ((.bool b16), q15.2.2)
else
(if q15.1 = 2 then
some ((.bool true), q15.2.2)
else
none)))) = some r) : run (Et base) 41 [(.agg #[(.slice v0_0 v0_0n v0_0n), (.slice v0_1 v0_1n v0_1n), (.int .i64 v0_2), (.slice v0_3 v0_3n v0_3n)])] h = some r := run_i Try.func41 (by kernel_rfl) ((f41_eq base v0_0 v0_0n v0_1 v0_1n v0_2 v0_3 v0_3n h).trans hx)
/-! laws.toPlain (gates 0) -/
theorem f42_eq (base : Nat) (v0_0 : Option Addr) (v0_0n : Nat) (v0_1 : Option Addr) (v0_1n : Nat) (v0_2 : Int) (v0_3 : Option Addr) (v0_3n : Nat) (h : AH) : exFun (Et base) (run (Et base)) loopL a42 Try.f42 [(.agg #[(.slice v0_0 v0_0n v0_0n), (.slice v0_1 v0_1n v0_1n), (.int .i64 v0_2), (.slice v0_3 v0_3n v0_3n)])] h =
((some (h ++ [some ⟨[(.slice v0_0 v0_0n v0_0n), (.slice v0_1 v0_1n v0_1n), (.int .i64 v0_2), (.slice v0_3 v0_3n v0_3n)], 64⟩])).bind fun h1 =>
(some (h1 ++ [some ⟨[(.slice none 0 0), (.slice none 0 0), (.int .i64 0), (.slice none 0 0)], 70⟩])).bind fun h2 =>
(some (h2 ++ [some ⟨[(.slice none 0 0), (.slice none 0 0), (.int .i64 0), (.slice none 0 0)], 70⟩])).bind fun h3 =>
((cell h3 (List.length h) 0).bind getS).bind fun l4 =>
(run (Et base) 22 [(.slice l4.1 l4.2 l4.2)] h3).bind fun r5 =>
((some r5.1).bind getS).bind fun l6 =>
(wr base r5.2 (List.length h2) 0 [(.slice l6.1 l6.2 l6.2)]).bind fun h7 =>
((cell h7 (List.length h) 1).bind getS).bind fun l8 =>
(run (Et base) 99 [(.slice l8.1 l8.2 l8.2)] h7).bind fun r9 =>
((some r9.1).bind getS).bind fun l10 =>
(wr base r9.2 (List.length h2) 1 [(.slice l10.1 l10.2 l10.2)]).bind fun h11 =>
((cell h11 (List.length h) 2).bind (getI .i64)).bind fun n12 =>
(wr base h11 (List.length h2) 2 [(.int .i64 n12)]).bind fun h13 =>
((cell h13 (List.length h) 3).bind getS).bind fun l14 =>
(run (Et base) 100 [(.slice l14.1 l14.2 l14.2)] h13).bind fun r15 =>
((some r15.1).bind getS).bind fun l16 =>
(wr base r15.2 (List.length h2) 3 [(.slice l16.1 l16.2 l16.2)]).bind fun h17 =>
((cell h17 (List.length h2) 0).bind getS).bind fun l18 =>
((cell h17 (List.length h2) 1).bind getS).bind fun l19 =>
((cell h17 (List.length h2) 2).bind (getI .i64)).bind fun n20 =>
((cell h17 (List.length h2) 3).bind getS).bind fun l21 =>
(wr base h17 (List.length h1) 0 [(.slice l18.1 l18.2 l18.2), (.slice l19.1 l19.2 l19.2), (.int .i64 n20), (.slice l21.1 l21.2 l21.2)]).bind fun h22 =>
((cell h22 (List.length h1) 0).bind getS).bind fun l23 =>
((cell h22 (List.length h1) 1).bind getS).bind fun l24 =>
((cell h22 (List.length h1) 2).bind (getI .i64)).bind fun n25 =>
((cell h22 (List.length h1) 3).bind getS).bind fun l26 =>
some ((.agg #[(.slice l23.1 l23.2 l23.2), (.slice l24.1 l24.2 l24.2), (.int .i64 n25), (.slice l26.1 l26.2 l26.2)]), h22) : Option (Value × AH)) := by kernel_rfl
theorem r42 {base : Nat} {v0_0 : Option Addr} {v0_0n : Nat} {v0_1 : Option Addr} {v0_1n : Nat} {v0_2 : Int} {v0_3 : Option Addr} {v0_3n : Nat} {h : AH} {r : Value × AH} (hx :
((some (h ++ [some ⟨[(.slice v0_0 v0_0n v0_0n), (.slice v0_1 v0_1n v0_1n), (.int .i64 v0_2), (.slice v0_3 v0_3n v0_3n)], 64⟩])).bind fun h1 =>
(some (h1 ++ [some ⟨[(.slice none 0 0), (.slice none 0 0), (.int .i64 0), (.slice none 0 0)], 70⟩])).bind fun h2 =>
(some (h2 ++ [some ⟨[(.slice none 0 0), (.slice none 0 0), (.int .i64 0), (.slice none 0 0)], 70⟩])).bind fun h3 =>
((cell h3 (List.length h) 0).bind getS).bind fun l4 =>
(run (Et base) 22 [(.slice l4.1 l4.2 l4.2)] h3).bind fun r5 =>
((some r5.1).bind getS).bind fun l6 =>
(wr base r5.2 (List.length h2) 0 [(.slice l6.1 l6.2 l6.2)]).bind fun h7 =>
((cell h7 (List.length h) 1).bind getS).bind fun l8 =>
(run (Et base) 99 [(.slice l8.1 l8.2 l8.2)] h7).bind fun r9 =>
((some r9.1).bind getS).bind fun l10 =>
(wr base r9.2 (List.length h2) 1 [(.slice l10.1 l10.2 l10.2)]).bind fun h11 =>
((cell h11 (List.length h) 2).bind (getI .i64)).bind fun n12 =>
(wr base h11 (List.length h2) 2 [(.int .i64 n12)]).bind fun h13 =>
((cell h13 (List.length h) 3).bind getS).bind fun l14 =>
(run (Et base) 100 [(.slice l14.1 l14.2 l14.2)] h13).bind fun r15 =>
((some r15.1).bind getS).bind fun l16 =>
(wr base r15.2 (List.length h2) 3 [(.slice l16.1 l16.2 l16.2)]).bind fun h17 =>
((cell h17 (List.length h2) 0).bind getS).bind fun l18 =>
((cell h17 (List.length h2) 1).bind getS).bind fun l19 =>
((cell h17 (List.length h2) 2).bind (getI .i64)).bind fun n20 =>
((cell h17 (List.length h2) 3).bind getS).bind fun l21 =>
(wr base h17 (List.length h1) 0 [(.slice l18.1 l18.2 l18.2), (.slice l19.1 l19.2 l19.2), (.int .i64 n20), (.slice l21.1 l21.2 l21.2)]).bind fun h22 =>
((cell h22 (List.length h1) 0).bind getS).bind fun l23 =>
((cell h22 (List.length h1) 1).bind getS).bind fun l24 =>
((cell h22 (List.length h1) 2).bind (getI .i64)).bind fun n25 =>
((cell h22 (List.length h1) 3).bind getS).bind fun l26 =>
some ((.agg #[(.slice l23.1 l23.2 l23.2), (.slice l24.1 l24.2 l24.2), (.int .i64 n25), (.slice l26.1 l26.2 l26.2)]), h22)) = some r) : run (Et base) 42 [(.agg #[(.slice v0_0 v0_0n v0_0n), (.slice v0_1 v0_1n v0_1n), (.int .i64 v0_2), (.slice v0_3 v0_3n v0_3n)])] h = some r := run_i Try.func42 (by kernel_rfl) ((f42_eq base v0_0 v0_0n v0_1 v0_1n v0_2 v0_3 v0_3n h).trans hx)
/-! impl.PlainOk (gates 0) -/
noncomputable def B43_1 (base : Nat) : Body := fun l h => lay s43_1 l fun s => exCode (Et base) (run (Et base)) loopL a43_1 (subC [1, 1, 0, 1, 0, 0, 1, 1, 0, 0, 1, 1, 1, 0, 0] (bodyC Try.f43)) s h (keepK s43_1 e43_1)
noncomputable def B43_0 (base : Nat) : Body := fun l h => lay s43_0 l fun s => exCode (Et base) (run (Et base)) loopL a43_0 (subC [1, 1, 0, 1, 0, 0] (bodyC Try.f43)) s h (keepK s43_0 e43_0)
theorem B43_1_eq (base : Nat) (v1 : Addr) (v4 : Addr) (v31 : Option Addr) (v31n : Nat) (v32 : Int) (v33 : Int) (v67 : Option Addr) (v67n : Nat) (v68 : Int) (v69 : Int) (h : AH) : B43_1 base [some (.pointer (some v1)), some (.pointer (some v4)), some (.slice v31 v31n v31n), some (.int .i64 v32), some (.int .i64 v33), some (.slice v67 v67n v67n), some (.int .i64 v68), some (.int .i64 v69)] h =
((if (decide (v69 < v68)) = true then
(if 0 ≤ v69 ∧ v69 < ((v67n : Nat) : Int) then
((v67 : Option Addr)).bind fun a1 =>
((cell h a1.block (a1.off + Int.toNat v69 * 1)).bind (getI .i64)).bind fun n2 =>
(run (Et base) 102 [(.pointer (some v1)), (.int .i64 n2)] h).bind fun r3 =>
((some r3.1).bind (getI .i64)).bind fun n4 =>
((if (decide (n4 ≥ (0 : Int))) = true then
((cell r3.2 v1.block (v1.off + 1)).bind getS).bind fun l6 =>
(if 0 ≤ n4 ∧ n4 < ((l6.2 : Nat) : Int) then
((l6.1 : Option Addr)).bind fun a7 =>
((cell r3.2 a7.block ((a7.off + Int.toNat n4 * 5) + 4)).bind getS).bind fun l8 =>
((cell r3.2 v4.block (v4.off + 0)).bind (getI .i64)).bind fun n9 =>
(run (Et base) 103 [(.slice l8.1 l8.2 l8.2), (.int .i64 n9)] r3.2).bind fun r10 =>
((some r10.1).bind getB).bind fun b11 =>
some (.inl ([some (.pointer (some v1)), some (.pointer (some v4)), some (.slice v31 v31n v31n), some (.int .i64 v32), some (.int .i64 v33), some (.slice v67 v67n v67n), some (.int .i64 v68), some (.int .i64 v69), some (.bool (!b11))], r10.2))
else none)
else
some (.inl ([some (.pointer (some v1)), some (.pointer (some v4)), some (.slice v31 v31n v31n), some (.int .i64 v32), some (.int .i64 v33), some (.slice v67 v67n v67n), some (.int .i64 v68), some (.int .i64 v69), some (.bool false)], r3.2)))).bind fun j5 => joinK j5 fun j5 =>
((sget j5.1 0).bind getA).bind fun d12 =>
((sget (j5.1.tail) 0).bind getA).bind fun d13 =>
((sget (j5.1.tail.tail) 0).bind getS).bind fun l14 =>
((sget (j5.1.tail.tail.tail) 0).bind (getI .i64)).bind fun n15 =>
((sget (j5.1.tail.tail.tail.tail) 0).bind (getI .i64)).bind fun n16 =>
((sget (j5.1.tail.tail.tail.tail.tail) 0).bind getS).bind fun l17 =>
((sget (j5.1.tail.tail.tail.tail.tail.tail) 0).bind (getI .i64)).bind fun n18 =>
((sget (j5.1.tail.tail.tail.tail.tail.tail.tail) 0).bind (getI .i64)).bind fun n19 =>
((sget (j5.1.tail.tail.tail.tail.tail.tail.tail.tail) 0).bind getB).bind fun b20 =>
(if b20 = true then
some (1, [some (.bool false)], j5.2)
else
some (0, [some (.pointer (some d12)), some (.pointer (some d13)), some (.slice l14.1 l14.2 l14.2), some (.int .i64 n15), some (.int .i64 n16), some (.slice l17.1 l17.2 l17.2), some (.int .i64 n18), some (.int .i64 (IntKind.wrap .i64 (n19 + (1 : Int))))], j5.2))
else none)
else
some (4, [some (.pointer (some v1)), some (.slice v31 v31n v31n), some (.int .i64 v32), some (.int .i64 v33)], h)) : Option (Nat × Slots × AH)) := by kernel_rfl
theorem B43_0_eq (base : Nat) (v1 : Addr) (v31 : Option Addr) (v31n : Nat) (v32 : Int) (v33 : Int) (h : AH) : B43_0 base [some (.pointer (some v1)), some (.slice v31 v31n v31n), some (.int .i64 v32), some (.int .i64 v33)] h =
((if (decide (v33 < v32)) = true then
(if 0 ≤ v33 ∧ v33 < ((v31n : Nat) : Int) then
((v31 : Option Addr)).bind fun a1 =>
((cell h a1.block (a1.off + Int.toNat v33 * 5)).bind (getI .i64)).bind fun n2 =>
((cell h a1.block ((a1.off + Int.toNat v33 * 5) + 1)).bind (getI .i64)).bind fun n3 =>
((cell h a1.block (((a1.off + Int.toNat v33 * 5) + 1) + 1)).bind getS).bind fun l4 =>
((cell h a1.block ((((a1.off + Int.toNat v33 * 5) + 1) + 1) + 1)).bind getS).bind fun l5 =>
((cell h a1.block (((((a1.off + Int.toNat v33 * 5) + 1) + 1) + 1) + 1)).bind getS).bind fun l6 =>
(some (h ++ [some ⟨[(.int .i64 0), (.int .i64 0), (.slice none 0 0), (.slice none 0 0), (.slice none 0 0)], 29⟩])).bind fun h7 =>
(wr base h7 (List.length h) 0 [(.int .i64 n2), (.int .i64 n3), (.slice l4.1 l4.2 l4.2), (.slice l5.1 l5.2 l5.2), (.slice l6.1 l6.2 l6.2)]).bind fun h8 =>
(((cell h8 v1.block (v1.off + 0)).bind getS).bind fun l10 =>
((cell h8 (List.length h) 0).bind (getI .i64)).bind fun n11 =>
((cell h8 (List.length h) 1).bind (getI .i64)).bind fun n12 =>
((cell h8 (List.length h) 2).bind getS).bind fun l13 =>
((cell h8 (List.length h) 3).bind getS).bind fun l14 =>
((cell h8 (List.length h) 4).bind getS).bind fun l15 =>
(run (Et base) 39 [(.slice l10.1 l10.2 l10.2), (.agg #[(.int .i64 n11), (.int .i64 n12), (.slice l13.1 l13.2 l13.2), (.slice l14.1 l14.2 l14.2), (.slice l15.1 l15.2 l15.2)])] h8).bind fun r16 =>
((some r16.1).bind getB).bind fun b17 =>
(if (!b17) = true then
some (.inl ([some (.pointer (some v1)), some (.pointer (some ⟨(List.length h), 0, none⟩)), some (.slice v31 v31n v31n), some (.int .i64 v32), some (.int .i64 v33), some (.bool true)], r16.2))
else
((cell r16.2 (List.length h) 0).bind (getI .i64)).bind fun n18 =>
((cell r16.2 v1.block (v1.off + 2)).bind (getI .i64)).bind fun n19 =>
(if (decide (n18 ≥ n19)) = true then
some (.inl ([some (.pointer (some v1)), some (.pointer (some ⟨(List.length h), 0, none⟩)), some (.slice v31 v31n v31n), some (.int .i64 v32), some (.int .i64 v33), some (.bool true)], r16.2))
else
(if (decide (v33 > (0 : Int))) = true then
((cell r16.2 v1.block (v1.off + 1)).bind getS).bind fun l20 =>
(if 0 ≤ (IntKind.wrap .i64 (v33 - (1 : Int))) ∧ (IntKind.wrap .i64 (v33 - (1 : Int))) < ((l20.2 : Nat) : Int) then
((l20.1 : Option Addr)).bind fun a21 =>
((cell r16.2 a21.block ((a21.off + Int.toNat (IntKind.wrap .i64 (v33 - (1 : Int))) * 5) + 0)).bind (getI .i64)).bind fun n22 =>
((cell r16.2 (List.length h) 0).bind (getI .i64)).bind fun n23 =>
some (.inl ([some (.pointer (some v1)), some (.pointer (some ⟨(List.length h), 0, none⟩)), some (.slice v31 v31n v31n), some (.int .i64 v32), some (.int .i64 v33), some (.bool (decide (n22 ≥ n23)))], r16.2))
else none)
else
some (.inl ([some (.pointer (some v1)), some (.pointer (some ⟨(List.length h), 0, none⟩)), some (.slice v31 v31n v31n), some (.int .i64 v32), some (.int .i64 v33), some (.bool false)], r16.2)))))).bind fun j9 => joinK j9 fun j9 =>
((sget j9.1 0).bind getA).bind fun d24 =>
((sget (j9.1.tail) 0).bind getA).bind fun d25 =>
((sget (j9.1.tail.tail) 0).bind getS).bind fun l26 =>
((sget (j9.1.tail.tail.tail) 0).bind (getI .i64)).bind fun n27 =>
((sget (j9.1.tail.tail.tail.tail) 0).bind (getI .i64)).bind fun n28 =>
((sget (j9.1.tail.tail.tail.tail.tail) 0).bind getB).bind fun b29 =>
(if b29 = true then
some (1, [some (.bool false)], j9.2)
else
((cell j9.2 d25.block (d25.off + 4)).bind getS).bind fun l30 =>
(loopL (B43_1 base) [some (.pointer (some d24)), some (.pointer (some d25)), some (.slice l26.1 l26.2 l26.2), some (.int .i64 n27), some (.int .i64 n28), some (.slice l30.1 l30.2 l30.2), some (.int .i64 ((l30.2 : Nat) : Int)), some (.int .i64 (0 : Int))] j9.2).bind fun q31 =>
(if q31.1 = 1 then
((sget q31.2.1 0).bind getB).bind fun b32 =>
some (1, [some (.bool b32)], q31.2.2)
else
(if q31.1 = 4 then
((sget q31.2.1 0).bind getA).bind fun d33 =>
((sget (q31.2.1.tail) 0).bind getS).bind fun l34 =>
((sget (q31.2.1.tail.tail) 0).bind (getI .i64)).bind fun n35 =>
((sget (q31.2.1.tail.tail.tail) 0).bind (getI .i64)).bind fun n36 =>
some (0, [some (.pointer (some d33)), some (.slice l34.1 l34.2 l34.2), some (.int .i64 n35), some (.int .i64 (IntKind.wrap .i64 (n36 + (1 : Int))))], q31.2.2)
else
none)))
else none)
else
some (2, [], h)) : Option (Nat × Slots × AH)) := by kernel_rfl
theorem f43_eq (base : Nat) (v0_0 : Option Addr) (v0_0n : Nat) (v0_1 : Option Addr) (v0_1n : Nat) (v0_2 : Int) (v0_3 : Option Addr) (v0_3n : Nat) (h : AH) : exFun (Et base) (run (Et base)) loopL a43 Try.f43 [(.agg #[(.slice v0_0 v0_0n v0_0n), (.slice v0_1 v0_1n v0_1n), (.int .i64 v0_2), (.slice v0_3 v0_3n v0_3n)])] h =
((some (h ++ [some ⟨[(.slice v0_0 v0_0n v0_0n), (.slice v0_1 v0_1n v0_1n), (.int .i64 v0_2), (.slice v0_3 v0_3n v0_3n)], 70⟩])).bind fun h1 =>
(((cell h1 (List.length h) 0).bind getS).bind fun l3 =>
(run (Et base) 80 [(.slice l3.1 l3.2 l3.2)] h1).bind fun r4 =>
((some r4.1).bind getB).bind fun b5 =>
(if (!b5) = true then
some (.inl ([some (.pointer (some ⟨(List.length h), 0, none⟩)), some (.bool true)], r4.2))
else
((cell r4.2 (List.length h) 1).bind getS).bind fun l6 =>
(if (decide (((l6.2 : Nat) : Int) > (20 : Int))) = true then
some (.inl ([some (.pointer (some ⟨(List.length h), 0, none⟩)), some (.bool true)], r4.2))
else
((cell r4.2 (List.length h) 2).bind (getI .i64)).bind fun n7 =>
(run (Et base) 67 [(.int .i64 n7), (.int .i64 (1 : Int)), (.int .i64 (90000 : Int))] r4.2).bind fun r8 =>
((some r8.1).bind getB).bind fun b9 =>
(if (!b9) = true then
some (.inl ([some (.pointer (some ⟨(List.length h), 0, none⟩)), some (.bool true)], r8.2))
else
((cell r8.2 (List.length h) 3).bind getS).bind fun l10 =>
(run (Et base) 101 [(.slice l10.1 l10.2 l10.2)] r8.2).bind fun r11 =>
((some r11.1).bind getB).bind fun b12 =>
some (.inl ([some (.pointer (some ⟨(List.length h), 0, none⟩)), some (.bool (!b12))], r11.2)))))).bind fun j2 => joinK j2 fun j2 =>
((sget j2.1 0).bind getA).bind fun d13 =>
((sget (j2.1.tail) 0).bind getB).bind fun b14 =>
(if b14 = true then
some ((.bool false), j2.2)
else
((cell j2.2 d13.block (d13.off + 1)).bind getS).bind fun l15 =>
(loopL (B43_0 base) [some (.pointer (some d13)), some (.slice l15.1 l15.2 l15.2), some (.int .i64 ((l15.2 : Nat) : Int)), some (.int .i64 (0 : Int))] j2.2).bind fun q16 =>
(if q16.1 = 1 then
((sget q16.2.1 0).bind getB).bind fun b17 =>
some ((.bool b17), q16.2.2)
else
(if q16.1 = 2 then
some ((.bool true), q16.2.2)
else
none))) : Option (Value × AH)) := by kernel_rfl
theorem r43 {base : Nat} {v0_0 : Option Addr} {v0_0n : Nat} {v0_1 : Option Addr} {v0_1n : Nat} {v0_2 : Int} {v0_3 : Option Addr} {v0_3n : Nat} {h : AH} {r : Value × AH} (hx :
((some (h ++ [some ⟨[(.slice v0_0 v0_0n v0_0n), (.slice v0_1 v0_1n v0_1n), (.int .i64 v0_2), (.slice v0_3 v0_3n v0_3n)], 70⟩])).bind fun h1 =>
(((cell h1 (List.length h) 0).bind getS).bind fun l3 =>
(run (Et base) 80 [(.slice l3.1 l3.2 l3.2)] h1).bind fun r4 =>
((some r4.1).bind getB).bind fun b5 =>
(if (!b5) = true then
some (.inl ([some (.pointer (some ⟨(List.length h), 0, none⟩)), some (.bool true)], r4.2))
else
((cell r4.2 (List.length h) 1).bind getS).bind fun l6 =>
(if (decide (((l6.2 : Nat) : Int) > (20 : Int))) = true then
some (.inl ([some (.pointer (some ⟨(List.length h), 0, none⟩)), some (.bool true)], r4.2))
else
((cell r4.2 (List.length h) 2).bind (getI .i64)).bind fun n7 =>
(run (Et base) 67 [(.int .i64 n7), (.int .i64 (1 : Int)), (.int .i64 (90000 : Int))] r4.2).bind fun r8 =>
((some r8.1).bind getB).bind fun b9 =>
(if (!b9) = true then
some (.inl ([some (.pointer (some ⟨(List.length h), 0, none⟩)), some (.bool true)], r8.2))
else
((cell r8.2 (List.length h) 3).bind getS).bind fun l10 =>
(run (Et base) 101 [(.slice l10.1 l10.2 l10.2)] r8.2).bind fun r11 =>
((some r11.1).bind getB).bind fun b12 =>
some (.inl ([some (.pointer (some ⟨(List.length h), 0, none⟩)), some (.bool (!b12))], r11.2)))))).bind fun j2 => joinK j2 fun j2 =>
((sget j2.1 0).bind getA).bind fun d13 =>
((sget (j2.1.tail) 0).bind getB).bind fun b14 =>
(if b14 = true then
some ((.bool false), j2.2)
else
((cell j2.2 d13.block (d13.off + 1)).bind getS).bind fun l15 =>
(loopL (B43_0 base) [some (.pointer (some d13)), some (.slice l15.1 l15.2 l15.2), some (.int .i64 ((l15.2 : Nat) : Int)), some (.int .i64 (0 : Int))] j2.2).bind fun q16 =>
(if q16.1 = 1 then
((sget q16.2.1 0).bind getB).bind fun b17 =>
some ((.bool b17), q16.2.2)
else
(if q16.1 = 2 then
some ((.bool true), q16.2.2)
else
none)))) = some r) : run (Et base) 43 [(.agg #[(.slice v0_0 v0_0n v0_0n), (.slice v0_1 v0_1n v0_1n), (.int .i64 v0_2), (.slice v0_3 v0_3n v0_3n)])] h = some r := run_i Try.func43 (by kernel_rfl) ((f43_eq base v0_0 v0_0n v0_1 v0_1n v0_2 v0_3 v0_3n h).trans hx)
/-! laws.eqPlain (gates 0) -/
theorem f44_eq (base : Nat) (v0_0 : Option Addr) (v0_0n : Nat) (v0_1 : Option Addr) (v0_1n : Nat) (v0_2 : Int) (v0_3 : Option Addr) (v0_3n : Nat) (v1_0 : Option Addr) (v1_0n : Nat) (v1_1 : Option Addr) (v1_1n : Nat) (v1_2 : Int) (v1_3 : Option Addr) (v1_3n : Nat) (h : AH) : exFun (Et base) (run (Et base)) loopL a44 Try.f44 [(.agg #[(.slice v0_0 v0_0n v0_0n), (.slice v0_1 v0_1n v0_1n), (.int .i64 v0_2), (.slice v0_3 v0_3n v0_3n)]), (.agg #[(.slice v1_0 v1_0n v1_0n), (.slice v1_1 v1_1n v1_1n), (.int .i64 v1_2), (.slice v1_3 v1_3n v1_3n)])] h =
((some (h ++ [some ⟨[(.slice v0_0 v0_0n v0_0n), (.slice v0_1 v0_1n v0_1n), (.int .i64 v0_2), (.slice v0_3 v0_3n v0_3n)], 70⟩])).bind fun h1 =>
(some (h1 ++ [some ⟨[(.slice v1_0 v1_0n v1_0n), (.slice v1_1 v1_1n v1_1n), (.int .i64 v1_2), (.slice v1_3 v1_3n v1_3n)], 70⟩])).bind fun h2 =>
((cell h2 (List.length h) 0).bind getS).bind fun l3 =>
((cell h2 (List.length h1) 0).bind getS).bind fun l4 =>
(run (Et base) 25 [(.slice l3.1 l3.2 l3.2), (.slice l4.1 l4.2 l4.2)] h2).bind fun r5 =>
((some r5.1).bind getB).bind fun b6 =>
(if (!b6) = true then
some ((.bool false), r5.2)
else
((cell r5.2 (List.length h) 1).bind getS).bind fun l7 =>
((cell r5.2 (List.length h1) 1).bind getS).bind fun l8 =>
(run (Et base) 104 [(.slice l7.1 l7.2 l7.2), (.slice l8.1 l8.2 l8.2)] r5.2).bind fun r9 =>
((some r9.1).bind getB).bind fun b10 =>
(if (!b10) = true then
some ((.bool false), r9.2)
else
((cell r9.2 (List.length h) 2).bind (getI .i64)).bind fun n11 =>
((cell r9.2 (List.length h1) 2).bind (getI .i64)).bind fun n12 =>
(if (n11 != n12) = true then
some ((.bool false), r9.2)
else
((cell r9.2 (List.length h) 3).bind getS).bind fun l13 =>
((cell r9.2 (List.length h1) 3).bind getS).bind fun l14 =>
(run (Et base) 105 [(.slice l13.1 l13.2 l13.2), (.slice l14.1 l14.2 l14.2)] r9.2).bind fun r15 =>
((some r15.1).bind getB).bind fun b16 =>
(if (!b16) = true then
some ((.bool false), r15.2)
else
some ((.bool true), r15.2))))) : Option (Value × AH)) := by kernel_rfl
theorem r44 {base : Nat} {v0_0 : Option Addr} {v0_0n : Nat} {v0_1 : Option Addr} {v0_1n : Nat} {v0_2 : Int} {v0_3 : Option Addr} {v0_3n : Nat} {v1_0 : Option Addr} {v1_0n : Nat} {v1_1 : Option Addr} {v1_1n : Nat} {v1_2 : Int} {v1_3 : Option Addr} {v1_3n : Nat} {h : AH} {r : Value × AH} (hx :
((some (h ++ [some ⟨[(.slice v0_0 v0_0n v0_0n), (.slice v0_1 v0_1n v0_1n), (.int .i64 v0_2), (.slice v0_3 v0_3n v0_3n)], 70⟩])).bind fun h1 =>
(some (h1 ++ [some ⟨[(.slice v1_0 v1_0n v1_0n), (.slice v1_1 v1_1n v1_1n), (.int .i64 v1_2), (.slice v1_3 v1_3n v1_3n)], 70⟩])).bind fun h2 =>
((cell h2 (List.length h) 0).bind getS).bind fun l3 =>
((cell h2 (List.length h1) 0).bind getS).bind fun l4 =>
(run (Et base) 25 [(.slice l3.1 l3.2 l3.2), (.slice l4.1 l4.2 l4.2)] h2).bind fun r5 =>
((some r5.1).bind getB).bind fun b6 =>
(if (!b6) = true then
some ((.bool false), r5.2)
else
((cell r5.2 (List.length h) 1).bind getS).bind fun l7 =>
((cell r5.2 (List.length h1) 1).bind getS).bind fun l8 =>
(run (Et base) 104 [(.slice l7.1 l7.2 l7.2), (.slice l8.1 l8.2 l8.2)] r5.2).bind fun r9 =>
((some r9.1).bind getB).bind fun b10 =>
(if (!b10) = true then
some ((.bool false), r9.2)
else
((cell r9.2 (List.length h) 2).bind (getI .i64)).bind fun n11 =>
((cell r9.2 (List.length h1) 2).bind (getI .i64)).bind fun n12 =>
(if (n11 != n12) = true then
some ((.bool false), r9.2)
else
((cell r9.2 (List.length h) 3).bind getS).bind fun l13 =>
((cell r9.2 (List.length h1) 3).bind getS).bind fun l14 =>
(run (Et base) 105 [(.slice l13.1 l13.2 l13.2), (.slice l14.1 l14.2 l14.2)] r9.2).bind fun r15 =>
((some r15.1).bind getB).bind fun b16 =>
(if (!b16) = true then
some ((.bool false), r15.2)
else
some ((.bool true), r15.2)))))) = some r) : run (Et base) 44 [(.agg #[(.slice v0_0 v0_0n v0_0n), (.slice v0_1 v0_1n v0_1n), (.int .i64 v0_2), (.slice v0_3 v0_3n v0_3n)]), (.agg #[(.slice v1_0 v1_0n v1_0n), (.slice v1_1 v1_1n v1_1n), (.int .i64 v1_2), (.slice v1_3 v1_3n v1_3n)])] h = some r := run_i Try.func44 (by kernel_rfl) ((f44_eq base v0_0 v0_0n v0_1 v0_1n v0_2 v0_3 v0_3n v1_0 v1_0n v1_1 v1_1n v1_2 v1_3 v1_3n h).trans hx)
/-! laws.szTermS (gates 0) -/
noncomputable def B61_0 (base : Nat) : Body := fun l h => lay s61_0 l fun s => exCode (Et base) (run (Et base)) loopL a61_0 (subC [1, 1, 1, 0, 1, 0, 0] (bodyC Try.f61)) s h (keepK s61_0 e61_0)
theorem B61_0_eq (base : Nat) (v0 : Option Addr) (v0n : Nat) (v1 : Int) (v5 : Int) (h : AH) : B61_0 base [some (.slice v0 v0n v0n), some (.int .i64 v1), some (.int .i64 v5)] h =
((if (decide (v5 < ((v0n : Nat) : Int))) = true then
(if 0 ≤ v5 ∧ v5 < ((v0n : Nat) : Int) then
((v0 : Option Addr)).bind fun a1 =>
((cell h a1.block (a1.off + Int.toNat v5 * 4)).bind (getI .i64)).bind fun n2 =>
((cell h a1.block ((a1.off + Int.toNat v5 * 4) + 1)).bind (getI .i64)).bind fun n3 =>
((cell h a1.block (((a1.off + Int.toNat v5 * 4) + 1) + 1)).bind getStr).bind fun s4 =>
((cell h a1.block ((((a1.off + Int.toNat v5 * 4) + 1) + 1) + 1)).bind getS).bind fun l5 =>
(run (Et base) 11 [(.agg #[(.int .i64 n2), (.int .i64 n3), (.string s4), (.slice l5.1 l5.2 l5.2)]), (.int .i64 v1)] h).bind fun r6 =>
((some r6.1).bind (getI .i64)).bind fun n7 =>
(if (decide (n7 < (0 : Int))) = true then
some (1, [some (.int .i64 (-1 : Int))], r6.2)
else
some (0, [some (.slice v0 v0n v0n), some (.int .i64 n7), some (.int .i64 (IntKind.wrap .i64 (v5 + (1 : Int))))], r6.2))
else none)
else
some (2, [some (.int .i64 v1)], h)) : Option (Nat × Slots × AH)) := by kernel_rfl
theorem f61_eq (base : Nat) (v0 : Option Addr) (v0n : Nat) (v1 : Int) (h : AH) : exFun (Et base) (run (Et base)) loopL a61 Try.f61 [(.slice v0 v0n v0n), (.int .i64 v1)] h =
((if (decide ((IntKind.wrap .i64 (v1 - ((v0n : Nat) : Int))) < (0 : Int))) = true then
some ((.int .i64 (-1 : Int)), h)
else
(loopL (B61_0 base) [some (.slice v0 v0n v0n), some (.int .i64 (IntKind.wrap .i64 (v1 - ((v0n : Nat) : Int)))), some (.int .i64 (0 : Int))] h).bind fun q1 =>
(if q1.1 = 1 then
((sget q1.2.1 0).bind (getI .i64)).bind fun n2 =>
some ((.int .i64 n2), q1.2.2)
else
(if q1.1 = 2 then
((sget q1.2.1 0).bind (getI .i64)).bind fun n3 =>
some ((.int .i64 n3), q1.2.2)
else
none))) : Option (Value × AH)) := by kernel_rfl
theorem r61 {base : Nat} {v0 : Option Addr} {v0n : Nat} {v1 : Int} {h : AH} {r : Value × AH} (hx :
((if (decide ((IntKind.wrap .i64 (v1 - ((v0n : Nat) : Int))) < (0 : Int))) = true then
some ((.int .i64 (-1 : Int)), h)
else
(loopL (B61_0 base) [some (.slice v0 v0n v0n), some (.int .i64 (IntKind.wrap .i64 (v1 - ((v0n : Nat) : Int)))), some (.int .i64 (0 : Int))] h).bind fun q1 =>
(if q1.1 = 1 then
((sget q1.2.1 0).bind (getI .i64)).bind fun n2 =>
some ((.int .i64 n2), q1.2.2)
else
(if q1.1 = 2 then
((sget q1.2.1 0).bind (getI .i64)).bind fun n3 =>
some ((.int .i64 n3), q1.2.2)
else
none)))) = some r) : run (Et base) 61 [(.slice v0 v0n v0n), (.int .i64 v1)] h = some r := run_i Try.func61 (by kernel_rfl) ((f61_eq base v0 v0n v1 h).trans hx)
/-! spec.l1In (gates 0) -/
theorem f62_eq (base : Nat) (v0 : Int) (v1 : Int) (v2 : Int) (h : AH) : exFun (Et base) (run (Et base)) loopL a62 Try.f62 [(.int .i64 v0), (.int .i64 v1), (.int .i64 v2)] h =
((if (decide (v0 ≥ v1)) = true then
some ((.bool (decide (v0 ≤ v2))), h)
else
some ((.bool false), h)) : Option (Value × AH)) := by kernel_rfl
theorem r62 {base : Nat} {v0 : Int} {v1 : Int} {v2 : Int} {h : AH} {r : Value × AH} (hx :
((if (decide (v0 ≥ v1)) = true then
some ((.bool (decide (v0 ≤ v2))), h)
else
some ((.bool false), h))) = some r) : run (Et base) 62 [(.int .i64 v0), (.int .i64 v1), (.int .i64 v2)] h = some r := run_i Try.func62 (by kernel_rfl) ((f62_eq base v0 v1 v2 h).trans hx)
end Go.Proofs.Ytnmjhhipbfngkaa.Am
