/- What each of these functions comes to on the abstract machine, one equation a function and one a loop.
Conditions: none. -/
import Derived.Test.YtgigdaijailfkaaTb
set_option linter.unusedVariables false
namespace Go.Proofs.Ytgigdaijailfkaa.Am
open Go Go.RowKit
/-! laws.FnExactPutNum (gates 0) -/
theorem f4_eq (base : Nat) (v0 : Option Addr) (v0n : Nat) (v1 : Int) (h : AH) : exFun (Et base) (run (Et base)) loopL a4 Try.f4 [(.slice v0 v0n v0n), (.int .i64 v1)] h =
((if (decide (((v0n : Nat) : Int) > (1048576 : Int))) = true then
some ((.bool true), h)
else
(run (Et base) 16 [(.slice v0 v0n v0n)] h).bind fun r1 =>
((some r1.1).bind getS).bind fun l2 =>
(run (Et base) 19 [(.slice l2.1 l2.2 l2.2), (.int .i64 v1)] r1.2).bind fun r3 =>
((some r3.1).bind getS).bind fun l4 =>
(run (Et base) 16 [(.slice v0 v0n v0n)] r3.2).bind fun r5 =>
((some r5.1).bind getS).bind fun l6 =>
(run (Et base) 20 [(.slice l6.1 l6.2 l6.2), (.int .i64 v1)] r5.2).bind fun r7 =>
((some r7.1).bind getS).bind fun l8 =>
(run (Et base) 18 [(.slice l8.1 l8.2 l8.2), (.slice l4.1 l4.2 l4.2)] r7.2).bind fun r9 =>
((some r9.1).bind getB).bind fun b10 =>
(if (!b10) = true then
some ((.bool false), r9.2)
else
(run (Et base) 16 [(.slice v0 v0n v0n)] r9.2).bind fun r11 =>
((some r11.1).bind getS).bind fun l12 =>
(run (Et base) 18 [(.slice l6.1 l6.2 l6.2), (.slice l12.1 l12.2 l12.2)] r11.2).bind fun r13 =>
((some r13.1).bind getB).bind fun b14 =>
(if (!b14) = true then
some ((.bool false), r13.2)
else
(run (Et base) 21 [(.slice l6.1 l6.2 l6.2), (.int .i64 (1 : Int))] r13.2).bind fun r15 =>
((some r15.1).bind (getI .i64)).bind fun n16 =>
((if (decide (n16 < (0 : Int))) = true then
some (.inl ([some (.slice v0 v0n v0n), some (.int .i64 v1), some (.slice l4.1 l4.2 l4.2), some (.slice l8.1 l8.2 l8.2), some (.bool true)], r15.2))
else
(run (Et base) 18 [(.slice l8.1 l8.2 l8.2), (.slice l4.1 l4.2 l4.2)] r15.2).bind fun r18 =>
((some r18.1).bind getB).bind fun b19 =>
some (.inl ([some (.slice v0 v0n v0n), some (.int .i64 v1), some (.slice l4.1 l4.2 l4.2), some (.slice l8.1 l8.2 l8.2), some (.bool (!b19))], r18.2)))).bind fun j17 => joinK j17 fun j17 =>
((sget j17.1 0).bind getS).bind fun l20 =>
((sget (j17.1.tail) 0).bind (getI .i64)).bind fun n21 =>
((sget (j17.1.tail.tail) 0).bind getS).bind fun l22 =>
((sget (j17.1.tail.tail.tail) 0).bind getS).bind fun l23 =>
((sget (j17.1.tail.tail.tail.tail) 0).bind getB).bind fun b24 =>
(if b24 = true then
some ((.bool false), j17.2)
else
(run (Et base) 21 [(.slice l23.1 l23.2 l23.2), (.int .i64 (1 : Int))] j17.2).bind fun r25 =>
((some r25.1).bind (getI .i64)).bind fun n26 =>
(run (Et base) 22 [(.slice l23.1 l23.2 l23.2), (.int .i64 (1 : Int))] r25.2).bind fun r27 =>
((some r27.1).bind (getI .i64)).bind fun n28 =>
(if (decide (n28 < (0 : Int))) = true then
some ((.bool false), r27.2)
else
(if (n28 != n26) = true then
some ((.bool false), r27.2)
else
(run (Et base) 16 [(.slice l20.1 l20.2 l20.2)] r27.2).bind fun r29 =>
((some r29.1).bind getS).bind fun l30 =>
(run (Et base) 20 [(.slice l30.1 l30.2 l30.2), (.int .i64 n21)] r29.2).bind fun r31 =>
((some r31.1).bind getS).bind fun l32 =>
(run (Et base) 18 [(.slice l32.1 l32.2 l32.2), (.slice l22.1 l22.2 l22.2)] r31.2).bind fun r33 =>
((some r33.1).bind getB).bind fun b34 =>
(if (!b34) = true then
some ((.bool false), r33.2)
else
(run (Et base) 22 [(.slice l23.1 l23.2 l23.2), (.int .i64 (1 : Int))] r33.2).bind fun r35 =>
((some r35.1).bind (getI .i64)).bind fun n36 =>
(if (decide (n36 < (0 : Int))) = true then
some ((.bool false), r35.2)
else
(if (n36 != n26) = true then
some ((.bool false), r35.2)
else
some ((.bool true), r35.2)))))))))) : Option (Value × AH)) := by kernel_rfl
theorem r4 {base : Nat} {v0 : Option Addr} {v0n : Nat} {v1 : Int} {h : AH} {r : Value × AH} (hx :
((if (decide (((v0n : Nat) : Int) > (1048576 : Int))) = true then
some ((.bool true), h)
else
(run (Et base) 16 [(.slice v0 v0n v0n)] h).bind fun r1 =>
((some r1.1).bind getS).bind fun l2 =>
(run (Et base) 19 [(.slice l2.1 l2.2 l2.2), (.int .i64 v1)] r1.2).bind fun r3 =>
((some r3.1).bind getS).bind fun l4 =>
(run (Et base) 16 [(.slice v0 v0n v0n)] r3.2).bind fun r5 =>
((some r5.1).bind getS).bind fun l6 =>
(run (Et base) 20 [(.slice l6.1 l6.2 l6.2), (.int .i64 v1)] r5.2).bind fun r7 =>
((some r7.1).bind getS).bind fun l8 =>
(run (Et base) 18 [(.slice l8.1 l8.2 l8.2), (.slice l4.1 l4.2 l4.2)] r7.2).bind fun r9 =>
((some r9.1).bind getB).bind fun b10 =>
(if (!b10) = true then
some ((.bool false), r9.2)
else
(run (Et base) 16 [(.slice v0 v0n v0n)] r9.2).bind fun r11 =>
((some r11.1).bind getS).bind fun l12 =>
(run (Et base) 18 [(.slice l6.1 l6.2 l6.2), (.slice l12.1 l12.2 l12.2)] r11.2).bind fun r13 =>
((some r13.1).bind getB).bind fun b14 =>
(if (!b14) = true then
some ((.bool false), r13.2)
else
(run (Et base) 21 [(.slice l6.1 l6.2 l6.2), (.int .i64 (1 : Int))] r13.2).bind fun r15 =>
((some r15.1).bind (getI .i64)).bind fun n16 =>
((if (decide (n16 < (0 : Int))) = true then
some (.inl ([some (.slice v0 v0n v0n), some (.int .i64 v1), some (.slice l4.1 l4.2 l4.2), some (.slice l8.1 l8.2 l8.2), some (.bool true)], r15.2))
else
(run (Et base) 18 [(.slice l8.1 l8.2 l8.2), (.slice l4.1 l4.2 l4.2)] r15.2).bind fun r18 =>
((some r18.1).bind getB).bind fun b19 =>
some (.inl ([some (.slice v0 v0n v0n), some (.int .i64 v1), some (.slice l4.1 l4.2 l4.2), some (.slice l8.1 l8.2 l8.2), some (.bool (!b19))], r18.2)))).bind fun j17 => joinK j17 fun j17 =>
((sget j17.1 0).bind getS).bind fun l20 =>
((sget (j17.1.tail) 0).bind (getI .i64)).bind fun n21 =>
((sget (j17.1.tail.tail) 0).bind getS).bind fun l22 =>
((sget (j17.1.tail.tail.tail) 0).bind getS).bind fun l23 =>
((sget (j17.1.tail.tail.tail.tail) 0).bind getB).bind fun b24 =>
(if b24 = true then
some ((.bool false), j17.2)
else
(run (Et base) 21 [(.slice l23.1 l23.2 l23.2), (.int .i64 (1 : Int))] j17.2).bind fun r25 =>
((some r25.1).bind (getI .i64)).bind fun n26 =>
(run (Et base) 22 [(.slice l23.1 l23.2 l23.2), (.int .i64 (1 : Int))] r25.2).bind fun r27 =>
((some r27.1).bind (getI .i64)).bind fun n28 =>
(if (decide (n28 < (0 : Int))) = true then
some ((.bool false), r27.2)
else
(if (n28 != n26) = true then
some ((.bool false), r27.2)
else
(run (Et base) 16 [(.slice l20.1 l20.2 l20.2)] r27.2).bind fun r29 =>
((some r29.1).bind getS).bind fun l30 =>
(run (Et base) 20 [(.slice l30.1 l30.2 l30.2), (.int .i64 n21)] r29.2).bind fun r31 =>
((some r31.1).bind getS).bind fun l32 =>
(run (Et base) 18 [(.slice l32.1 l32.2 l32.2), (.slice l22.1 l22.2 l22.2)] r31.2).bind fun r33 =>
((some r33.1).bind getB).bind fun b34 =>
(if (!b34) = true then
some ((.bool false), r33.2)
else
(run (Et base) 22 [(.slice l23.1 l23.2 l23.2), (.int .i64 (1 : Int))] r33.2).bind fun r35 =>
((some r35.1).bind (getI .i64)).bind fun n36 =>
(if (decide (n36 < (0 : Int))) = true then
some ((.bool false), r35.2)
else
(if (n36 != n26) = true then
some ((.bool false), r35.2)
else
some ((.bool true), r35.2))))))))))) = some r) : run (Et base) 4 [(.slice v0 v0n v0n), (.int .i64 v1)] h = some r := run_i Try.func4 (by kernel_rfl) ((f4_eq base v0 v0n v1 h).trans hx)
/-! laws.FnExactRootsOf (gates 1) -/
theorem f5_eq (base : Nat) (v0_0 : Int) (v0_1 : Int) (v0_2 : Option Addr) (v0_2n : Nat) (v0_3 : Option Addr) (v0_3n : Nat) (v0_4 : Option Addr) (v0_4n : Nat) (v0_5 : Int) (h : AH) : exFun (Et base) (run (Et base)) loopL a5 Try.f5 [(.agg #[(.int .i64 v0_0), (.int .i64 v0_1), (.slice v0_2 v0_2n v0_2n), (.slice v0_3 v0_3n v0_3n), (.slice v0_4 v0_4n v0_4n), (.int .i64 v0_5)])] h =
((some (h ++ [some ⟨[(.int .i64 v0_0), (.int .i64 v0_1), (.slice v0_2 v0_2n v0_2n), (.slice v0_3 v0_3n v0_3n), (.slice v0_4 v0_4n v0_4n), (.int .i64 v0_5)], 32⟩])).bind fun h1 =>
((cell h1 (List.length h) 0).bind (getI .i64)).bind fun n2 =>
((cell h1 (List.length h) 1).bind (getI .i64)).bind fun n3 =>
((cell h1 (List.length h) 2).bind getS).bind fun l4 =>
((cell h1 (List.length h) 3).bind getS).bind fun l5 =>
((cell h1 (List.length h) 4).bind getS).bind fun l6 =>
((cell h1 (List.length h) 5).bind (getI .i64)).bind fun n7 =>
(run (Et base) 23 [(.agg #[(.int .i64 n2), (.int .i64 n3), (.slice l4.1 l4.2 l4.2), (.slice l5.1 l5.2 l5.2), (.slice l6.1 l6.2 l6.2), (.int .i64 n7)]), (.int .i64 (1048576 : Int))] h1).bind fun r8 =>
((some r8.1).bind (getI .i64)).bind fun n9 =>
(if (decide (n9 < (0 : Int))) = true then
some ((.bool true), r8.2)
else
((cell r8.2 (List.length h) 0).bind (getI .i64)).bind fun n10 =>
((cell r8.2 (List.length h) 1).bind (getI .i64)).bind fun n11 =>
((cell r8.2 (List.length h) 2).bind getS).bind fun l12 =>
((cell r8.2 (List.length h) 3).bind getS).bind fun l13 =>
((cell r8.2 (List.length h) 4).bind getS).bind fun l14 =>
((cell r8.2 (List.length h) 5).bind (getI .i64)).bind fun n15 =>
(run (Et base) 25 [(.agg #[(.int .i64 n10), (.int .i64 n11), (.slice l12.1 l12.2 l12.2), (.slice l13.1 l13.2 l13.2), (.slice l14.1 l14.2 l14.2), (.int .i64 n15)])] r8.2).bind fun r16 =>
((some r16.1).bind (getAgg 6)).bind fun l17 =>
((l17[0]?).bind (getI .i64)).bind fun n18 =>
((l17[1]?).bind (getI .i64)).bind fun n19 =>
((l17[2]?).bind getS).bind fun l20 =>
((l17[3]?).bind getS).bind fun l21 =>
((l17[4]?).bind getS).bind fun l22 =>
((l17[5]?).bind (getI .i64)).bind fun n23 =>
(run (Et base) 24 [(.agg #[(.int .i64 n18), (.int .i64 n19), (.slice l20.1 l20.2 l20.2), (.slice l21.1 l21.2 l21.2), (.slice l22.1 l22.2 l22.2), (.int .i64 n23)])] r16.2).bind fun r24 =>
((some r24.1).bind getS).bind fun l25 =>
((cell r24.2 (List.length h) 0).bind (getI .i64)).bind fun n26 =>
((cell r24.2 (List.length h) 1).bind (getI .i64)).bind fun n27 =>
((cell r24.2 (List.length h) 2).bind getS).bind fun l28 =>
((cell r24.2 (List.length h) 3).bind getS).bind fun l29 =>
((cell r24.2 (List.length h) 4).bind getS).bind fun l30 =>
((cell r24.2 (List.length h) 5).bind (getI .i64)).bind fun n31 =>
(run (Et base) 25 [(.agg #[(.int .i64 n26), (.int .i64 n27), (.slice l28.1 l28.2 l28.2), (.slice l29.1 l29.2 l29.2), (.slice l30.1 l30.2 l30.2), (.int .i64 n31)])] r24.2).bind fun r32 =>
((some r32.1).bind (getAgg 6)).bind fun l33 =>
((l33[0]?).bind (getI .i64)).bind fun n34 =>
((l33[1]?).bind (getI .i64)).bind fun n35 =>
((l33[2]?).bind getS).bind fun l36 =>
((l33[3]?).bind getS).bind fun l37 =>
((l33[4]?).bind getS).bind fun l38 =>
((l33[5]?).bind (getI .i64)).bind fun n39 =>
(some (r32.2 ++ [some ⟨[(.int .i64 0), (.int .i64 0), (.slice none 0 0), (.slice none 0 0), (.slice none 0 0), (.int .i64 0)], 35⟩])).bind fun h40 =>
(wr base h40 (List.length r32.2) 0 [(.int .i64 n34), (.int .i64 n35), (.slice l36.1 l36.2 l36.2), (.slice l37.1 l37.2 l37.2), (.slice l38.1 l38.2 l38.2), (.int .i64 n39)]).bind fun h41 =>
((cell h41 (List.length r32.2) 0).bind (getI .i64)).bind fun n42 =>
((cell h41 (List.length r32.2) 1).bind (getI .i64)).bind fun n43 =>
((cell h41 (List.length r32.2) 2).bind getS).bind fun l44 =>
((cell h41 (List.length r32.2) 3).bind getS).bind fun l45 =>
((cell h41 (List.length r32.2) 4).bind getS).bind fun l46 =>
((cell h41 (List.length r32.2) 5).bind (getI .i64)).bind fun n47 =>
(run (Et base) 26 [(.agg #[(.int .i64 n42), (.int .i64 n43), (.slice l44.1 l44.2 l44.2), (.slice l45.1 l45.2 l45.2), (.slice l46.1 l46.2 l46.2), (.int .i64 n47)])] h41).bind fun r48 =>
((some r48.1).bind getS).bind fun l49 =>
(run (Et base) 27 [(.slice l49.1 l49.2 l49.2), (.slice l25.1 l25.2 l25.2)] r48.2).bind fun r50 =>
((some r50.1).bind getB).bind fun b51 =>
(if (!b51) = true then
some ((.bool false), r50.2)
else
((cell r50.2 (List.length r32.2) 0).bind (getI .i64)).bind fun n52 =>
((cell r50.2 (List.length r32.2) 1).bind (getI .i64)).bind fun n53 =>
((cell r50.2 (List.length r32.2) 2).bind getS).bind fun l54 =>
((cell r50.2 (List.length r32.2) 3).bind getS).bind fun l55 =>
((cell r50.2 (List.length r32.2) 4).bind getS).bind fun l56 =>
((cell r50.2 (List.length r32.2) 5).bind (getI .i64)).bind fun n57 =>
((cell r50.2 (List.length h) 0).bind (getI .i64)).bind fun n58 =>
((cell r50.2 (List.length h) 1).bind (getI .i64)).bind fun n59 =>
((cell r50.2 (List.length h) 2).bind getS).bind fun l60 =>
((cell r50.2 (List.length h) 3).bind getS).bind fun l61 =>
((cell r50.2 (List.length h) 4).bind getS).bind fun l62 =>
((cell r50.2 (List.length h) 5).bind (getI .i64)).bind fun n63 =>
(run (Et base) 25 [(.agg #[(.int .i64 n58), (.int .i64 n59), (.slice l60.1 l60.2 l60.2), (.slice l61.1 l61.2 l61.2), (.slice l62.1 l62.2 l62.2), (.int .i64 n63)])] r50.2).bind fun r64 =>
((some r64.1).bind (getAgg 6)).bind fun l65 =>
((l65[0]?).bind (getI .i64)).bind fun n66 =>
((l65[1]?).bind (getI .i64)).bind fun n67 =>
((l65[2]?).bind getS).bind fun l68 =>
((l65[3]?).bind getS).bind fun l69 =>
((l65[4]?).bind getS).bind fun l70 =>
((l65[5]?).bind (getI .i64)).bind fun n71 =>
(gate (sameA r50.2 r64.2 (some ⟨(List.length r32.2), 0, none⟩) 6)
((run (Et base) 28 [(.agg #[(.int .i64 n52), (.int .i64 n53), (.slice l54.1 l54.2 l54.2), (.slice l55.1 l55.2 l55.2), (.slice l56.1 l56.2 l56.2), (.int .i64 n57)]), (.agg #[(.int .i64 n66), (.int .i64 n67), (.slice l68.1 l68.2 l68.2), (.slice l69.1 l69.2 l69.2), (.slice l70.1 l70.2 l70.2), (.int .i64 n71)])] r64.2).bind fun r72 =>
((some r72.1).bind getB).bind fun b73 =>
(if (!b73) = true then
some ((.bool false), r72.2)
else
((cell r72.2 (List.length r32.2) 0).bind (getI .i64)).bind fun n74 =>
((cell r72.2 (List.length r32.2) 1).bind (getI .i64)).bind fun n75 =>
((cell r72.2 (List.length r32.2) 2).bind getS).bind fun l76 =>
((cell r72.2 (List.length r32.2) 3).bind getS).bind fun l77 =>
((cell r72.2 (List.length r32.2) 4).bind getS).bind fun l78 =>
((cell r72.2 (List.length r32.2) 5).bind (getI .i64)).bind fun n79 =>
(run (Et base) 29 [(.agg #[(.int .i64 n74), (.int .i64 n75), (.slice l76.1 l76.2 l76.2), (.slice l77.1 l77.2 l77.2), (.slice l78.1 l78.2 l78.2), (.int .i64 n79)]), (.int .i64 (1 : Int))] r72.2).bind fun r80 =>
((some r80.1).bind (getI .i64)).bind fun n81 =>
((if (decide (n81 < (0 : Int))) = true then
some (.inl ([some (.pointer (some ⟨(List.length h), 0, none⟩)), some (.slice l25.1 l25.2 l25.2), some (.slice l49.1 l49.2 l49.2), some (.bool true)], r80.2))
else
(run (Et base) 27 [(.slice l49.1 l49.2 l49.2), (.slice l25.1 l25.2 l25.2)] r80.2).bind fun r83 =>
((some r83.1).bind getB).bind fun b84 =>
some (.inl ([some (.pointer (some ⟨(List.length h), 0, none⟩)), some (.slice l25.1 l25.2 l25.2), some (.slice l49.1 l49.2 l49.2), some (.bool (!b84))], r83.2)))).bind fun j82 => joinK j82 fun j82 =>
((sget j82.1 0).bind getA).bind fun d85 =>
((sget (j82.1.tail) 0).bind getS).bind fun l86 =>
((sget (j82.1.tail.tail) 0).bind getS).bind fun l87 =>
((sget (j82.1.tail.tail.tail) 0).bind getB).bind fun b88 =>
(if b88 = true then
some ((.bool false), j82.2)
else
(run (Et base) 30 [(.slice l87.1 l87.2 l87.2), (.int .i64 (1 : Int))] j82.2).bind fun r89 =>
((some r89.1).bind (getI .i64)).bind fun n90 =>
(run (Et base) 31 [(.slice l87.1 l87.2 l87.2), (.int .i64 (1 : Int))] r89.2).bind fun r91 =>
((some r91.1).bind (getI .i64)).bind fun n92 =>
(if (decide (n92 < (0 : Int))) = true then
some ((.bool false), r91.2)
else
(if (n92 != n90) = true then
some ((.bool false), r91.2)
else
((cell r91.2 d85.block d85.off).bind (getI .i64)).bind fun n93 =>
((cell r91.2 d85.block (d85.off + 1)).bind (getI .i64)).bind fun n94 =>
((cell r91.2 d85.block ((d85.off + 1) + 1)).bind getS).bind fun l95 =>
((cell r91.2 d85.block (((d85.off + 1) + 1) + 1)).bind getS).bind fun l96 =>
((cell r91.2 d85.block ((((d85.off + 1) + 1) + 1) + 1)).bind getS).bind fun l97 =>
((cell r91.2 d85.block (((((d85.off + 1) + 1) + 1) + 1) + 1)).bind (getI .i64)).bind fun n98 =>
(run (Et base) 25 [(.agg #[(.int .i64 n93), (.int .i64 n94), (.slice l95.1 l95.2 l95.2), (.slice l96.1 l96.2 l96.2), (.slice l97.1 l97.2 l97.2), (.int .i64 n98)])] r91.2).bind fun r99 =>
((some r99.1).bind (getAgg 6)).bind fun l100 =>
((l100[0]?).bind (getI .i64)).bind fun n101 =>
((l100[1]?).bind (getI .i64)).bind fun n102 =>
((l100[2]?).bind getS).bind fun l103 =>
((l100[3]?).bind getS).bind fun l104 =>
((l100[4]?).bind getS).bind fun l105 =>
((l100[5]?).bind (getI .i64)).bind fun n106 =>
(run (Et base) 26 [(.agg #[(.int .i64 n101), (.int .i64 n102), (.slice l103.1 l103.2 l103.2), (.slice l104.1 l104.2 l104.2), (.slice l105.1 l105.2 l105.2), (.int .i64 n106)])] r99.2).bind fun r107 =>
((some r107.1).bind getS).bind fun l108 =>
(run (Et base) 27 [(.slice l108.1 l108.2 l108.2), (.slice l86.1 l86.2 l86.2)] r107.2).bind fun r109 =>
((some r109.1).bind getB).bind fun b110 =>
(if (!b110) = true then
some ((.bool false), r109.2)
else
(run (Et base) 31 [(.slice l87.1 l87.2 l87.2), (.int .i64 (1 : Int))] r109.2).bind fun r111 =>
((some r111.1).bind (getI .i64)).bind fun n112 =>
(if (decide (n112 < (0 : Int))) = true then
some ((.bool false), r111.2)
else
(if (n112 != n90) = true then
some ((.bool false), r111.2)
else
some ((.bool true), r111.2)))))))))))) : Option (Value × AH)) := by kernel_rfl
theorem r5 {base : Nat} {v0_0 : Int} {v0_1 : Int} {v0_2 : Option Addr} {v0_2n : Nat} {v0_3 : Option Addr} {v0_3n : Nat} {v0_4 : Option Addr} {v0_4n : Nat} {v0_5 : Int} {h : AH} {r : Value × AH} (hx :
((some (h ++ [some ⟨[(.int .i64 v0_0), (.int .i64 v0_1), (.slice v0_2 v0_2n v0_2n), (.slice v0_3 v0_3n v0_3n), (.slice v0_4 v0_4n v0_4n), (.int .i64 v0_5)], 32⟩])).bind fun h1 =>
((cell h1 (List.length h) 0).bind (getI .i64)).bind fun n2 =>
((cell h1 (List.length h) 1).bind (getI .i64)).bind fun n3 =>
((cell h1 (List.length h) 2).bind getS).bind fun l4 =>
((cell h1 (List.length h) 3).bind getS).bind fun l5 =>
((cell h1 (List.length h) 4).bind getS).bind fun l6 =>
((cell h1 (List.length h) 5).bind (getI .i64)).bind fun n7 =>
(run (Et base) 23 [(.agg #[(.int .i64 n2), (.int .i64 n3), (.slice l4.1 l4.2 l4.2), (.slice l5.1 l5.2 l5.2), (.slice l6.1 l6.2 l6.2), (.int .i64 n7)]), (.int .i64 (1048576 : Int))] h1).bind fun r8 =>
((some r8.1).bind (getI .i64)).bind fun n9 =>
(if (decide (n9 < (0 : Int))) = true then
some ((.bool true), r8.2)
else
((cell r8.2 (List.length h) 0).bind (getI .i64)).bind fun n10 =>
((cell r8.2 (List.length h) 1).bind (getI .i64)).bind fun n11 =>
((cell r8.2 (List.length h) 2).bind getS).bind fun l12 =>
((cell r8.2 (List.length h) 3).bind getS).bind fun l13 =>
((cell r8.2 (List.length h) 4).bind getS).bind fun l14 =>
((cell r8.2 (List.length h) 5).bind (getI .i64)).bind fun n15 =>
(run (Et base) 25 [(.agg #[(.int .i64 n10), (.int .i64 n11), (.slice l12.1 l12.2 l12.2), (.slice l13.1 l13.2 l13.2), (.slice l14.1 l14.2 l14.2), (.int .i64 n15)])] r8.2).bind fun r16 =>
((some r16.1).bind (getAgg 6)).bind fun l17 =>
((l17[0]?).bind (getI .i64)).bind fun n18 =>
((l17[1]?).bind (getI .i64)).bind fun n19 =>
((l17[2]?).bind getS).bind fun l20 =>
((l17[3]?).bind getS).bind fun l21 =>
((l17[4]?).bind getS).bind fun l22 =>
((l17[5]?).bind (getI .i64)).bind fun n23 =>
(run (Et base) 24 [(.agg #[(.int .i64 n18), (.int .i64 n19), (.slice l20.1 l20.2 l20.2), (.slice l21.1 l21.2 l21.2), (.slice l22.1 l22.2 l22.2), (.int .i64 n23)])] r16.2).bind fun r24 =>
((some r24.1).bind getS).bind fun l25 =>
((cell r24.2 (List.length h) 0).bind (getI .i64)).bind fun n26 =>
((cell r24.2 (List.length h) 1).bind (getI .i64)).bind fun n27 =>
((cell r24.2 (List.length h) 2).bind getS).bind fun l28 =>
((cell r24.2 (List.length h) 3).bind getS).bind fun l29 =>
((cell r24.2 (List.length h) 4).bind getS).bind fun l30 =>
((cell r24.2 (List.length h) 5).bind (getI .i64)).bind fun n31 =>
(run (Et base) 25 [(.agg #[(.int .i64 n26), (.int .i64 n27), (.slice l28.1 l28.2 l28.2), (.slice l29.1 l29.2 l29.2), (.slice l30.1 l30.2 l30.2), (.int .i64 n31)])] r24.2).bind fun r32 =>
((some r32.1).bind (getAgg 6)).bind fun l33 =>
((l33[0]?).bind (getI .i64)).bind fun n34 =>
((l33[1]?).bind (getI .i64)).bind fun n35 =>
((l33[2]?).bind getS).bind fun l36 =>
((l33[3]?).bind getS).bind fun l37 =>
((l33[4]?).bind getS).bind fun l38 =>
((l33[5]?).bind (getI .i64)).bind fun n39 =>
(some (r32.2 ++ [some ⟨[(.int .i64 0), (.int .i64 0), (.slice none 0 0), (.slice none 0 0), (.slice none 0 0), (.int .i64 0)], 35⟩])).bind fun h40 =>
(wr base h40 (List.length r32.2) 0 [(.int .i64 n34), (.int .i64 n35), (.slice l36.1 l36.2 l36.2), (.slice l37.1 l37.2 l37.2), (.slice l38.1 l38.2 l38.2), (.int .i64 n39)]).bind fun h41 =>
((cell h41 (List.length r32.2) 0).bind (getI .i64)).bind fun n42 =>
((cell h41 (List.length r32.2) 1).bind (getI .i64)).bind fun n43 =>
((cell h41 (List.length r32.2) 2).bind getS).bind fun l44 =>
((cell h41 (List.length r32.2) 3).bind getS).bind fun l45 =>
((cell h41 (List.length r32.2) 4).bind getS).bind fun l46 =>
((cell h41 (List.length r32.2) 5).bind (getI .i64)).bind fun n47 =>
(run (Et base) 26 [(.agg #[(.int .i64 n42), (.int .i64 n43), (.slice l44.1 l44.2 l44.2), (.slice l45.1 l45.2 l45.2), (.slice l46.1 l46.2 l46.2), (.int .i64 n47)])] h41).bind fun r48 =>
((some r48.1).bind getS).bind fun l49 =>
(run (Et base) 27 [(.slice l49.1 l49.2 l49.2), (.slice l25.1 l25.2 l25.2)] r48.2).bind fun r50 =>
((some r50.1).bind getB).bind fun b51 =>
(if (!b51) = true then
some ((.bool false), r50.2)
else
((cell r50.2 (List.length r32.2) 0).bind (getI .i64)).bind fun n52 =>
((cell r50.2 (List.length r32.2) 1).bind (getI .i64)).bind fun n53 =>
((cell r50.2 (List.length r32.2) 2).bind getS).bind fun l54 =>
((cell r50.2 (List.length r32.2) 3).bind getS).bind fun l55 =>
((cell r50.2 (List.length r32.2) 4).bind getS).bind fun l56 =>
((cell r50.2 (List.length r32.2) 5).bind (getI .i64)).bind fun n57 =>
((cell r50.2 (List.length h) 0).bind (getI .i64)).bind fun n58 =>
((cell r50.2 (List.length h) 1).bind (getI .i64)).bind fun n59 =>
((cell r50.2 (List.length h) 2).bind getS).bind fun l60 =>
((cell r50.2 (List.length h) 3).bind getS).bind fun l61 =>
((cell r50.2 (List.length h) 4).bind getS).bind fun l62 =>
((cell r50.2 (List.length h) 5).bind (getI .i64)).bind fun n63 =>
(run (Et base) 25 [(.agg #[(.int .i64 n58), (.int .i64 n59), (.slice l60.1 l60.2 l60.2), (.slice l61.1 l61.2 l61.2), (.slice l62.1 l62.2 l62.2), (.int .i64 n63)])] r50.2).bind fun r64 =>
((some r64.1).bind (getAgg 6)).bind fun l65 =>
((l65[0]?).bind (getI .i64)).bind fun n66 =>
((l65[1]?).bind (getI .i64)).bind fun n67 =>
((l65[2]?).bind getS).bind fun l68 =>
((l65[3]?).bind getS).bind fun l69 =>
((l65[4]?).bind getS).bind fun l70 =>
((l65[5]?).bind (getI .i64)).bind fun n71 =>
(gate (sameA r50.2 r64.2 (some ⟨(List.length r32.2), 0, none⟩) 6)
((run (Et base) 28 [(.agg #[(.int .i64 n52), (.int .i64 n53), (.slice l54.1 l54.2 l54.2), (.slice l55.1 l55.2 l55.2), (.slice l56.1 l56.2 l56.2), (.int .i64 n57)]), (.agg #[(.int .i64 n66), (.int .i64 n67), (.slice l68.1 l68.2 l68.2), (.slice l69.1 l69.2 l69.2), (.slice l70.1 l70.2 l70.2), (.int .i64 n71)])] r64.2).bind fun r72 =>
((some r72.1).bind getB).bind fun b73 =>
(if (!b73) = true then
some ((.bool false), r72.2)
else
((cell r72.2 (List.length r32.2) 0).bind (getI .i64)).bind fun n74 =>
((cell r72.2 (List.length r32.2) 1).bind (getI .i64)).bind fun n75 =>
((cell r72.2 (List.length r32.2) 2).bind getS).bind fun l76 =>
((cell r72.2 (List.length r32.2) 3).bind getS).bind fun l77 =>
((cell r72.2 (List.length r32.2) 4).bind getS).bind fun l78 =>
((cell r72.2 (List.length r32.2) 5).bind (getI .i64)).bind fun n79 =>
(run (Et base) 29 [(.agg #[(.int .i64 n74), (.int .i64 n75), (.slice l76.1 l76.2 l76.2), (.slice l77.1 l77.2 l77.2), (.slice l78.1 l78.2 l78.2), (.int .i64 n79)]), (.int .i64 (1 : Int))] r72.2).bind fun r80 =>
((some r80.1).bind (getI .i64)).bind fun n81 =>
((if (decide (n81 < (0 : Int))) = true then
some (.inl ([some (.pointer (some ⟨(List.length h), 0, none⟩)), some (.slice l25.1 l25.2 l25.2), some (.slice l49.1 l49.2 l49.2), some (.bool true)], r80.2))
else
(run (Et base) 27 [(.slice l49.1 l49.2 l49.2), (.slice l25.1 l25.2 l25.2)] r80.2).bind fun r83 =>
((some r83.1).bind getB).bind fun b84 =>
some (.inl ([some (.pointer (some ⟨(List.length h), 0, none⟩)), some (.slice l25.1 l25.2 l25.2), some (.slice l49.1 l49.2 l49.2), some (.bool (!b84))], r83.2)))).bind fun j82 => joinK j82 fun j82 =>
((sget j82.1 0).bind getA).bind fun d85 =>
((sget (j82.1.tail) 0).bind getS).bind fun l86 =>
((sget (j82.1.tail.tail) 0).bind getS).bind fun l87 =>
((sget (j82.1.tail.tail.tail) 0).bind getB).bind fun b88 =>
(if b88 = true then
some ((.bool false), j82.2)
else
(run (Et base) 30 [(.slice l87.1 l87.2 l87.2), (.int .i64 (1 : Int))] j82.2).bind fun r89 =>
((some r89.1).bind (getI .i64)).bind fun n90 =>
(run (Et base) 31 [(.slice l87.1 l87.2 l87.2), (.int .i64 (1 : Int))] r89.2).bind fun r91 =>
((some r91.1).bind (getI .i64)).bind fun n92 =>
(if (decide (n92 < (0 : Int))) = true then
some ((.bool false), r91.2)
else
(if (n92 != n90) = true then
some ((.bool false), r91.2)
else
((cell r91.2 d85.block d85.off).bind (getI .i64)).bind fun n93 =>
((cell r91.2 d85.block (d85.off + 1)).bind (getI .i64)).bind fun n94 =>
((cell r91.2 d85.block ((d85.off + 1) + 1)).bind getS).bind fun l95 =>
((cell r91.2 d85.block (((d85.off + 1) + 1) + 1)).bind getS).bind fun l96 =>
((cell r91.2 d85.block ((((d85.off + 1) + 1) + 1) + 1)).bind getS).bind fun l97 =>
((cell r91.2 d85.block (((((d85.off + 1) + 1) + 1) + 1) + 1)).bind (getI .i64)).bind fun n98 =>
(run (Et base) 25 [(.agg #[(.int .i64 n93), (.int .i64 n94), (.slice l95.1 l95.2 l95.2), (.slice l96.1 l96.2 l96.2), (.slice l97.1 l97.2 l97.2), (.int .i64 n98)])] r91.2).bind fun r99 =>
((some r99.1).bind (getAgg 6)).bind fun l100 =>
((l100[0]?).bind (getI .i64)).bind fun n101 =>
((l100[1]?).bind (getI .i64)).bind fun n102 =>
((l100[2]?).bind getS).bind fun l103 =>
((l100[3]?).bind getS).bind fun l104 =>
((l100[4]?).bind getS).bind fun l105 =>
((l100[5]?).bind (getI .i64)).bind fun n106 =>
(run (Et base) 26 [(.agg #[(.int .i64 n101), (.int .i64 n102), (.slice l103.1 l103.2 l103.2), (.slice l104.1 l104.2 l104.2), (.slice l105.1 l105.2 l105.2), (.int .i64 n106)])] r99.2).bind fun r107 =>
((some r107.1).bind getS).bind fun l108 =>
(run (Et base) 27 [(.slice l108.1 l108.2 l108.2), (.slice l86.1 l86.2 l86.2)] r107.2).bind fun r109 =>
((some r109.1).bind getB).bind fun b110 =>
(if (!b110) = true then
some ((.bool false), r109.2)
else
(run (Et base) 31 [(.slice l87.1 l87.2 l87.2), (.int .i64 (1 : Int))] r109.2).bind fun r111 =>
((some r111.1).bind (getI .i64)).bind fun n112 =>
(if (decide (n112 < (0 : Int))) = true then
some ((.bool false), r111.2)
else
(if (n112 != n90) = true then
some ((.bool false), r111.2)
else
some ((.bool true), r111.2))))))))))))) = some r) : run (Et base) 5 [(.agg #[(.int .i64 v0_0), (.int .i64 v0_1), (.slice v0_2 v0_2n v0_2n), (.slice v0_3 v0_3n v0_3n), (.slice v0_4 v0_4n v0_4n), (.int .i64 v0_5)])] h = some r := run_i Try.func5 (by kernel_rfl) ((f5_eq base v0_0 v0_1 v0_2 v0_2n v0_3 v0_3n v0_4 v0_4n v0_5 h).trans hx)
/-! laws.toByteS (gates 0) -/
noncomputable def B16_0 (base : Nat) : Body := fun l h => lay s16_0 l fun s => exCode (Et base) (run (Et base)) loopL a16_0 (subC [1, 1, 0, 1, 0, 0] (bodyC Try.f16)) s h (keepK s16_0 e16_0)
theorem B16_0_eq (base : Nat) (v0 : Option Addr) (v0n : Nat) (v3 : Option Addr) (v3n : Nat) (v4 : Int) (h : AH) : B16_0 base [some (.slice v0 v0n v0n), some (.slice v3 v3n v3n), some (.int .i64 v4)] h =
((if (decide (v4 < ((v0n : Nat) : Int))) = true then
(if 0 ≤ v4 ∧ v4 < ((v0n : Nat) : Int) then
((v0 : Option Addr)).bind fun a1 =>
((cell h a1.block (a1.off + Int.toNat v4 * 1)).bind (getI .u8)).bind fun n2 =>
(if 0 ≤ v4 ∧ v4 < ((v3n : Nat) : Int) then
((v3 : Option Addr)).bind fun a3 =>
(wr base h a3.block (a3.off + Int.toNat v4 * 1) [(.int .u8 n2)]).bind fun h4 =>
some (0, [some (.slice v0 v0n v0n), some (.slice v3 v3n v3n), some (.int .i64 (IntKind.wrap .i64 (v4 + (1 : Int))))], h4)
else none)
else none)
else
some (2, [some (.slice v3 v3n v3n)], h)) : Option (Nat × Slots × AH)) := by kernel_rfl
theorem f16_eq (base : Nat) (v0 : Option Addr) (v0n : Nat) (h : AH) : exFun (Et base) (run (Et base)) loopL a16 Try.f16 [(.slice v0 v0n v0n)] h =
((if ((v0n : Nat) : Int) = ((v0n : Nat) : Int) ∧ 0 ≤ ((v0n : Nat) : Int) ∧ ((v0n : Nat) : Int) * 1 ≤ 140737488355328 ∧ ((v0n : Nat) : Int) ≤ 140737488355328 then
(some (h ++ [some ⟨rep [(.int .u8 0)] (Int.toNat ((v0n : Nat) : Int)), 5⟩])).bind fun h1 =>
(loopL (B16_0 base) [some (.slice v0 v0n v0n), some (.slice (some ⟨(List.length h), 0, none⟩) (Int.toNat ((v0n : Nat) : Int)) (Int.toNat ((v0n : Nat) : Int))), some (.int .i64 (0 : Int))] h1).bind fun q2 =>
(if q2.1 = 2 then
((sget q2.2.1 0).bind getS).bind fun l3 =>
some ((.slice l3.1 l3.2 l3.2), q2.2.2)
else
none)
else none) : Option (Value × AH)) := by kernel_rfl
theorem r16 {base : Nat} {v0 : Option Addr} {v0n : Nat} {h : AH} {r : Value × AH} (hx :
((if ((v0n : Nat) : Int) = ((v0n : Nat) : Int) ∧ 0 ≤ ((v0n : Nat) : Int) ∧ ((v0n : Nat) : Int) * 1 ≤ 140737488355328 ∧ ((v0n : Nat) : Int) ≤ 140737488355328 then
(some (h ++ [some ⟨rep [(.int .u8 0)] (Int.toNat ((v0n : Nat) : Int)), 5⟩])).bind fun h1 =>
(loopL (B16_0 base) [some (.slice v0 v0n v0n), some (.slice (some ⟨(List.length h), 0, none⟩) (Int.toNat ((v0n : Nat) : Int)) (Int.toNat ((v0n : Nat) : Int))), some (.int .i64 (0 : Int))] h1).bind fun q2 =>
(if q2.1 = 2 then
((sget q2.2.1 0).bind getS).bind fun l3 =>
some ((.slice l3.1 l3.2 l3.2), q2.2.2)
else
none)
else none)) = some r) : run (Et base) 16 [(.slice v0 v0n v0n)] h = some r := run_i Try.func16 (by kernel_rfl) ((f16_eq base v0 v0n h).trans hx)
/-! laws.eqByteS (gates 0) -/
noncomputable def B18_0 (base : Nat) : Body := fun l h => lay s18_0 l fun s => exCode (Et base) (run (Et base)) loopL a18_0 (subC [1, 1, 0, 1, 0, 0] (bodyC Try.f18)) s h (keepK s18_0 e18_0)
theorem B18_0_eq (base : Nat) (v0 : Option Addr) (v0n : Nat) (v1 : Option Addr) (v1n : Nat) (v5 : Int) (h : AH) : B18_0 base [some (.slice v0 v0n v0n), some (.slice v1 v1n v1n), some (.int .i64 v5)] h =
((if (decide (v5 < ((v0n : Nat) : Int))) = true then
(if 0 ≤ v5 ∧ v5 < ((v0n : Nat) : Int) then
((v0 : Option Addr)).bind fun a1 =>
((cell h a1.block (a1.off + Int.toNat v5 * 1)).bind (getI .u8)).bind fun n2 =>
(if 0 ≤ v5 ∧ v5 < ((v1n : Nat) : Int) then
((v1 : Option Addr)).bind fun a3 =>
((cell h a3.block (a3.off + Int.toNat v5 * 1)).bind (getI .u8)).bind fun n4 =>
(if (n2 != n4) = true then
some (1, [some (.bool false)], h)
else
some (0, [some (.slice v0 v0n v0n), some (.slice v1 v1n v1n), some (.int .i64 (IntKind.wrap .i64 (v5 + (1 : Int))))], h))
else none)
else none)
else
some (2, [], h)) : Option (Nat × Slots × AH)) := by kernel_rfl
theorem f18_eq (base : Nat) (v0 : Option Addr) (v0n : Nat) (v1 : Option Addr) (v1n : Nat) (h : AH) : exFun (Et base) (run (Et base)) loopL a18 Try.f18 [(.slice v0 v0n v0n), (.slice v1 v1n v1n)] h =
((if (((v0n : Nat) : Int) != ((v1n : Nat) : Int)) = true then
some ((.bool false), h)
else
(loopL (B18_0 base) [some (.slice v0 v0n v0n), some (.slice v1 v1n v1n), some (.int .i64 (0 : Int))] h).bind fun q1 =>
(if q1.1 = 1 then
((sget q1.2.1 0).bind getB).bind fun b2 =>
some ((.bool b2), q1.2.2)
else
(if q1.1 = 2 then
some ((.bool true), q1.2.2)
else
none))) : Option (Value × AH)) := by kernel_rfl
theorem r18 {base : Nat} {v0 : Option Addr} {v0n : Nat} {v1 : Option Addr} {v1n : Nat} {h : AH} {r : Value × AH} (hx :
((if (((v0n : Nat) : Int) != ((v1n : Nat) : Int)) = true then
some ((.bool false), h)
else
(loopL (B18_0 base) [some (.slice v0 v0n v0n), some (.slice v1 v1n v1n), some (.int .i64 (0 : Int))] h).bind fun q1 =>
(if q1.1 = 1 then
((sget q1.2.1 0).bind getB).bind fun b2 =>
some ((.bool b2), q1.2.2)
else
(if q1.1 = 2 then
some ((.bool true), q1.2.2)
else
none)))) = some r) : run (Et base) 18 [(.slice v0 v0n v0n), (.slice v1 v1n v1n)] h = some r := run_i Try.func18 (by kernel_rfl) ((f18_eq base v0 v0n v1 v1n h).trans hx)
/-! spec.PutNum (gates 0) -/
noncomputable def B19_0 (base : Nat) : Body := fun l h => lay s19_0 l fun s => exCode (Et base) (run (Et base)) loopL a19_0 (subC [1, 1, 1, 1, 1, 1, 0, 0, 0] (bodyC Try.f19)) s h (keepK s19_0 e19_0)
theorem B19_0_eq (base : Nat) (v5 : Option Addr) (v5n : Nat) (v6 : Int) (h : AH) : B19_0 base [some (.slice v5 v5n v5n), some (.int .i64 v6)] h =
((if (decide (v6 > (127 : Int))) = true then
(some (h ++ [some ⟨[(.int .u8 (IntKind.wrap .u8 (Go.bits .or .i64 (Go.bits .and .i64 v6 (127 : Int)) (128 : Int))))], 5⟩])).bind fun h1 =>
(app base h1 5 1 1 v5 v5n (rawAt h1 (some ⟨(List.length h), 0, none⟩) (1 * 1)) 1).bind fun p2 =>
((some p2.1).bind getS).bind fun l3 =>
some (0, [some (.slice l3.1 l3.2 l3.2), some (.int .i64 (Int.fdiv v6 (2 ^ min ((7 : Int)).toNat 64)))], p2.2)
else
some (2, [some (.slice v5 v5n v5n), some (.int .i64 v6)], h)) : Option (Nat × Slots × AH)) := by kernel_rfl
theorem f19_eq (base : Nat) (v0 : Option Addr) (v0n : Nat) (v1 : Int) (h : AH) : exFun (Et base) (run (Et base)) loopL a19 Try.f19 [(.slice v0 v0n v0n), (.int .i64 v1)] h =
((some (h ++ [some ⟨[], 5⟩])).bind fun h1 =>
(app base h1 5 1 1 (some ⟨(List.length h), 0, none⟩) 0 (rawAt h1 v0 (v0n * 1)) v0n).bind fun p2 =>
((some p2.1).bind getS).bind fun l3 =>
((if (decide (v1 > (1000000 : Int))) = true then
some (.inl ([some (.int .i64 (1000000 : Int)), some (.slice l3.1 l3.2 l3.2)], p2.2))
else
some (.inl ([some (.int .i64 v1), some (.slice l3.1 l3.2 l3.2)], p2.2)))).bind fun j4 => joinK j4 fun j4 =>
((sget j4.1 0).bind (getI .i64)).bind fun n5 =>
((sget (j4.1.tail) 0).bind getS).bind fun l6 =>
((if (decide (n5 < (-1000000 : Int))) = true then
some (.inl ([some (.int .i64 (-1000000 : Int)), some (.slice l6.1 l6.2 l6.2)], j4.2))
else
some (.inl ([some (.int .i64 n5), some (.slice l6.1 l6.2 l6.2)], j4.2)))).bind fun j7 => joinK j7 fun j7 =>
((sget j7.1 0).bind (getI .i64)).bind fun n8 =>
((sget (j7.1.tail) 0).bind getS).bind fun l9 =>
((if (decide (n8 < (0 : Int))) = true then
some (.inl ([some (.slice l9.1 l9.2 l9.2), some (.int .i64 (IntKind.wrap .i64 ((IntKind.wrap .i64 ((-2 : Int) * n8)) - (1 : Int))))], j7.2))
else
some (.inl ([some (.slice l9.1 l9.2 l9.2), some (.int .i64 (IntKind.wrap .i64 ((2 : Int) * n8)))], j7.2)))).bind fun j10 => joinK j10 fun j10 =>
((sget j10.1 0).bind getS).bind fun l11 =>
((sget (j10.1.tail) 0).bind (getI .i64)).bind fun n12 =>
(loopL (B19_0 base) [some (.slice l11.1 l11.2 l11.2), some (.int .i64 n12)] j10.2).bind fun q13 =>
(if q13.1 = 2 then
((sget q13.2.1 0).bind getS).bind fun l14 =>
((sget (q13.2.1.tail) 0).bind (getI .i64)).bind fun n15 =>
(some (q13.2.2 ++ [some ⟨[(.int .u8 (IntKind.wrap .u8 n15))], 5⟩])).bind fun h16 =>
(app base h16 5 1 1 l14.1 l14.2 (rawAt h16 (some ⟨(List.length q13.2.2), 0, none⟩) (1 * 1)) 1).bind fun p17 =>
((some p17.1).bind getS).bind fun l18 =>
some ((.slice l18.1 l18.2 l18.2), p17.2)
else
none) : Option (Value × AH)) := by kernel_rfl
theorem r19 {base : Nat} {v0 : Option Addr} {v0n : Nat} {v1 : Int} {h : AH} {r : Value × AH} (hx :
((some (h ++ [some ⟨[], 5⟩])).bind fun h1 =>
(app base h1 5 1 1 (some ⟨(List.length h), 0, none⟩) 0 (rawAt h1 v0 (v0n * 1)) v0n).bind fun p2 =>
((some p2.1).bind getS).bind fun l3 =>
((if (decide (v1 > (1000000 : Int))) = true then
some (.inl ([some (.int .i64 (1000000 : Int)), some (.slice l3.1 l3.2 l3.2)], p2.2))
else
some (.inl ([some (.int .i64 v1), some (.slice l3.1 l3.2 l3.2)], p2.2)))).bind fun j4 => joinK j4 fun j4 =>
((sget j4.1 0).bind (getI .i64)).bind fun n5 =>
((sget (j4.1.tail) 0).bind getS).bind fun l6 =>
((if (decide (n5 < (-1000000 : Int))) = true then
some (.inl ([some (.int .i64 (-1000000 : Int)), some (.slice l6.1 l6.2 l6.2)], j4.2))
else
some (.inl ([some (.int .i64 n5), some (.slice l6.1 l6.2 l6.2)], j4.2)))).bind fun j7 => joinK j7 fun j7 =>
((sget j7.1 0).bind (getI .i64)).bind fun n8 =>
((sget (j7.1.tail) 0).bind getS).bind fun l9 =>
((if (decide (n8 < (0 : Int))) = true then
some (.inl ([some (.slice l9.1 l9.2 l9.2), some (.int .i64 (IntKind.wrap .i64 ((IntKind.wrap .i64 ((-2 : Int) * n8)) - (1 : Int))))], j7.2))
else
some (.inl ([some (.slice l9.1 l9.2 l9.2), some (.int .i64 (IntKind.wrap .i64 ((2 : Int) * n8)))], j7.2)))).bind fun j10 => joinK j10 fun j10 =>
((sget j10.1 0).bind getS).bind fun l11 =>
((sget (j10.1.tail) 0).bind (getI .i64)).bind fun n12 =>
(loopL (B19_0 base) [some (.slice l11.1 l11.2 l11.2), some (.int .i64 n12)] j10.2).bind fun q13 =>
(if q13.1 = 2 then
((sget q13.2.1 0).bind getS).bind fun l14 =>
((sget (q13.2.1.tail) 0).bind (getI .i64)).bind fun n15 =>
(some (q13.2.2 ++ [some ⟨[(.int .u8 (IntKind.wrap .u8 n15))], 5⟩])).bind fun h16 =>
(app base h16 5 1 1 l14.1 l14.2 (rawAt h16 (some ⟨(List.length q13.2.2), 0, none⟩) (1 * 1)) 1).bind fun p17 =>
((some p17.1).bind getS).bind fun l18 =>
some ((.slice l18.1 l18.2 l18.2), p17.2)
else
none)) = some r) : run (Et base) 19 [(.slice v0 v0n v0n), (.int .i64 v1)] h = some r := run_i Try.func19 (by kernel_rfl) ((f19_eq base v0 v0n v1 h).trans hx)
/-! impl.PutNum (gates 0) -/
theorem f20_eq (base : Nat) (v0 : Option Addr) (v0n : Nat) (v1 : Int) (h : AH) : exFun (Et base) (run (Et base)) loopL a20 Try.f20 [(.slice v0 v0n v0n), (.int .i64 v1)] h =
((app base h 5 1 1 none 0 (rawAt h v0 (v0n * 1)) v0n).bind fun p1 =>
((some p1.1).bind getS).bind fun l2 =>
(run (Et base) 62 [(.slice l2.1 l2.2 l2.2), (.int .i64 v1)] p1.2).bind fun r3 =>
((some r3.1).bind getS).bind fun l4 =>
some ((.slice l4.1 l4.2 l4.2), r3.2) : Option (Value × AH)) := by kernel_rfl
theorem r20 {base : Nat} {v0 : Option Addr} {v0n : Nat} {v1 : Int} {h : AH} {r : Value × AH} (hx :
((app base h 5 1 1 none 0 (rawAt h v0 (v0n * 1)) v0n).bind fun p1 =>
((some p1.1).bind getS).bind fun l2 =>
(run (Et base) 62 [(.slice l2.1 l2.2 l2.2), (.int .i64 v1)] p1.2).bind fun r3 =>
((some r3.1).bind getS).bind fun l4 =>
some ((.slice l4.1 l4.2 l4.2), r3.2)) = some r) : run (Et base) 20 [(.slice v0 v0n v0n), (.int .i64 v1)] h = some r := run_i Try.func20 (by kernel_rfl) ((f20_eq base v0 v0n v1 h).trans hx)
/-! laws.markByteS (gates 0) -/
noncomputable def B21_0 (base : Nat) : Body := fun l h => lay s21_0 l fun s => exCode (Et base) (run (Et base)) loopL a21_0 (subC [1, 0, 1, 0, 0] (bodyC Try.f21)) s h (keepK s21_0 e21_0)
theorem B21_0_eq (base : Nat) (v0 : Option Addr) (v0n : Nat) (v1 : Int) (v5 : Int) (h : AH) : B21_0 base [some (.slice v0 v0n v0n), some (.int .i64 v1), some (.int .i64 v5)] h =
((if (decide (v5 < ((v0n : Nat) : Int))) = true then
(if 0 ≤ v5 ∧ v5 < ((v0n : Nat) : Int) then
((v0 : Option Addr)).bind fun a1 =>
(wr base h a1.block (a1.off + Int.toNat v5 * 1) [(.int .u8 (IntKind.wrap .u8 v1))]).bind fun h2 =>
some (0, [some (.slice v0 v0n v0n), some (.int .i64 (IntKind.wrap .i64 (v1 + (1 : Int)))), some (.int .i64 (IntKind.wrap .i64 (v5 + (1 : Int))))], h2)
else none)
else
some (2, [some (.int .i64 v1)], h)) : Option (Nat × Slots × AH)) := by kernel_rfl
theorem f21_eq (base : Nat) (v0 : Option Addr) (v0n : Nat) (v1 : Int) (h : AH) : exFun (Et base) (run (Et base)) loopL a21 Try.f21 [(.slice v0 v0n v0n), (.int .i64 v1)] h =
((loopL (B21_0 base) [some (.slice v0 v0n v0n), some (.int .i64 v1), some (.int .i64 (0 : Int))] h).bind fun q1 =>
(if q1.1 = 2 then
((sget q1.2.1 0).bind (getI .i64)).bind fun n2 =>
some ((.int .i64 n2), q1.2.2)
else
none) : Option (Value × AH)) := by kernel_rfl
theorem r21 {base : Nat} {v0 : Option Addr} {v0n : Nat} {v1 : Int} {h : AH} {r : Value × AH} (hx :
((loopL (B21_0 base) [some (.slice v0 v0n v0n), some (.int .i64 v1), some (.int .i64 (0 : Int))] h).bind fun q1 =>
(if q1.1 = 2 then
((sget q1.2.1 0).bind (getI .i64)).bind fun n2 =>
some ((.int .i64 n2), q1.2.2)
else
none)) = some r) : run (Et base) 21 [(.slice v0 v0n v0n), (.int .i64 v1)] h = some r := run_i Try.func21 (by kernel_rfl) ((f21_eq base v0 v0n v1 h).trans hx)
/-! laws.heldByteS (gates 0) -/
noncomputable def B22_0 (base : Nat) : Body := fun l h => lay s22_0 l fun s => exCode (Et base) (run (Et base)) loopL a22_0 (subC [1, 0, 1, 0, 0] (bodyC Try.f22)) s h (keepK s22_0 e22_0)
theorem B22_0_eq (base : Nat) (v0 : Option Addr) (v0n : Nat) (v1 : Int) (v5 : Int) (h : AH) : B22_0 base [some (.slice v0 v0n v0n), some (.int .i64 v1), some (.int .i64 v5)] h =
((if (decide (v5 < ((v0n : Nat) : Int))) = true then
(if 0 ≤ v5 ∧ v5 < ((v0n : Nat) : Int) then
((v0 : Option Addr)).bind fun a1 =>
((cell h a1.block (a1.off + Int.toNat v5 * 1)).bind (getI .u8)).bind fun n2 =>
(if (n2 != (IntKind.wrap .u8 v1)) = true then
some (1, [some (.int .i64 (-1 : Int))], h)
else
some (0, [some (.slice v0 v0n v0n), some (.int .i64 (IntKind.wrap .i64 (v1 + (1 : Int)))), some (.int .i64 (IntKind.wrap .i64 (v5 + (1 : Int))))], h))
else none)
else
some (2, [some (.int .i64 v1)], h)) : Option (Nat × Slots × AH)) := by kernel_rfl
theorem f22_eq (base : Nat) (v0 : Option Addr) (v0n : Nat) (v1 : Int) (h : AH) : exFun (Et base) (run (Et base)) loopL a22 Try.f22 [(.slice v0 v0n v0n), (.int .i64 v1)] h =
((loopL (B22_0 base) [some (.slice v0 v0n v0n), some (.int .i64 v1), some (.int .i64 (0 : Int))] h).bind fun q1 =>
(if q1.1 = 1 then
((sget q1.2.1 0).bind (getI .i64)).bind fun n2 =>
some ((.int .i64 n2), q1.2.2)
else
(if q1.1 = 2 then
((sget q1.2.1 0).bind (getI .i64)).bind fun n3 =>
some ((.int .i64 n3), q1.2.2)
else
none)) : Option (Value × AH)) := by kernel_rfl
theorem r22 {base : Nat} {v0 : Option Addr} {v0n : Nat} {v1 : Int} {h : AH} {r : Value × AH} (hx :
((loopL (B22_0 base) [some (.slice v0 v0n v0n), some (.int .i64 v1), some (.int .i64 (0 : Int))] h).bind fun q1 =>
(if q1.1 = 1 then
((sget q1.2.1 0).bind (getI .i64)).bind fun n2 =>
some ((.int .i64 n2), q1.2.2)
else
(if q1.1 = 2 then
((sget q1.2.1 0).bind (getI .i64)).bind fun n3 =>
some ((.int .i64 n3), q1.2.2)
else
none))) = some r) : run (Et base) 22 [(.slice v0 v0n v0n), (.int .i64 v1)] h = some r := run_i Try.func22 (by kernel_rfl) ((f22_eq base v0 v0n v1 h).trans hx)
/-! laws.szCell (gates 0) -/
theorem f23_eq (base : Nat) (v0_0 : Int) (v0_1 : Int) (v0_2 : Option Addr) (v0_2n : Nat) (v0_3 : Option Addr) (v0_3n : Nat) (v0_4 : Option Addr) (v0_4n : Nat) (v0_5 : Int) (v1 : Int) (h : AH) : exFun (Et base) (run (Et base)) loopL a23 Try.f23 [(.agg #[(.int .i64 v0_0), (.int .i64 v0_1), (.slice v0_2 v0_2n v0_2n), (.slice v0_3 v0_3n v0_3n), (.slice v0_4 v0_4n v0_4n), (.int .i64 v0_5)]), (.int .i64 v1)] h =
((some (h ++ [some ⟨[(.int .i64 v0_0), (.int .i64 v0_1), (.slice v0_2 v0_2n v0_2n), (.slice v0_3 v0_3n v0_3n), (.slice v0_4 v0_4n v0_4n), (.int .i64 v0_5)], 32⟩])).bind fun h1 =>
((cell h1 (List.length h) 2).bind getS).bind fun l2 =>
(run (Et base) 63 [(.slice l2.1 l2.2 l2.2), (.int .i64 v1)] h1).bind fun r3 =>
((some r3.1).bind (getI .i64)).bind fun n4 =>
(if (decide (n4 < (0 : Int))) = true then
some ((.int .i64 (-1 : Int)), r3.2)
else
((cell r3.2 (List.length h) 3).bind getS).bind fun l5 =>
(run (Et base) 63 [(.slice l5.1 l5.2 l5.2), (.int .i64 n4)] r3.2).bind fun r6 =>
((some r6.1).bind (getI .i64)).bind fun n7 =>
(if (decide (n7 < (0 : Int))) = true then
some ((.int .i64 (-1 : Int)), r6.2)
else
((cell r6.2 (List.length h) 4).bind getS).bind fun l8 =>
(run (Et base) 63 [(.slice l8.1 l8.2 l8.2), (.int .i64 n7)] r6.2).bind fun r9 =>
((some r9.1).bind (getI .i64)).bind fun n10 =>
(if (decide (n10 < (0 : Int))) = true then
some ((.int .i64 (-1 : Int)), r9.2)
else
some ((.int .i64 n10), r9.2)))) : Option (Value × AH)) := by kernel_rfl
theorem r23 {base : Nat} {v0_0 : Int} {v0_1 : Int} {v0_2 : Option Addr} {v0_2n : Nat} {v0_3 : Option Addr} {v0_3n : Nat} {v0_4 : Option Addr} {v0_4n : Nat} {v0_5 : Int} {v1 : Int} {h : AH} {r : Value × AH} (hx :
((some (h ++ [some ⟨[(.int .i64 v0_0), (.int .i64 v0_1), (.slice v0_2 v0_2n v0_2n), (.slice v0_3 v0_3n v0_3n), (.slice v0_4 v0_4n v0_4n), (.int .i64 v0_5)], 32⟩])).bind fun h1 =>
((cell h1 (List.length h) 2).bind getS).bind fun l2 =>
(run (Et base) 63 [(.slice l2.1 l2.2 l2.2), (.int .i64 v1)] h1).bind fun r3 =>
((some r3.1).bind (getI .i64)).bind fun n4 =>
(if (decide (n4 < (0 : Int))) = true then
some ((.int .i64 (-1 : Int)), r3.2)
else
((cell r3.2 (List.length h) 3).bind getS).bind fun l5 =>
(run (Et base) 63 [(.slice l5.1 l5.2 l5.2), (.int .i64 n4)] r3.2).bind fun r6 =>
((some r6.1).bind (getI .i64)).bind fun n7 =>
(if (decide (n7 < (0 : Int))) = true then
some ((.int .i64 (-1 : Int)), r6.2)
else
((cell r6.2 (List.length h) 4).bind getS).bind fun l8 =>
(run (Et base) 63 [(.slice l8.1 l8.2 l8.2), (.int .i64 n7)] r6.2).bind fun r9 =>
((some r9.1).bind (getI .i64)).bind fun n10 =>
(if (decide (n10 < (0 : Int))) = true then
some ((.int .i64 (-1 : Int)), r9.2)
else
some ((.int .i64 n10), r9.2))))) = some r) : run (Et base) 23 [(.agg #[(.int .i64 v0_0), (.int .i64 v0_1), (.slice v0_2 v0_2n v0_2n), (.slice v0_3 v0_3n v0_3n), (.slice v0_4 v0_4n v0_4n), (.int .i64 v0_5)]), (.int .i64 v1)] h = some r := run_i Try.func23 (by kernel_rfl) ((f23_eq base v0_0 v0_1 v0_2 v0_2n v0_3 v0_3n v0_4 v0_4n v0_5 v1 h).trans hx)
/-! spec.RootsOf (gates 3) -/
theorem f24_eq (base : Nat) (v0_0 : Int) (v0_1 : Int) (v0_2 : Option Addr) (v0_2n : Nat) (v0_3 : Option Addr) (v0_3n : Nat) (v0_4 : Option Addr) (v0_4n : Nat) (v0_5 : Int) (h : AH) : exFun (Et base) (run (Et base)) loopL a24 Try.f24 [(.agg #[(.int .i64 v0_0), (.int .i64 v0_1), (.slice v0_2 v0_2n v0_2n), (.slice v0_3 v0_3n v0_3n), (.slice v0_4 v0_4n v0_4n), (.int .i64 v0_5)])] h =
((some (h ++ [some ⟨[(.int .i64 v0_0), (.int .i64 v0_1), (.slice v0_2 v0_2n v0_2n), (.slice v0_3 v0_3n v0_3n), (.slice v0_4 v0_4n v0_4n), (.int .i64 v0_5)], 35⟩])).bind fun h1 =>
(some (h1 ++ [some ⟨[], 3⟩])).bind fun h2 =>
(gate (neA (some ⟨(List.length h), 2, none⟩) (List.length h1))
(((cell h2 (List.length h) 2).bind getS).bind fun l3 =>
(app base h2 3 1 8 (some ⟨(List.length h1), 0, none⟩) 0 (rawAt h2 l3.1 (l3.2 * 1)) l3.2).bind fun p4 =>
((some p4.1).bind getS).bind fun l5 =>
(gate (neA (some ⟨(List.length h), 3, none⟩) (List.length h1))
((gate (sameA h2 p4.2 (some ⟨(List.length h), 3, none⟩) 1)
(((cell p4.2 (List.length h) 3).bind getS).bind fun l6 =>
(app base p4.2 3 1 8 l5.1 l5.2 (rawAt p4.2 l6.1 (l6.2 * 1)) l6.2).bind fun p7 =>
((some p7.1).bind getS).bind fun l8 =>
some ((.slice l8.1 l8.2 l8.2), p7.2))))))) : Option (Value × AH)) := by kernel_rfl
theorem r24 {base : Nat} {v0_0 : Int} {v0_1 : Int} {v0_2 : Option Addr} {v0_2n : Nat} {v0_3 : Option Addr} {v0_3n : Nat} {v0_4 : Option Addr} {v0_4n : Nat} {v0_5 : Int} {h : AH} {r : Value × AH} (hx :
((some (h ++ [some ⟨[(.int .i64 v0_0), (.int .i64 v0_1), (.slice v0_2 v0_2n v0_2n), (.slice v0_3 v0_3n v0_3n), (.slice v0_4 v0_4n v0_4n), (.int .i64 v0_5)], 35⟩])).bind fun h1 =>
(some (h1 ++ [some ⟨[], 3⟩])).bind fun h2 =>
(gate (neA (some ⟨(List.length h), 2, none⟩) (List.length h1))
(((cell h2 (List.length h) 2).bind getS).bind fun l3 =>
(app base h2 3 1 8 (some ⟨(List.length h1), 0, none⟩) 0 (rawAt h2 l3.1 (l3.2 * 1)) l3.2).bind fun p4 =>
((some p4.1).bind getS).bind fun l5 =>
(gate (neA (some ⟨(List.length h), 3, none⟩) (List.length h1))
((gate (sameA h2 p4.2 (some ⟨(List.length h), 3, none⟩) 1)
(((cell p4.2 (List.length h) 3).bind getS).bind fun l6 =>
(app base p4.2 3 1 8 l5.1 l5.2 (rawAt p4.2 l6.1 (l6.2 * 1)) l6.2).bind fun p7 =>
((some p7.1).bind getS).bind fun l8 =>
some ((.slice l8.1 l8.2 l8.2), p7.2)))))))) = some r) : run (Et base) 24 [(.agg #[(.int .i64 v0_0), (.int .i64 v0_1), (.slice v0_2 v0_2n v0_2n), (.slice v0_3 v0_3n v0_3n), (.slice v0_4 v0_4n v0_4n), (.int .i64 v0_5)])] h = some r := run_i Try.func24 (by kernel_rfl) ((f24_eq base v0_0 v0_1 v0_2 v0_2n v0_3 v0_3n v0_4 v0_4n v0_5 h).trans hx)
/-! laws.toCell (gates 0) -/
theorem f25_eq (base : Nat) (v0_0 : Int) (v0_1 : Int) (v0_2 : Option Addr) (v0_2n : Nat) (v0_3 : Option Addr) (v0_3n : Nat) (v0_4 : Option Addr) (v0_4n : Nat) (v0_5 : Int) (h : AH) : exFun (Et base) (run (Et base)) loopL a25 Try.f25 [(.agg #[(.int .i64 v0_0), (.int .i64 v0_1), (.slice v0_2 v0_2n v0_2n), (.slice v0_3 v0_3n v0_3n), (.slice v0_4 v0_4n v0_4n), (.int .i64 v0_5)])] h =
((some (h ++ [some ⟨[(.int .i64 v0_0), (.int .i64 v0_1), (.slice v0_2 v0_2n v0_2n), (.slice v0_3 v0_3n v0_3n), (.slice v0_4 v0_4n v0_4n), (.int .i64 v0_5)], 32⟩])).bind fun h1 =>
(some (h1 ++ [some ⟨[(.int .i64 0), (.int .i64 0), (.slice none 0 0), (.slice none 0 0), (.slice none 0 0), (.int .i64 0)], 35⟩])).bind fun h2 =>
(some (h2 ++ [some ⟨[(.int .i64 0), (.int .i64 0), (.slice none 0 0), (.slice none 0 0), (.slice none 0 0), (.int .i64 0)], 35⟩])).bind fun h3 =>
((cell h3 (List.length h) 0).bind (getI .i64)).bind fun n4 =>
(wr base h3 (List.length h2) 0 [(.int .i64 n4)]).bind fun h5 =>
((cell h5 (List.length h) 1).bind (getI .i64)).bind fun n6 =>
(wr base h5 (List.length h2) 1 [(.int .i64 n6)]).bind fun h7 =>
((cell h7 (List.length h) 2).bind getS).bind fun l8 =>
(run (Et base) 64 [(.slice l8.1 l8.2 l8.2)] h7).bind fun r9 =>
((some r9.1).bind getS).bind fun l10 =>
(wr base r9.2 (List.length h2) 2 [(.slice l10.1 l10.2 l10.2)]).bind fun h11 =>
((cell h11 (List.length h) 3).bind getS).bind fun l12 =>
(run (Et base) 64 [(.slice l12.1 l12.2 l12.2)] h11).bind fun r13 =>
((some r13.1).bind getS).bind fun l14 =>
(wr base r13.2 (List.length h2) 3 [(.slice l14.1 l14.2 l14.2)]).bind fun h15 =>
((cell h15 (List.length h) 4).bind getS).bind fun l16 =>
(run (Et base) 64 [(.slice l16.1 l16.2 l16.2)] h15).bind fun r17 =>
((some r17.1).bind getS).bind fun l18 =>
(wr base r17.2 (List.length h2) 4 [(.slice l18.1 l18.2 l18.2)]).bind fun h19 =>
((cell h19 (List.length h) 5).bind (getI .i64)).bind fun n20 =>
(wr base h19 (List.length h2) 5 [(.int .i64 n20)]).bind fun h21 =>
((cell h21 (List.length h2) 0).bind (getI .i64)).bind fun n22 =>
((cell h21 (List.length h2) 1).bind (getI .i64)).bind fun n23 =>
((cell h21 (List.length h2) 2).bind getS).bind fun l24 =>
((cell h21 (List.length h2) 3).bind getS).bind fun l25 =>
((cell h21 (List.length h2) 4).bind getS).bind fun l26 =>
((cell h21 (List.length h2) 5).bind (getI .i64)).bind fun n27 =>
(wr base h21 (List.length h1) 0 [(.int .i64 n22), (.int .i64 n23), (.slice l24.1 l24.2 l24.2), (.slice l25.1 l25.2 l25.2), (.slice l26.1 l26.2 l26.2), (.int .i64 n27)]).bind fun h28 =>
((cell h28 (List.length h1) 0).bind (getI .i64)).bind fun n29 =>
((cell h28 (List.length h1) 1).bind (getI .i64)).bind fun n30 =>
((cell h28 (List.length h1) 2).bind getS).bind fun l31 =>
((cell h28 (List.length h1) 3).bind getS).bind fun l32 =>
((cell h28 (List.length h1) 4).bind getS).bind fun l33 =>
((cell h28 (List.length h1) 5).bind (getI .i64)).bind fun n34 =>
some ((.agg #[(.int .i64 n29), (.int .i64 n30), (.slice l31.1 l31.2 l31.2), (.slice l32.1 l32.2 l32.2), (.slice l33.1 l33.2 l33.2), (.int .i64 n34)]), h28) : Option (Value × AH)) := by kernel_rfl
theorem r25 {base : Nat} {v0_0 : Int} {v0_1 : Int} {v0_2 : Option Addr} {v0_2n : Nat} {v0_3 : Option Addr} {v0_3n : Nat} {v0_4 : Option Addr} {v0_4n : Nat} {v0_5 : Int} {h : AH} {r : Value × AH} (hx :
((some (h ++ [some ⟨[(.int .i64 v0_0), (.int .i64 v0_1), (.slice v0_2 v0_2n v0_2n), (.slice v0_3 v0_3n v0_3n), (.slice v0_4 v0_4n v0_4n), (.int .i64 v0_5)], 32⟩])).bind fun h1 =>
(some (h1 ++ [some ⟨[(.int .i64 0), (.int .i64 0), (.slice none 0 0), (.slice none 0 0), (.slice none 0 0), (.int .i64 0)], 35⟩])).bind fun h2 =>
(some (h2 ++ [some ⟨[(.int .i64 0), (.int .i64 0), (.slice none 0 0), (.slice none 0 0), (.slice none 0 0), (.int .i64 0)], 35⟩])).bind fun h3 =>
((cell h3 (List.length h) 0).bind (getI .i64)).bind fun n4 =>
(wr base h3 (List.length h2) 0 [(.int .i64 n4)]).bind fun h5 =>
((cell h5 (List.length h) 1).bind (getI .i64)).bind fun n6 =>
(wr base h5 (List.length h2) 1 [(.int .i64 n6)]).bind fun h7 =>
((cell h7 (List.length h) 2).bind getS).bind fun l8 =>
(run (Et base) 64 [(.slice l8.1 l8.2 l8.2)] h7).bind fun r9 =>
((some r9.1).bind getS).bind fun l10 =>
(wr base r9.2 (List.length h2) 2 [(.slice l10.1 l10.2 l10.2)]).bind fun h11 =>
((cell h11 (List.length h) 3).bind getS).bind fun l12 =>
(run (Et base) 64 [(.slice l12.1 l12.2 l12.2)] h11).bind fun r13 =>
((some r13.1).bind getS).bind fun l14 =>
(wr base r13.2 (List.length h2) 3 [(.slice l14.1 l14.2 l14.2)]).bind fun h15 =>
((cell h15 (List.length h) 4).bind getS).bind fun l16 =>
(run (Et base) 64 [(.slice l16.1 l16.2 l16.2)] h15).bind fun r17 =>
((some r17.1).bind getS).bind fun l18 =>
(wr base r17.2 (List.length h2) 4 [(.slice l18.1 l18.2 l18.2)]).bind fun h19 =>
((cell h19 (List.length h) 5).bind (getI .i64)).bind fun n20 =>
(wr base h19 (List.length h2) 5 [(.int .i64 n20)]).bind fun h21 =>
((cell h21 (List.length h2) 0).bind (getI .i64)).bind fun n22 =>
((cell h21 (List.length h2) 1).bind (getI .i64)).bind fun n23 =>
((cell h21 (List.length h2) 2).bind getS).bind fun l24 =>
((cell h21 (List.length h2) 3).bind getS).bind fun l25 =>
((cell h21 (List.length h2) 4).bind getS).bind fun l26 =>
((cell h21 (List.length h2) 5).bind (getI .i64)).bind fun n27 =>
(wr base h21 (List.length h1) 0 [(.int .i64 n22), (.int .i64 n23), (.slice l24.1 l24.2 l24.2), (.slice l25.1 l25.2 l25.2), (.slice l26.1 l26.2 l26.2), (.int .i64 n27)]).bind fun h28 =>
((cell h28 (List.length h1) 0).bind (getI .i64)).bind fun n29 =>
((cell h28 (List.length h1) 1).bind (getI .i64)).bind fun n30 =>
((cell h28 (List.length h1) 2).bind getS).bind fun l31 =>
((cell h28 (List.length h1) 3).bind getS).bind fun l32 =>
((cell h28 (List.length h1) 4).bind getS).bind fun l33 =>
((cell h28 (List.length h1) 5).bind (getI .i64)).bind fun n34 =>
some ((.agg #[(.int .i64 n29), (.int .i64 n30), (.slice l31.1 l31.2 l31.2), (.slice l32.1 l32.2 l32.2), (.slice l33.1 l33.2 l33.2), (.int .i64 n34)]), h28)) = some r) : run (Et base) 25 [(.agg #[(.int .i64 v0_0), (.int .i64 v0_1), (.slice v0_2 v0_2n v0_2n), (.slice v0_3 v0_3n v0_3n), (.slice v0_4 v0_4n v0_4n), (.int .i64 v0_5)])] h = some r := run_i Try.func25 (by kernel_rfl) ((f25_eq base v0_0 v0_1 v0_2 v0_2n v0_3 v0_3n v0_4 v0_4n v0_5 h).trans hx)
/-! impl.RootsOf (gates 1) -/
theorem f26_eq (base : Nat) (v0_0 : Int) (v0_1 : Int) (v0_2 : Option Addr) (v0_2n : Nat) (v0_3 : Option Addr) (v0_3n : Nat) (v0_4 : Option Addr) (v0_4n : Nat) (v0_5 : Int) (h : AH) : exFun (Et base) (run (Et base)) loopL a26 Try.f26 [(.agg #[(.int .i64 v0_0), (.int .i64 v0_1), (.slice v0_2 v0_2n v0_2n), (.slice v0_3 v0_3n v0_3n), (.slice v0_4 v0_4n v0_4n), (.int .i64 v0_5)])] h =
((some (h ++ [some ⟨[(.int .i64 v0_0), (.int .i64 v0_1), (.slice v0_2 v0_2n v0_2n), (.slice v0_3 v0_3n v0_3n), (.slice v0_4 v0_4n v0_4n), (.int .i64 v0_5)], 35⟩])).bind fun h1 =>
((cell h1 (List.length h) 2).bind getS).bind fun l2 =>
(run (Et base) 65 [(.slice l2.1 l2.2 l2.2)] h1).bind fun r3 =>
((some r3.1).bind getS).bind fun l4 =>
(gate (sameA h1 r3.2 (some ⟨(List.length h), 3, none⟩) 1)
(((cell r3.2 (List.length h) 3).bind getS).bind fun l5 =>
(app base r3.2 3 1 8 l4.1 l4.2 (rawAt r3.2 l5.1 (l5.2 * 1)) l5.2).bind fun p6 =>
((some p6.1).bind getS).bind fun l7 =>
some ((.slice l7.1 l7.2 l7.2), p6.2))) : Option (Value × AH)) := by kernel_rfl
theorem r26 {base : Nat} {v0_0 : Int} {v0_1 : Int} {v0_2 : Option Addr} {v0_2n : Nat} {v0_3 : Option Addr} {v0_3n : Nat} {v0_4 : Option Addr} {v0_4n : Nat} {v0_5 : Int} {h : AH} {r : Value × AH} (hx :
((some (h ++ [some ⟨[(.int .i64 v0_0), (.int .i64 v0_1), (.slice v0_2 v0_2n v0_2n), (.slice v0_3 v0_3n v0_3n), (.slice v0_4 v0_4n v0_4n), (.int .i64 v0_5)], 35⟩])).bind fun h1 =>
((cell h1 (List.length h) 2).bind getS).bind fun l2 =>
(run (Et base) 65 [(.slice l2.1 l2.2 l2.2)] h1).bind fun r3 =>
((some r3.1).bind getS).bind fun l4 =>
(gate (sameA h1 r3.2 (some ⟨(List.length h), 3, none⟩) 1)
(((cell r3.2 (List.length h) 3).bind getS).bind fun l5 =>
(app base r3.2 3 1 8 l4.1 l4.2 (rawAt r3.2 l5.1 (l5.2 * 1)) l5.2).bind fun p6 =>
((some p6.1).bind getS).bind fun l7 =>
some ((.slice l7.1 l7.2 l7.2), p6.2)))) = some r) : run (Et base) 26 [(.agg #[(.int .i64 v0_0), (.int .i64 v0_1), (.slice v0_2 v0_2n v0_2n), (.slice v0_3 v0_3n v0_3n), (.slice v0_4 v0_4n v0_4n), (.int .i64 v0_5)])] h = some r := run_i Try.func26 (by kernel_rfl) ((f26_eq base v0_0 v0_1 v0_2 v0_2n v0_3 v0_3n v0_4 v0_4n v0_5 h).trans hx)
/-! laws.eqIntS (gates 0) -/
noncomputable def B27_0 (base : Nat) : Body := fun l h => lay s27_0 l fun s => exCode (Et base) (run (Et base)) loopL a27_0 (subC [1, 1, 0, 1, 0, 0] (bodyC Try.f27)) s h (keepK s27_0 e27_0)
theorem B27_0_eq (base : Nat) (v0 : Option Addr) (v0n : Nat) (v1 : Option Addr) (v1n : Nat) (v5 : Int) (h : AH) : B27_0 base [some (.slice v0 v0n v0n), some (.slice v1 v1n v1n), some (.int .i64 v5)] h =
((if (decide (v5 < ((v0n : Nat) : Int))) = true then
(if 0 ≤ v5 ∧ v5 < ((v0n : Nat) : Int) then
((v0 : Option Addr)).bind fun a1 =>
((cell h a1.block (a1.off + Int.toNat v5 * 1)).bind (getI .i64)).bind fun n2 =>
(if 0 ≤ v5 ∧ v5 < ((v1n : Nat) : Int) then
((v1 : Option Addr)).bind fun a3 =>
((cell h a3.block (a3.off + Int.toNat v5 * 1)).bind (getI .i64)).bind fun n4 =>
(if (n2 != n4) = true then
some (1, [some (.bool false)], h)
else
some (0, [some (.slice v0 v0n v0n), some (.slice v1 v1n v1n), some (.int .i64 (IntKind.wrap .i64 (v5 + (1 : Int))))], h))
else none)
else none)
else
some (2, [], h)) : Option (Nat × Slots × AH)) := by kernel_rfl
theorem f27_eq (base : Nat) (v0 : Option Addr) (v0n : Nat) (v1 : Option Addr) (v1n : Nat) (h : AH) : exFun (Et base) (run (Et base)) loopL a27 Try.f27 [(.slice v0 v0n v0n), (.slice v1 v1n v1n)] h =
((if (((v0n : Nat) : Int) != ((v1n : Nat) : Int)) = true then
some ((.bool false), h)
else
(loopL (B27_0 base) [some (.slice v0 v0n v0n), some (.slice v1 v1n v1n), some (.int .i64 (0 : Int))] h).bind fun q1 =>
(if q1.1 = 1 then
((sget q1.2.1 0).bind getB).bind fun b2 =>
some ((.bool b2), q1.2.2)
else
(if q1.1 = 2 then
some ((.bool true), q1.2.2)
else
none))) : Option (Value × AH)) := by kernel_rfl
theorem r27 {base : Nat} {v0 : Option Addr} {v0n : Nat} {v1 : Option Addr} {v1n : Nat} {h : AH} {r : Value × AH} (hx :
((if (((v0n : Nat) : Int) != ((v1n : Nat) : Int)) = true then
some ((.bool false), h)
else
(loopL (B27_0 base) [some (.slice v0 v0n v0n), some (.slice v1 v1n v1n), some (.int .i64 (0 : Int))] h).bind fun q1 =>
(if q1.1 = 1 then
((sget q1.2.1 0).bind getB).bind fun b2 =>
some ((.bool b2), q1.2.2)
else
(if q1.1 = 2 then
some ((.bool true), q1.2.2)
else
none)))) = some r) : run (Et base) 27 [(.slice v0 v0n v0n), (.slice v1 v1n v1n)] h = some r := run_i Try.func27 (by kernel_rfl) ((f27_eq base v0 v0n v1 v1n h).trans hx)
/-! laws.eqCell (gates 0) -/
theorem f28_eq (base : Nat) (v0_0 : Int) (v0_1 : Int) (v0_2 : Option Addr) (v0_2n : Nat) (v0_3 : Option Addr) (v0_3n : Nat) (v0_4 : Option Addr) (v0_4n : Nat) (v0_5 : Int) (v1_0 : Int) (v1_1 : Int) (v1_2 : Option Addr) (v1_2n : Nat) (v1_3 : Option Addr) (v1_3n : Nat) (v1_4 : Option Addr) (v1_4n : Nat) (v1_5 : Int) (h : AH) : exFun (Et base) (run (Et base)) loopL a28 Try.f28 [(.agg #[(.int .i64 v0_0), (.int .i64 v0_1), (.slice v0_2 v0_2n v0_2n), (.slice v0_3 v0_3n v0_3n), (.slice v0_4 v0_4n v0_4n), (.int .i64 v0_5)]), (.agg #[(.int .i64 v1_0), (.int .i64 v1_1), (.slice v1_2 v1_2n v1_2n), (.slice v1_3 v1_3n v1_3n), (.slice v1_4 v1_4n v1_4n), (.int .i64 v1_5)])] h =
((some (h ++ [some ⟨[(.int .i64 v0_0), (.int .i64 v0_1), (.slice v0_2 v0_2n v0_2n), (.slice v0_3 v0_3n v0_3n), (.slice v0_4 v0_4n v0_4n), (.int .i64 v0_5)], 35⟩])).bind fun h1 =>
(some (h1 ++ [some ⟨[(.int .i64 v1_0), (.int .i64 v1_1), (.slice v1_2 v1_2n v1_2n), (.slice v1_3 v1_3n v1_3n), (.slice v1_4 v1_4n v1_4n), (.int .i64 v1_5)], 35⟩])).bind fun h2 =>
((cell h2 (List.length h) 0).bind (getI .i64)).bind fun n3 =>
((cell h2 (List.length h1) 0).bind (getI .i64)).bind fun n4 =>
(if (n3 != n4) = true then
some ((.bool false), h2)
else
((cell h2 (List.length h) 1).bind (getI .i64)).bind fun n5 =>
((cell h2 (List.length h1) 1).bind (getI .i64)).bind fun n6 =>
(if (n5 != n6) = true then
some ((.bool false), h2)
else
((cell h2 (List.length h) 2).bind getS).bind fun l7 =>
((cell h2 (List.length h1) 2).bind getS).bind fun l8 =>
(run (Et base) 27 [(.slice l7.1 l7.2 l7.2), (.slice l8.1 l8.2 l8.2)] h2).bind fun r9 =>
((some r9.1).bind getB).bind fun b10 =>
(if (!b10) = true then
some ((.bool false), r9.2)
else
((cell r9.2 (List.length h) 3).bind getS).bind fun l11 =>
((cell r9.2 (List.length h1) 3).bind getS).bind fun l12 =>
(run (Et base) 27 [(.slice l11.1 l11.2 l11.2), (.slice l12.1 l12.2 l12.2)] r9.2).bind fun r13 =>
((some r13.1).bind getB).bind fun b14 =>
(if (!b14) = true then
some ((.bool false), r13.2)
else
((cell r13.2 (List.length h) 4).bind getS).bind fun l15 =>
((cell r13.2 (List.length h1) 4).bind getS).bind fun l16 =>
(run (Et base) 27 [(.slice l15.1 l15.2 l15.2), (.slice l16.1 l16.2 l16.2)] r13.2).bind fun r17 =>
((some r17.1).bind getB).bind fun b18 =>
(if (!b18) = true then
some ((.bool false), r17.2)
else
((cell r17.2 (List.length h) 5).bind (getI .i64)).bind fun n19 =>
((cell r17.2 (List.length h1) 5).bind (getI .i64)).bind fun n20 =>
(if (n19 != n20) = true then
some ((.bool false), r17.2)
else
some ((.bool true), r17.2))))))) : Option (Value × AH)) := by kernel_rfl
theorem r28 {base : Nat} {v0_0 : Int} {v0_1 : Int} {v0_2 : Option Addr} {v0_2n : Nat} {v0_3 : Option Addr} {v0_3n : Nat} {v0_4 : Option Addr} {v0_4n : Nat} {v0_5 : Int} {v1_0 : Int} {v1_1 : Int} {v1_2 : Option Addr} {v1_2n : Nat} {v1_3 : Option Addr} {v1_3n : Nat} {v1_4 : Option Addr} {v1_4n : Nat} {v1_5 : Int} {h : AH} {r : Value × AH} (hx :
((some (h ++ [some ⟨[(.int .i64 v0_0), (.int .i64 v0_1), (.slice v0_2 v0_2n v0_2n), (.slice v0_3 v0_3n v0_3n), (.slice v0_4 v0_4n v0_4n), (.int .i64 v0_5)], 35⟩])).bind fun h1 =>
(some (h1 ++ [some ⟨[(.int .i64 v1_0), (.int .i64 v1_1), (.slice v1_2 v1_2n v1_2n), (.slice v1_3 v1_3n v1_3n), (.slice v1_4 v1_4n v1_4n), (.int .i64 v1_5)], 35⟩])).bind fun h2 =>
((cell h2 (List.length h) 0).bind (getI .i64)).bind fun n3 =>
((cell h2 (List.length h1) 0).bind (getI .i64)).bind fun n4 =>
(if (n3 != n4) = true then
some ((.bool false), h2)
else
((cell h2 (List.length h) 1).bind (getI .i64)).bind fun n5 =>
((cell h2 (List.length h1) 1).bind (getI .i64)).bind fun n6 =>
(if (n5 != n6) = true then
some ((.bool false), h2)
else
((cell h2 (List.length h) 2).bind getS).bind fun l7 =>
((cell h2 (List.length h1) 2).bind getS).bind fun l8 =>
(run (Et base) 27 [(.slice l7.1 l7.2 l7.2), (.slice l8.1 l8.2 l8.2)] h2).bind fun r9 =>
((some r9.1).bind getB).bind fun b10 =>
(if (!b10) = true then
some ((.bool false), r9.2)
else
((cell r9.2 (List.length h) 3).bind getS).bind fun l11 =>
((cell r9.2 (List.length h1) 3).bind getS).bind fun l12 =>
(run (Et base) 27 [(.slice l11.1 l11.2 l11.2), (.slice l12.1 l12.2 l12.2)] r9.2).bind fun r13 =>
((some r13.1).bind getB).bind fun b14 =>
(if (!b14) = true then
some ((.bool false), r13.2)
else
((cell r13.2 (List.length h) 4).bind getS).bind fun l15 =>
((cell r13.2 (List.length h1) 4).bind getS).bind fun l16 =>
(run (Et base) 27 [(.slice l15.1 l15.2 l15.2), (.slice l16.1 l16.2 l16.2)] r13.2).bind fun r17 =>
((some r17.1).bind getB).bind fun b18 =>
(if (!b18) = true then
some ((.bool false), r17.2)
else
((cell r17.2 (List.length h) 5).bind (getI .i64)).bind fun n19 =>
((cell r17.2 (List.length h1) 5).bind (getI .i64)).bind fun n20 =>
(if (n19 != n20) = true then
some ((.bool false), r17.2)
else
some ((.bool true), r17.2)))))))) = some r) : run (Et base) 28 [(.agg #[(.int .i64 v0_0), (.int .i64 v0_1), (.slice v0_2 v0_2n v0_2n), (.slice v0_3 v0_3n v0_3n), (.slice v0_4 v0_4n v0_4n), (.int .i64 v0_5)]), (.agg #[(.int .i64 v1_0), (.int .i64 v1_1), (.slice v1_2 v1_2n v1_2n), (.slice v1_3 v1_3n v1_3n), (.slice v1_4 v1_4n v1_4n), (.int .i64 v1_5)])] h = some r := run_i Try.func28 (by kernel_rfl) ((f28_eq base v0_0 v0_1 v0_2 v0_2n v0_3 v0_3n v0_4 v0_4n v0_5 v1_0 v1_1 v1_2 v1_2n v1_3 v1_3n v1_4 v1_4n v1_5 h).trans hx)
/-! laws.markCell (gates 0) -/
theorem f29_eq (base : Nat) (v0_0 : Int) (v0_1 : Int) (v0_2 : Option Addr) (v0_2n : Nat) (v0_3 : Option Addr) (v0_3n : Nat) (v0_4 : Option Addr) (v0_4n : Nat) (v0_5 : Int) (v1 : Int) (h : AH) : exFun (Et base) (run (Et base)) loopL a29 Try.f29 [(.agg #[(.int .i64 v0_0), (.int .i64 v0_1), (.slice v0_2 v0_2n v0_2n), (.slice v0_3 v0_3n v0_3n), (.slice v0_4 v0_4n v0_4n), (.int .i64 v0_5)]), (.int .i64 v1)] h =
((some (h ++ [some ⟨[(.int .i64 v0_0), (.int .i64 v0_1), (.slice v0_2 v0_2n v0_2n), (.slice v0_3 v0_3n v0_3n), (.slice v0_4 v0_4n v0_4n), (.int .i64 v0_5)], 35⟩])).bind fun h1 =>
((cell h1 (List.length h) 2).bind getS).bind fun l2 =>
(run (Et base) 30 [(.slice l2.1 l2.2 l2.2), (.int .i64 v1)] h1).bind fun r3 =>
((some r3.1).bind (getI .i64)).bind fun n4 =>
((cell r3.2 (List.length h) 3).bind getS).bind fun l5 =>
(run (Et base) 30 [(.slice l5.1 l5.2 l5.2), (.int .i64 n4)] r3.2).bind fun r6 =>
((some r6.1).bind (getI .i64)).bind fun n7 =>
((cell r6.2 (List.length h) 4).bind getS).bind fun l8 =>
(run (Et base) 30 [(.slice l8.1 l8.2 l8.2), (.int .i64 n7)] r6.2).bind fun r9 =>
((some r9.1).bind (getI .i64)).bind fun n10 =>
some ((.int .i64 n10), r9.2) : Option (Value × AH)) := by kernel_rfl
theorem r29 {base : Nat} {v0_0 : Int} {v0_1 : Int} {v0_2 : Option Addr} {v0_2n : Nat} {v0_3 : Option Addr} {v0_3n : Nat} {v0_4 : Option Addr} {v0_4n : Nat} {v0_5 : Int} {v1 : Int} {h : AH} {r : Value × AH} (hx :
((some (h ++ [some ⟨[(.int .i64 v0_0), (.int .i64 v0_1), (.slice v0_2 v0_2n v0_2n), (.slice v0_3 v0_3n v0_3n), (.slice v0_4 v0_4n v0_4n), (.int .i64 v0_5)], 35⟩])).bind fun h1 =>
((cell h1 (List.length h) 2).bind getS).bind fun l2 =>
(run (Et base) 30 [(.slice l2.1 l2.2 l2.2), (.int .i64 v1)] h1).bind fun r3 =>
((some r3.1).bind (getI .i64)).bind fun n4 =>
((cell r3.2 (List.length h) 3).bind getS).bind fun l5 =>
(run (Et base) 30 [(.slice l5.1 l5.2 l5.2), (.int .i64 n4)] r3.2).bind fun r6 =>
((some r6.1).bind (getI .i64)).bind fun n7 =>
((cell r6.2 (List.length h) 4).bind getS).bind fun l8 =>
(run (Et base) 30 [(.slice l8.1 l8.2 l8.2), (.int .i64 n7)] r6.2).bind fun r9 =>
((some r9.1).bind (getI .i64)).bind fun n10 =>
some ((.int .i64 n10), r9.2)) = some r) : run (Et base) 29 [(.agg #[(.int .i64 v0_0), (.int .i64 v0_1), (.slice v0_2 v0_2n v0_2n), (.slice v0_3 v0_3n v0_3n), (.slice v0_4 v0_4n v0_4n), (.int .i64 v0_5)]), (.int .i64 v1)] h = some r := run_i Try.func29 (by kernel_rfl) ((f29_eq base v0_0 v0_1 v0_2 v0_2n v0_3 v0_3n v0_4 v0_4n v0_5 v1 h).trans hx)
/-! laws.markIntS (gates 0) -/
noncomputable def B30_0 (base : Nat) : Body := fun l h => lay s30_0 l fun s => exCode (Et base) (run (Et base)) loopL a30_0 (subC [1, 0, 1, 0, 0] (bodyC Try.f30)) s h (keepK s30_0 e30_0)
theorem B30_0_eq (base : Nat) (v0 : Option Addr) (v0n : Nat) (v1 : Int) (v5 : Int) (h : AH) : B30_0 base [some (.slice v0 v0n v0n), some (.int .i64 v1), some (.int .i64 v5)] h =
((if (decide (v5 < ((v0n : Nat) : Int))) = true then
(if 0 ≤ v5 ∧ v5 < ((v0n : Nat) : Int) then
((v0 : Option Addr)).bind fun a1 =>
(wr base h a1.block (a1.off + Int.toNat v5 * 1) [(.int .i64 v1)]).bind fun h2 =>
some (0, [some (.slice v0 v0n v0n), some (.int .i64 (IntKind.wrap .i64 (v1 + (1 : Int)))), some (.int .i64 (IntKind.wrap .i64 (v5 + (1 : Int))))], h2)
else none)
else
some (2, [some (.int .i64 v1)], h)) : Option (Nat × Slots × AH)) := by kernel_rfl
theorem f30_eq (base : Nat) (v0 : Option Addr) (v0n : Nat) (v1 : Int) (h : AH) : exFun (Et base) (run (Et base)) loopL a30 Try.f30 [(.slice v0 v0n v0n), (.int .i64 v1)] h =
((loopL (B30_0 base) [some (.slice v0 v0n v0n), some (.int .i64 v1), some (.int .i64 (0 : Int))] h).bind fun q1 =>
(if q1.1 = 2 then
((sget q1.2.1 0).bind (getI .i64)).bind fun n2 =>
some ((.int .i64 n2), q1.2.2)
else
none) : Option (Value × AH)) := by kernel_rfl
theorem r30 {base : Nat} {v0 : Option Addr} {v0n : Nat} {v1 : Int} {h : AH} {r : Value × AH} (hx :
((loopL (B30_0 base) [some (.slice v0 v0n v0n), some (.int .i64 v1), some (.int .i64 (0 : Int))] h).bind fun q1 =>
(if q1.1 = 2 then
((sget q1.2.1 0).bind (getI .i64)).bind fun n2 =>
some ((.int .i64 n2), q1.2.2)
else
none)) = some r) : run (Et base) 30 [(.slice v0 v0n v0n), (.int .i64 v1)] h = some r := run_i Try.func30 (by kernel_rfl) ((f30_eq base v0 v0n v1 h).trans hx)
/-! laws.heldIntS (gates 0) -/
noncomputable def B31_0 (base : Nat) : Body := fun l h => lay s31_0 l fun s => exCode (Et base) (run (Et base)) loopL a31_0 (subC [1, 0, 1, 0, 0] (bodyC Try.f31)) s h (keepK s31_0 e31_0)
theorem B31_0_eq (base : Nat) (v0 : Option Addr) (v0n : Nat) (v1 : Int) (v5 : Int) (h : AH) : B31_0 base [some (.slice v0 v0n v0n), some (.int .i64 v1), some (.int .i64 v5)] h =
((if (decide (v5 < ((v0n : Nat) : Int))) = true then
(if 0 ≤ v5 ∧ v5 < ((v0n : Nat) : Int) then
((v0 : Option Addr)).bind fun a1 =>
((cell h a1.block (a1.off + Int.toNat v5 * 1)).bind (getI .i64)).bind fun n2 =>
(if (n2 != v1) = true then
some (1, [some (.int .i64 (-1 : Int))], h)
else
some (0, [some (.slice v0 v0n v0n), some (.int .i64 (IntKind.wrap .i64 (v1 + (1 : Int)))), some (.int .i64 (IntKind.wrap .i64 (v5 + (1 : Int))))], h))
else none)
else
some (2, [some (.int .i64 v1)], h)) : Option (Nat × Slots × AH)) := by kernel_rfl
theorem f31_eq (base : Nat) (v0 : Option Addr) (v0n : Nat) (v1 : Int) (h : AH) : exFun (Et base) (run (Et base)) loopL a31 Try.f31 [(.slice v0 v0n v0n), (.int .i64 v1)] h =
((loopL (B31_0 base) [some (.slice v0 v0n v0n), some (.int .i64 v1), some (.int .i64 (0 : Int))] h).bind fun q1 =>
(if q1.1 = 1 then
((sget q1.2.1 0).bind (getI .i64)).bind fun n2 =>
some ((.int .i64 n2), q1.2.2)
else
(if q1.1 = 2 then
((sget q1.2.1 0).bind (getI .i64)).bind fun n3 =>
some ((.int .i64 n3), q1.2.2)
else
none)) : Option (Value × AH)) := by kernel_rfl
theorem r31 {base : Nat} {v0 : Option Addr} {v0n : Nat} {v1 : Int} {h : AH} {r : Value × AH} (hx :
((loopL (B31_0 base) [some (.slice v0 v0n v0n), some (.int .i64 v1), some (.int .i64 (0 : Int))] h).bind fun q1 =>
(if q1.1 = 1 then
((sget q1.2.1 0).bind (getI .i64)).bind fun n2 =>
some ((.int .i64 n2), q1.2.2)
else
(if q1.1 = 2 then
((sget q1.2.1 0).bind (getI .i64)).bind fun n3 =>
some ((.int .i64 n3), q1.2.2)
else
none))) = some r) : run (Et base) 31 [(.slice v0 v0n v0n), (.int .i64 v1)] h = some r := run_i Try.func31 (by kernel_rfl) ((f31_eq base v0 v0n v1 h).trans hx)
/-! impl.addNum (gates 0) -/
noncomputable def B62_0 (base : Nat) : Body := fun l h => lay s62_0 l fun s => exCode (Et base) (run (Et base)) loopL a62_0 (subC [1, 1, 1, 1, 0, 0, 0] (bodyC Try.f62)) s h (keepK s62_0 e62_0)
theorem B62_0_eq (base : Nat) (v0 : Option Addr) (v0n : Nat) (v5 : Int) (h : AH) : B62_0 base [some (.slice v0 v0n v0n), some (.int .i64 v5)] h =
((if (decide (v5 > (127 : Int))) = true then
(some (h ++ [some ⟨[(.int .u8 (IntKind.wrap .u8 (IntKind.wrap .i64 ((Int.tmod v5 (128 : Int)) + (128 : Int)))))], 5⟩])).bind fun h1 =>
(app base h1 5 1 1 v0 v0n (rawAt h1 (some ⟨(List.length h), 0, none⟩) (1 * 1)) 1).bind fun p2 =>
((some p2.1).bind getS).bind fun l3 =>
some (0, [some (.slice l3.1 l3.2 l3.2), some (.int .i64 (IntKind.wrap .i64 (Int.tdiv v5 (128 : Int))))], p2.2)
else
some (2, [some (.slice v0 v0n v0n), some (.int .i64 v5)], h)) : Option (Nat × Slots × AH)) := by kernel_rfl
theorem f62_eq (base : Nat) (v0 : Option Addr) (v0n : Nat) (v1 : Int) (h : AH) : exFun (Et base) (run (Et base)) loopL a62 Try.f62 [(.slice v0 v0n v0n), (.int .i64 v1)] h =
(((if (decide ((if (if (1000000 : Int) < v1 then (1000000 : Int) else v1) > (-1000000 : Int) then (if (1000000 : Int) < v1 then (1000000 : Int) else v1) else (-1000000 : Int)) < (0 : Int))) = true then
some (.inl ([some (.slice v0 v0n v0n), some (.int .i64 (IntKind.wrap .i64 ((IntKind.wrap .i64 ((-2 : Int) * (if (if (1000000 : Int) < v1 then (1000000 : Int) else v1) > (-1000000 : Int) then (if (1000000 : Int) < v1 then (1000000 : Int) else v1) else (-1000000 : Int)))) - (1 : Int))))], h))
else
some (.inl ([some (.slice v0 v0n v0n), some (.int .i64 (IntKind.wrap .i64 ((2 : Int) * (if (if (1000000 : Int) < v1 then (1000000 : Int) else v1) > (-1000000 : Int) then (if (1000000 : Int) < v1 then (1000000 : Int) else v1) else (-1000000 : Int)))))], h)))).bind fun j1 => joinK j1 fun j1 =>
((sget j1.1 0).bind getS).bind fun l2 =>
((sget (j1.1.tail) 0).bind (getI .i64)).bind fun n3 =>
(loopL (B62_0 base) [some (.slice l2.1 l2.2 l2.2), some (.int .i64 n3)] j1.2).bind fun q4 =>
(if q4.1 = 2 then
((sget q4.2.1 0).bind getS).bind fun l5 =>
((sget (q4.2.1.tail) 0).bind (getI .i64)).bind fun n6 =>
(some (q4.2.2 ++ [some ⟨[(.int .u8 (IntKind.wrap .u8 n6))], 5⟩])).bind fun h7 =>
(app base h7 5 1 1 l5.1 l5.2 (rawAt h7 (some ⟨(List.length q4.2.2), 0, none⟩) (1 * 1)) 1).bind fun p8 =>
((some p8.1).bind getS).bind fun l9 =>
some ((.slice l9.1 l9.2 l9.2), p8.2)
else
none) : Option (Value × AH)) := by kernel_rfl
theorem r62 {base : Nat} {v0 : Option Addr} {v0n : Nat} {v1 : Int} {h : AH} {r : Value × AH} (hx :
(((if (decide ((if (if (1000000 : Int) < v1 then (1000000 : Int) else v1) > (-1000000 : Int) then (if (1000000 : Int) < v1 then (1000000 : Int) else v1) else (-1000000 : Int)) < (0 : Int))) = true then
some (.inl ([some (.slice v0 v0n v0n), some (.int .i64 (IntKind.wrap .i64 ((IntKind.wrap .i64 ((-2 : Int) * (if (if (1000000 : Int) < v1 then (1000000 : Int) else v1) > (-1000000 : Int) then (if (1000000 : Int) < v1 then (1000000 : Int) else v1) else (-1000000 : Int)))) - (1 : Int))))], h))
else
some (.inl ([some (.slice v0 v0n v0n), some (.int .i64 (IntKind.wrap .i64 ((2 : Int) * (if (if (1000000 : Int) < v1 then (1000000 : Int) else v1) > (-1000000 : Int) then (if (1000000 : Int) < v1 then (1000000 : Int) else v1) else (-1000000 : Int)))))], h)))).bind fun j1 => joinK j1 fun j1 =>
((sget j1.1 0).bind getS).bind fun l2 =>
((sget (j1.1.tail) 0).bind (getI .i64)).bind fun n3 =>
(loopL (B62_0 base) [some (.slice l2.1 l2.2 l2.2), some (.int .i64 n3)] j1.2).bind fun q4 =>
(if q4.1 = 2 then
((sget q4.2.1 0).bind getS).bind fun l5 =>
((sget (q4.2.1.tail) 0).bind (getI .i64)).bind fun n6 =>
(some (q4.2.2 ++ [some ⟨[(.int .u8 (IntKind.wrap .u8 n6))], 5⟩])).bind fun h7 =>
(app base h7 5 1 1 l5.1 l5.2 (rawAt h7 (some ⟨(List.length q4.2.2), 0, none⟩) (1 * 1)) 1).bind fun p8 =>
((some p8.1).bind getS).bind fun l9 =>
some ((.slice l9.1 l9.2 l9.2), p8.2)
else
none)) = some r) : run (Et base) 62 [(.slice v0 v0n v0n), (.int .i64 v1)] h = some r := run_i Try.func62 (by kernel_rfl) ((f62_eq base v0 v0n v1 h).trans hx)
/-! laws.szIntS (gates 0) -/
theorem f63_eq (base : Nat) (v0 : Option Addr) (v0n : Nat) (v1 : Int) (h : AH) : exFun (Et base) (run (Et base)) loopL a63 Try.f63 [(.slice v0 v0n v0n), (.int .i64 v1)] h =
((if (decide ((IntKind.wrap .i64 (v1 - ((v0n : Nat) : Int))) < (0 : Int))) = true then
some ((.int .i64 (-1 : Int)), h)
else
some ((.int .i64 (IntKind.wrap .i64 (v1 - ((v0n : Nat) : Int)))), h)) : Option (Value × AH)) := by kernel_rfl
theorem r63 {base : Nat} {v0 : Option Addr} {v0n : Nat} {v1 : Int} {h : AH} {r : Value × AH} (hx :
((if (decide ((IntKind.wrap .i64 (v1 - ((v0n : Nat) : Int))) < (0 : Int))) = true then
some ((.int .i64 (-1 : Int)), h)
else
some ((.int .i64 (IntKind.wrap .i64 (v1 - ((v0n : Nat) : Int)))), h))) = some r) : run (Et base) 63 [(.slice v0 v0n v0n), (.int .i64 v1)] h = some r := run_i Try.func63 (by kernel_rfl) ((f63_eq base v0 v0n v1 h).trans hx)
/-! laws.toIntS (gates 0) -/
noncomputable def B64_0 (base : Nat) : Body := fun l h => lay s64_0 l fun s => exCode (Et base) (run (Et base)) loopL a64_0 (subC [1, 1, 0, 1, 0, 0] (bodyC Try.f64)) s h (keepK s64_0 e64_0)
theorem B64_0_eq (base : Nat) (v0 : Option Addr) (v0n : Nat) (v3 : Option Addr) (v3n : Nat) (v4 : Int) (h : AH) : B64_0 base [some (.slice v0 v0n v0n), some (.slice v3 v3n v3n), some (.int .i64 v4)] h =
((if (decide (v4 < ((v0n : Nat) : Int))) = true then
(if 0 ≤ v4 ∧ v4 < ((v0n : Nat) : Int) then
((v0 : Option Addr)).bind fun a1 =>
((cell h a1.block (a1.off + Int.toNat v4 * 1)).bind (getI .i64)).bind fun n2 =>
(if 0 ≤ v4 ∧ v4 < ((v3n : Nat) : Int) then
((v3 : Option Addr)).bind fun a3 =>
(wr base h a3.block (a3.off + Int.toNat v4 * 1) [(.int .i64 n2)]).bind fun h4 =>
some (0, [some (.slice v0 v0n v0n), some (.slice v3 v3n v3n), some (.int .i64 (IntKind.wrap .i64 (v4 + (1 : Int))))], h4)
else none)
else none)
else
some (2, [some (.slice v3 v3n v3n)], h)) : Option (Nat × Slots × AH)) := by kernel_rfl
theorem f64_eq (base : Nat) (v0 : Option Addr) (v0n : Nat) (h : AH) : exFun (Et base) (run (Et base)) loopL a64 Try.f64 [(.slice v0 v0n v0n)] h =
((if ((v0n : Nat) : Int) = ((v0n : Nat) : Int) ∧ 0 ≤ ((v0n : Nat) : Int) ∧ ((v0n : Nat) : Int) * 8 ≤ 140737488355328 ∧ ((v0n : Nat) : Int) ≤ 140737488355328 then
(some (h ++ [some ⟨rep [(.int .i64 0)] (Int.toNat ((v0n : Nat) : Int)), 3⟩])).bind fun h1 =>
(loopL (B64_0 base) [some (.slice v0 v0n v0n), some (.slice (some ⟨(List.length h), 0, none⟩) (Int.toNat ((v0n : Nat) : Int)) (Int.toNat ((v0n : Nat) : Int))), some (.int .i64 (0 : Int))] h1).bind fun q2 =>
(if q2.1 = 2 then
((sget q2.2.1 0).bind getS).bind fun l3 =>
some ((.slice l3.1 l3.2 l3.2), q2.2.2)
else
none)
else none) : Option (Value × AH)) := by kernel_rfl
theorem r64 {base : Nat} {v0 : Option Addr} {v0n : Nat} {h : AH} {r : Value × AH} (hx :
((if ((v0n : Nat) : Int) = ((v0n : Nat) : Int) ∧ 0 ≤ ((v0n : Nat) : Int) ∧ ((v0n : Nat) : Int) * 8 ≤ 140737488355328 ∧ ((v0n : Nat) : Int) ≤ 140737488355328 then
(some (h ++ [some ⟨rep [(.int .i64 0)] (Int.toNat ((v0n : Nat) : Int)), 3⟩])).bind fun h1 =>
(loopL (B64_0 base) [some (.slice v0 v0n v0n), some (.slice (some ⟨(List.length h), 0, none⟩) (Int.toNat ((v0n : Nat) : Int)) (Int.toNat ((v0n : Nat) : Int))), some (.int .i64 (0 : Int))] h1).bind fun q2 =>
(if q2.1 = 2 then
((sget q2.2.1 0).bind getS).bind fun l3 =>
some ((.slice l3.1 l3.2 l3.2), q2.2.2)
else
none)
else none)) = some r) : run (Et base) 64 [(.slice v0 v0n v0n)] h = some r := run_i Try.func64 (by kernel_rfl) ((f64_eq base v0 v0n h).trans hx)
/-! impl.copyInts (gates 0) -/
theorem f65_eq (base : Nat) (v0 : Option Addr) (v0n : Nat) (h : AH) : exFun (Et base) (run (Et base)) loopL a65 Try.f65 [(.slice v0 v0n v0n)] h =
((app base h 3 1 8 none 0 (rawAt h v0 (v0n * 1)) v0n).bind fun p1 =>
((some p1.1).bind getS).bind fun l2 =>
some ((.slice l2.1 l2.2 l2.2), p1.2) : Option (Value × AH)) := by kernel_rfl
theorem r65 {base : Nat} {v0 : Option Addr} {v0n : Nat} {h : AH} {r : Value × AH} (hx :
((app base h 3 1 8 none 0 (rawAt h v0 (v0n * 1)) v0n).bind fun p1 =>
((some p1.1).bind getS).bind fun l2 =>
some ((.slice l2.1 l2.2 l2.2), p1.2)) = some r) : run (Et base) 65 [(.slice v0 v0n v0n)] h = some r := run_i Try.func65 (by kernel_rfl) ((f65_eq base v0 v0n h).trans hx)
/-! laws.szTerm (gates 0) -/
theorem f98_eq (base : Nat) (v0_0 : Int) (v0_1 : Int) (v0_2 : ByteArray) (v0_3 : Option Addr) (v0_3n : Nat) (v1 : Int) (h : AH) : exFun (Et base) (run (Et base)) loopL a98 Try.f98 [(.agg #[(.int .i64 v0_0), (.int .i64 v0_1), (.string v0_2), (.slice v0_3 v0_3n v0_3n)]), (.int .i64 v1)] h =
((some (h ++ [some ⟨[(.int .i64 v0_0), (.int .i64 v0_1), (.string v0_2), (.slice v0_3 v0_3n v0_3n)], 95⟩])).bind fun h1 =>
((cell h1 (List.length h) 2).bind getStr).bind fun s2 =>
(if (decide ((IntKind.wrap .i64 (v1 - (s2.size : Int))) < (0 : Int))) = true then
some ((.int .i64 (-1 : Int)), h1)
else
((cell h1 (List.length h) 3).bind getS).bind fun l3 =>
(run (Et base) 108 [(.slice l3.1 l3.2 l3.2), (.int .i64 (IntKind.wrap .i64 (v1 - (s2.size : Int))))] h1).bind fun r4 =>
((some r4.1).bind (getI .i64)).bind fun n5 =>
(if (decide (n5 < (0 : Int))) = true then
some ((.int .i64 (-1 : Int)), r4.2)
else
some ((.int .i64 n5), r4.2))) : Option (Value × AH)) := by kernel_rfl
theorem r98 {base : Nat} {v0_0 : Int} {v0_1 : Int} {v0_2 : ByteArray} {v0_3 : Option Addr} {v0_3n : Nat} {v1 : Int} {h : AH} {r : Value × AH} (hx :
((some (h ++ [some ⟨[(.int .i64 v0_0), (.int .i64 v0_1), (.string v0_2), (.slice v0_3 v0_3n v0_3n)], 95⟩])).bind fun h1 =>
((cell h1 (List.length h) 2).bind getStr).bind fun s2 =>
(if (decide ((IntKind.wrap .i64 (v1 - (s2.size : Int))) < (0 : Int))) = true then
some ((.int .i64 (-1 : Int)), h1)
else
((cell h1 (List.length h) 3).bind getS).bind fun l3 =>
(run (Et base) 108 [(.slice l3.1 l3.2 l3.2), (.int .i64 (IntKind.wrap .i64 (v1 - (s2.size : Int))))] h1).bind fun r4 =>
((some r4.1).bind (getI .i64)).bind fun n5 =>
(if (decide (n5 < (0 : Int))) = true then
some ((.int .i64 (-1 : Int)), r4.2)
else
some ((.int .i64 n5), r4.2)))) = some r) : run (Et base) 98 [(.agg #[(.int .i64 v0_0), (.int .i64 v0_1), (.string v0_2), (.slice v0_3 v0_3n v0_3n)]), (.int .i64 v1)] h = some r := run_i Try.func98 (by kernel_rfl) ((f98_eq base v0_0 v0_1 v0_2 v0_3 v0_3n v1 h).trans hx)
/-! laws.szTermS (gates 0) -/
noncomputable def B108_0 (base : Nat) : Body := fun l h => lay s108_0 l fun s => exCode (Et base) (run (Et base)) loopL a108_0 (subC [1, 1, 1, 0, 1, 0, 0] (bodyC Try.f108)) s h (keepK s108_0 e108_0)
theorem B108_0_eq (base : Nat) (v0 : Option Addr) (v0n : Nat) (v1 : Int) (v5 : Int) (h : AH) : B108_0 base [some (.slice v0 v0n v0n), some (.int .i64 v1), some (.int .i64 v5)] h =
((if (decide (v5 < ((v0n : Nat) : Int))) = true then
(if 0 ≤ v5 ∧ v5 < ((v0n : Nat) : Int) then
((v0 : Option Addr)).bind fun a1 =>
((cell h a1.block (a1.off + Int.toNat v5 * 4)).bind (getI .i64)).bind fun n2 =>
((cell h a1.block ((a1.off + Int.toNat v5 * 4) + 1)).bind (getI .i64)).bind fun n3 =>
((cell h a1.block (((a1.off + Int.toNat v5 * 4) + 1) + 1)).bind getStr).bind fun s4 =>
((cell h a1.block ((((a1.off + Int.toNat v5 * 4) + 1) + 1) + 1)).bind getS).bind fun l5 =>
(run (Et base) 98 [(.agg #[(.int .i64 n2), (.int .i64 n3), (.string s4), (.slice l5.1 l5.2 l5.2)]), (.int .i64 v1)] h).bind fun r6 =>
((some r6.1).bind (getI .i64)).bind fun n7 =>
(if (decide (n7 < (0 : Int))) = true then
some (1, [some (.int .i64 (-1 : Int))], r6.2)
else
some (0, [some (.slice v0 v0n v0n), some (.int .i64 n7), some (.int .i64 (IntKind.wrap .i64 (v5 + (1 : Int))))], r6.2))
else none)
else
some (2, [some (.int .i64 v1)], h)) : Option (Nat × Slots × AH)) := by kernel_rfl
theorem f108_eq (base : Nat) (v0 : Option Addr) (v0n : Nat) (v1 : Int) (h : AH) : exFun (Et base) (run (Et base)) loopL a108 Try.f108 [(.slice v0 v0n v0n), (.int .i64 v1)] h =
((if (decide ((IntKind.wrap .i64 (v1 - ((v0n : Nat) : Int))) < (0 : Int))) = true then
some ((.int .i64 (-1 : Int)), h)
else
(loopL (B108_0 base) [some (.slice v0 v0n v0n), some (.int .i64 (IntKind.wrap .i64 (v1 - ((v0n : Nat) : Int)))), some (.int .i64 (0 : Int))] h).bind fun q1 =>
(if q1.1 = 1 then
((sget q1.2.1 0).bind (getI .i64)).bind fun n2 =>
some ((.int .i64 n2), q1.2.2)
else
(if q1.1 = 2 then
((sget q1.2.1 0).bind (getI .i64)).bind fun n3 =>
some ((.int .i64 n3), q1.2.2)
else
none))) : Option (Value × AH)) := by kernel_rfl
theorem r108 {base : Nat} {v0 : Option Addr} {v0n : Nat} {v1 : Int} {h : AH} {r : Value × AH} (hx :
((if (decide ((IntKind.wrap .i64 (v1 - ((v0n : Nat) : Int))) < (0 : Int))) = true then
some ((.int .i64 (-1 : Int)), h)
else
(loopL (B108_0 base) [some (.slice v0 v0n v0n), some (.int .i64 (IntKind.wrap .i64 (v1 - ((v0n : Nat) : Int)))), some (.int .i64 (0 : Int))] h).bind fun q1 =>
(if q1.1 = 1 then
((sget q1.2.1 0).bind (getI .i64)).bind fun n2 =>
some ((.int .i64 n2), q1.2.2)
else
(if q1.1 = 2 then
((sget q1.2.1 0).bind (getI .i64)).bind fun n3 =>
some ((.int .i64 n3), q1.2.2)
else
none)))) = some r) : run (Et base) 108 [(.slice v0 v0n v0n), (.int .i64 v1)] h = some r := run_i Try.func108 (by kernel_rfl) ((f108_eq base v0 v0n v1 h).trans hx)
/-! laws.toTerm (gates 0) -/
theorem f99_eq (base : Nat) (v0_0 : Int) (v0_1 : Int) (v0_2 : ByteArray) (v0_3 : Option Addr) (v0_3n : Nat) (h : AH) : exFun (Et base) (run (Et base)) loopL a99 Try.f99 [(.agg #[(.int .i64 v0_0), (.int .i64 v0_1), (.string v0_2), (.slice v0_3 v0_3n v0_3n)])] h =
((some (h ++ [some ⟨[(.int .i64 v0_0), (.int .i64 v0_1), (.string v0_2), (.slice v0_3 v0_3n v0_3n)], 95⟩])).bind fun h1 =>
(some (h1 ++ [some ⟨[(.int .i64 0), (.int .i64 0), (.string ⟨#[]⟩), (.slice none 0 0)], 48⟩])).bind fun h2 =>
(some (h2 ++ [some ⟨[(.int .i64 0), (.int .i64 0), (.string ⟨#[]⟩), (.slice none 0 0)], 48⟩])).bind fun h3 =>
((cell h3 (List.length h) 0).bind (getI .i64)).bind fun n4 =>
(wr base h3 (List.length h2) 0 [(.int .i64 n4)]).bind fun h5 =>
((cell h5 (List.length h) 1).bind (getI .i64)).bind fun n6 =>
(wr base h5 (List.length h2) 1 [(.int .i64 n6)]).bind fun h7 =>
((cell h7 (List.length h) 2).bind getStr).bind fun s8 =>
(wr base h7 (List.length h2) 2 [(.string s8)]).bind fun h9 =>
((cell h9 (List.length h) 3).bind getS).bind fun l10 =>
(run (Et base) 109 [(.slice l10.1 l10.2 l10.2)] h9).bind fun r11 =>
((some r11.1).bind getS).bind fun l12 =>
(wr base r11.2 (List.length h2) 3 [(.slice l12.1 l12.2 l12.2)]).bind fun h13 =>
((cell h13 (List.length h2) 0).bind (getI .i64)).bind fun n14 =>
((cell h13 (List.length h2) 1).bind (getI .i64)).bind fun n15 =>
((cell h13 (List.length h2) 2).bind getStr).bind fun s16 =>
((cell h13 (List.length h2) 3).bind getS).bind fun l17 =>
(wr base h13 (List.length h1) 0 [(.int .i64 n14), (.int .i64 n15), (.string s16), (.slice l17.1 l17.2 l17.2)]).bind fun h18 =>
((cell h18 (List.length h1) 0).bind (getI .i64)).bind fun n19 =>
((cell h18 (List.length h1) 1).bind (getI .i64)).bind fun n20 =>
((cell h18 (List.length h1) 2).bind getStr).bind fun s21 =>
((cell h18 (List.length h1) 3).bind getS).bind fun l22 =>
some ((.agg #[(.int .i64 n19), (.int .i64 n20), (.string s21), (.slice l22.1 l22.2 l22.2)]), h18) : Option (Value × AH)) := by kernel_rfl
theorem r99 {base : Nat} {v0_0 : Int} {v0_1 : Int} {v0_2 : ByteArray} {v0_3 : Option Addr} {v0_3n : Nat} {h : AH} {r : Value × AH} (hx :
((some (h ++ [some ⟨[(.int .i64 v0_0), (.int .i64 v0_1), (.string v0_2), (.slice v0_3 v0_3n v0_3n)], 95⟩])).bind fun h1 =>
(some (h1 ++ [some ⟨[(.int .i64 0), (.int .i64 0), (.string ⟨#[]⟩), (.slice none 0 0)], 48⟩])).bind fun h2 =>
(some (h2 ++ [some ⟨[(.int .i64 0), (.int .i64 0), (.string ⟨#[]⟩), (.slice none 0 0)], 48⟩])).bind fun h3 =>
((cell h3 (List.length h) 0).bind (getI .i64)).bind fun n4 =>
(wr base h3 (List.length h2) 0 [(.int .i64 n4)]).bind fun h5 =>
((cell h5 (List.length h) 1).bind (getI .i64)).bind fun n6 =>
(wr base h5 (List.length h2) 1 [(.int .i64 n6)]).bind fun h7 =>
((cell h7 (List.length h) 2).bind getStr).bind fun s8 =>
(wr base h7 (List.length h2) 2 [(.string s8)]).bind fun h9 =>
((cell h9 (List.length h) 3).bind getS).bind fun l10 =>
(run (Et base) 109 [(.slice l10.1 l10.2 l10.2)] h9).bind fun r11 =>
((some r11.1).bind getS).bind fun l12 =>
(wr base r11.2 (List.length h2) 3 [(.slice l12.1 l12.2 l12.2)]).bind fun h13 =>
((cell h13 (List.length h2) 0).bind (getI .i64)).bind fun n14 =>
((cell h13 (List.length h2) 1).bind (getI .i64)).bind fun n15 =>
((cell h13 (List.length h2) 2).bind getStr).bind fun s16 =>
((cell h13 (List.length h2) 3).bind getS).bind fun l17 =>
(wr base h13 (List.length h1) 0 [(.int .i64 n14), (.int .i64 n15), (.string s16), (.slice l17.1 l17.2 l17.2)]).bind fun h18 =>
((cell h18 (List.length h1) 0).bind (getI .i64)).bind fun n19 =>
((cell h18 (List.length h1) 1).bind (getI .i64)).bind fun n20 =>
((cell h18 (List.length h1) 2).bind getStr).bind fun s21 =>
((cell h18 (List.length h1) 3).bind getS).bind fun l22 =>
some ((.agg #[(.int .i64 n19), (.int .i64 n20), (.string s21), (.slice l22.1 l22.2 l22.2)]), h18)) = some r) : run (Et base) 99 [(.agg #[(.int .i64 v0_0), (.int .i64 v0_1), (.string v0_2), (.slice v0_3 v0_3n v0_3n)])] h = some r := run_i Try.func99 (by kernel_rfl) ((f99_eq base v0_0 v0_1 v0_2 v0_3 v0_3n h).trans hx)
/-! laws.toTermS (gates 0) -/
noncomputable def B109_0 (base : Nat) : Body := fun l h => lay s109_0 l fun s => exCode (Et base) (run (Et base)) loopL a109_0 (subC [1, 1, 0, 1, 0, 0] (bodyC Try.f109)) s h (keepK s109_0 e109_0)
theorem B109_0_eq (base : Nat) (v0 : Option Addr) (v0n : Nat) (v3 : Option Addr) (v3n : Nat) (v4 : Int) (h : AH) : B109_0 base [some (.slice v0 v0n v0n), some (.slice v3 v3n v3n), some (.int .i64 v4)] h =
((if (decide (v4 < ((v0n : Nat) : Int))) = true then
(if 0 ≤ v4 ∧ v4 < ((v0n : Nat) : Int) then
((v0 : Option Addr)).bind fun a1 =>
((cell h a1.block (a1.off + Int.toNat v4 * 4)).bind (getI .i64)).bind fun n2 =>
((cell h a1.block ((a1.off + Int.toNat v4 * 4) + 1)).bind (getI .i64)).bind fun n3 =>
((cell h a1.block (((a1.off + Int.toNat v4 * 4) + 1) + 1)).bind getStr).bind fun s4 =>
((cell h a1.block ((((a1.off + Int.toNat v4 * 4) + 1) + 1) + 1)).bind getS).bind fun l5 =>
(run (Et base) 99 [(.agg #[(.int .i64 n2), (.int .i64 n3), (.string s4), (.slice l5.1 l5.2 l5.2)])] h).bind fun r6 =>
((some r6.1).bind (getAgg 4)).bind fun l7 =>
((l7[0]?).bind (getI .i64)).bind fun n8 =>
((l7[1]?).bind (getI .i64)).bind fun n9 =>
((l7[2]?).bind getStr).bind fun s10 =>
((l7[3]?).bind getS).bind fun l11 =>
(if 0 ≤ v4 ∧ v4 < ((v3n : Nat) : Int) then
((v3 : Option Addr)).bind fun a12 =>
(wr base r6.2 a12.block (a12.off + Int.toNat v4 * 4) [(.int .i64 n8), (.int .i64 n9), (.string s10), (.slice l11.1 l11.2 l11.2)]).bind fun h13 =>
some (0, [some (.slice v0 v0n v0n), some (.slice v3 v3n v3n), some (.int .i64 (IntKind.wrap .i64 (v4 + (1 : Int))))], h13)
else none)
else none)
else
some (2, [some (.slice v3 v3n v3n)], h)) : Option (Nat × Slots × AH)) := by kernel_rfl
theorem f109_eq (base : Nat) (v0 : Option Addr) (v0n : Nat) (h : AH) : exFun (Et base) (run (Et base)) loopL a109 Try.f109 [(.slice v0 v0n v0n)] h =
((if ((v0n : Nat) : Int) = ((v0n : Nat) : Int) ∧ 0 ≤ ((v0n : Nat) : Int) ∧ ((v0n : Nat) : Int) * 56 ≤ 140737488355328 ∧ ((v0n : Nat) : Int) ≤ 140737488355328 then
(some (h ++ [some ⟨rep [(.int .i64 0), (.int .i64 0), (.string ⟨#[]⟩), (.slice none 0 0)] (Int.toNat ((v0n : Nat) : Int)), 48⟩])).bind fun h1 =>
(loopL (B109_0 base) [some (.slice v0 v0n v0n), some (.slice (some ⟨(List.length h), 0, none⟩) (Int.toNat ((v0n : Nat) : Int)) (Int.toNat ((v0n : Nat) : Int))), some (.int .i64 (0 : Int))] h1).bind fun q2 =>
(if q2.1 = 2 then
((sget q2.2.1 0).bind getS).bind fun l3 =>
some ((.slice l3.1 l3.2 l3.2), q2.2.2)
else
none)
else none) : Option (Value × AH)) := by kernel_rfl
theorem r109 {base : Nat} {v0 : Option Addr} {v0n : Nat} {h : AH} {r : Value × AH} (hx :
((if ((v0n : Nat) : Int) = ((v0n : Nat) : Int) ∧ 0 ≤ ((v0n : Nat) : Int) ∧ ((v0n : Nat) : Int) * 56 ≤ 140737488355328 ∧ ((v0n : Nat) : Int) ≤ 140737488355328 then
(some (h ++ [some ⟨rep [(.int .i64 0), (.int .i64 0), (.string ⟨#[]⟩), (.slice none 0 0)] (Int.toNat ((v0n : Nat) : Int)), 48⟩])).bind fun h1 =>
(loopL (B109_0 base) [some (.slice v0 v0n v0n), some (.slice (some ⟨(List.length h), 0, none⟩) (Int.toNat ((v0n : Nat) : Int)) (Int.toNat ((v0n : Nat) : Int))), some (.int .i64 (0 : Int))] h1).bind fun q2 =>
(if q2.1 = 2 then
((sget q2.2.1 0).bind getS).bind fun l3 =>
some ((.slice l3.1 l3.2 l3.2), q2.2.2)
else
none)
else none)) = some r) : run (Et base) 109 [(.slice v0 v0n v0n)] h = some r := run_i Try.func109 (by kernel_rfl) ((f109_eq base v0 v0n h).trans hx)
/-! laws.eqTerm (gates 0) -/
theorem f100_eq (base : Nat) (v0_0 : Int) (v0_1 : Int) (v0_2 : ByteArray) (v0_3 : Option Addr) (v0_3n : Nat) (v1_0 : Int) (v1_1 : Int) (v1_2 : ByteArray) (v1_3 : Option Addr) (v1_3n : Nat) (h : AH) : exFun (Et base) (run (Et base)) loopL a100 Try.f100 [(.agg #[(.int .i64 v0_0), (.int .i64 v0_1), (.string v0_2), (.slice v0_3 v0_3n v0_3n)]), (.agg #[(.int .i64 v1_0), (.int .i64 v1_1), (.string v1_2), (.slice v1_3 v1_3n v1_3n)])] h =
((some (h ++ [some ⟨[(.int .i64 v0_0), (.int .i64 v0_1), (.string v0_2), (.slice v0_3 v0_3n v0_3n)], 48⟩])).bind fun h1 =>
(some (h1 ++ [some ⟨[(.int .i64 v1_0), (.int .i64 v1_1), (.string v1_2), (.slice v1_3 v1_3n v1_3n)], 48⟩])).bind fun h2 =>
((cell h2 (List.length h) 0).bind (getI .i64)).bind fun n3 =>
((cell h2 (List.length h1) 0).bind (getI .i64)).bind fun n4 =>
(if (n3 != n4) = true then
some ((.bool false), h2)
else
((cell h2 (List.length h) 1).bind (getI .i64)).bind fun n5 =>
((cell h2 (List.length h1) 1).bind (getI .i64)).bind fun n6 =>
(if (n5 != n6) = true then
some ((.bool false), h2)
else
((cell h2 (List.length h) 2).bind getStr).bind fun s7 =>
((cell h2 (List.length h1) 2).bind getStr).bind fun s8 =>
(if (!(s7.toList == s8.toList)) = true then
some ((.bool false), h2)
else
((cell h2 (List.length h) 3).bind getS).bind fun l9 =>
((cell h2 (List.length h1) 3).bind getS).bind fun l10 =>
(run (Et base) 110 [(.slice l9.1 l9.2 l9.2), (.slice l10.1 l10.2 l10.2)] h2).bind fun r11 =>
((some r11.1).bind getB).bind fun b12 =>
(if (!b12) = true then
some ((.bool false), r11.2)
else
some ((.bool true), r11.2))))) : Option (Value × AH)) := by kernel_rfl
theorem r100 {base : Nat} {v0_0 : Int} {v0_1 : Int} {v0_2 : ByteArray} {v0_3 : Option Addr} {v0_3n : Nat} {v1_0 : Int} {v1_1 : Int} {v1_2 : ByteArray} {v1_3 : Option Addr} {v1_3n : Nat} {h : AH} {r : Value × AH} (hx :
((some (h ++ [some ⟨[(.int .i64 v0_0), (.int .i64 v0_1), (.string v0_2), (.slice v0_3 v0_3n v0_3n)], 48⟩])).bind fun h1 =>
(some (h1 ++ [some ⟨[(.int .i64 v1_0), (.int .i64 v1_1), (.string v1_2), (.slice v1_3 v1_3n v1_3n)], 48⟩])).bind fun h2 =>
((cell h2 (List.length h) 0).bind (getI .i64)).bind fun n3 =>
((cell h2 (List.length h1) 0).bind (getI .i64)).bind fun n4 =>
(if (n3 != n4) = true then
some ((.bool false), h2)
else
((cell h2 (List.length h) 1).bind (getI .i64)).bind fun n5 =>
((cell h2 (List.length h1) 1).bind (getI .i64)).bind fun n6 =>
(if (n5 != n6) = true then
some ((.bool false), h2)
else
((cell h2 (List.length h) 2).bind getStr).bind fun s7 =>
((cell h2 (List.length h1) 2).bind getStr).bind fun s8 =>
(if (!(s7.toList == s8.toList)) = true then
some ((.bool false), h2)
else
((cell h2 (List.length h) 3).bind getS).bind fun l9 =>
((cell h2 (List.length h1) 3).bind getS).bind fun l10 =>
(run (Et base) 110 [(.slice l9.1 l9.2 l9.2), (.slice l10.1 l10.2 l10.2)] h2).bind fun r11 =>
((some r11.1).bind getB).bind fun b12 =>
(if (!b12) = true then
some ((.bool false), r11.2)
else
some ((.bool true), r11.2)))))) = some r) : run (Et base) 100 [(.agg #[(.int .i64 v0_0), (.int .i64 v0_1), (.string v0_2), (.slice v0_3 v0_3n v0_3n)]), (.agg #[(.int .i64 v1_0), (.int .i64 v1_1), (.string v1_2), (.slice v1_3 v1_3n v1_3n)])] h = some r := run_i Try.func100 (by kernel_rfl) ((f100_eq base v0_0 v0_1 v0_2 v0_3 v0_3n v1_0 v1_1 v1_2 v1_3 v1_3n h).trans hx)
/-! laws.eqTermS (gates 0) -/
noncomputable def B110_0 (base : Nat) : Body := fun l h => lay s110_0 l fun s => exCode (Et base) (run (Et base)) loopL a110_0 (subC [1, 1, 0, 1, 0, 0] (bodyC Try.f110)) s h (keepK s110_0 e110_0)
theorem B110_0_eq (base : Nat) (v0 : Option Addr) (v0n : Nat) (v1 : Option Addr) (v1n : Nat) (v5 : Int) (h : AH) : B110_0 base [some (.slice v0 v0n v0n), some (.slice v1 v1n v1n), some (.int .i64 v5)] h =
((if (decide (v5 < ((v0n : Nat) : Int))) = true then
(if 0 ≤ v5 ∧ v5 < ((v0n : Nat) : Int) then
((v0 : Option Addr)).bind fun a1 =>
((cell h a1.block (a1.off + Int.toNat v5 * 4)).bind (getI .i64)).bind fun n2 =>
((cell h a1.block ((a1.off + Int.toNat v5 * 4) + 1)).bind (getI .i64)).bind fun n3 =>
((cell h a1.block (((a1.off + Int.toNat v5 * 4) + 1) + 1)).bind getStr).bind fun s4 =>
((cell h a1.block ((((a1.off + Int.toNat v5 * 4) + 1) + 1) + 1)).bind getS).bind fun l5 =>
(if 0 ≤ v5 ∧ v5 < ((v1n : Nat) : Int) then
((v1 : Option Addr)).bind fun a6 =>
((cell h a6.block (a6.off + Int.toNat v5 * 4)).bind (getI .i64)).bind fun n7 =>
((cell h a6.block ((a6.off + Int.toNat v5 * 4) + 1)).bind (getI .i64)).bind fun n8 =>
((cell h a6.block (((a6.off + Int.toNat v5 * 4) + 1) + 1)).bind getStr).bind fun s9 =>
((cell h a6.block ((((a6.off + Int.toNat v5 * 4) + 1) + 1) + 1)).bind getS).bind fun l10 =>
(run (Et base) 100 [(.agg #[(.int .i64 n2), (.int .i64 n3), (.string s4), (.slice l5.1 l5.2 l5.2)]), (.agg #[(.int .i64 n7), (.int .i64 n8), (.string s9), (.slice l10.1 l10.2 l10.2)])] h).bind fun r11 =>
((some r11.1).bind getB).bind fun b12 =>
(if (!b12) = true then
some (1, [some (.bool false)], r11.2)
else
some (0, [some (.slice v0 v0n v0n), some (.slice v1 v1n v1n), some (.int .i64 (IntKind.wrap .i64 (v5 + (1 : Int))))], r11.2))
else none)
else none)
else
some (2, [], h)) : Option (Nat × Slots × AH)) := by kernel_rfl
theorem f110_eq (base : Nat) (v0 : Option Addr) (v0n : Nat) (v1 : Option Addr) (v1n : Nat) (h : AH) : exFun (Et base) (run (Et base)) loopL a110 Try.f110 [(.slice v0 v0n v0n), (.slice v1 v1n v1n)] h =
((if (((v0n : Nat) : Int) != ((v1n : Nat) : Int)) = true then
some ((.bool false), h)
else
(loopL (B110_0 base) [some (.slice v0 v0n v0n), some (.slice v1 v1n v1n), some (.int .i64 (0 : Int))] h).bind fun q1 =>
(if q1.1 = 1 then
((sget q1.2.1 0).bind getB).bind fun b2 =>
some ((.bool b2), q1.2.2)
else
(if q1.1 = 2 then
some ((.bool true), q1.2.2)
else
none))) : Option (Value × AH)) := by kernel_rfl
theorem r110 {base : Nat} {v0 : Option Addr} {v0n : Nat} {v1 : Option Addr} {v1n : Nat} {h : AH} {r : Value × AH} (hx :
((if (((v0n : Nat) : Int) != ((v1n : Nat) : Int)) = true then
some ((.bool false), h)
else
(loopL (B110_0 base) [some (.slice v0 v0n v0n), some (.slice v1 v1n v1n), some (.int .i64 (0 : Int))] h).bind fun q1 =>
(if q1.1 = 1 then
((sget q1.2.1 0).bind getB).bind fun b2 =>
some ((.bool b2), q1.2.2)
else
(if q1.1 = 2 then
some ((.bool true), q1.2.2)
else
none)))) = some r) : run (Et base) 110 [(.slice v0 v0n v0n), (.slice v1 v1n v1n)] h = some r := run_i Try.func110 (by kernel_rfl) ((f110_eq base v0 v0n v1 v1n h).trans hx)
/-! impl.SameTerm (gates 0) -/
noncomputable def B55_0 (base : Nat) : Body := fun l h => lay s55_0 l fun s => exCode (Et base) (run (Et base)) loopL a55_0 (subC [1, 1, 0, 1, 0, 0] (bodyC Try.f55)) s h (keepK s55_0 e55_0)
theorem B55_0_eq (base : Nat) (v2 : Addr) (v3 : Addr) (v36 : Int) (v37 : Int) (h : AH) : B55_0 base [some (.pointer (some v2)), some (.pointer (some v3)), some (.int .i64 v36), some (.int .i64 v37)] h =
((if (decide (v37 < v36)) = true then
((cell h v2.block (v2.off + 3)).bind getS).bind fun l1 =>
(if 0 ≤ v37 ∧ v37 < ((l1.2 : Nat) : Int) then
((l1.1 : Option Addr)).bind fun a2 =>
((cell h a2.block (a2.off + Int.toNat v37 * 4)).bind (getI .i64)).bind fun n3 =>
((cell h a2.block ((a2.off + Int.toNat v37 * 4) + 1)).bind (getI .i64)).bind fun n4 =>
((cell h a2.block (((a2.off + Int.toNat v37 * 4) + 1) + 1)).bind getStr).bind fun s5 =>
((cell h a2.block ((((a2.off + Int.toNat v37 * 4) + 1) + 1) + 1)).bind getS).bind fun l6 =>
((cell h v3.block (v3.off + 3)).bind getS).bind fun l7 =>
(if 0 ≤ v37 ∧ v37 < ((l7.2 : Nat) : Int) then
((l7.1 : Option Addr)).bind fun a8 =>
((cell h a8.block (a8.off + Int.toNat v37 * 4)).bind (getI .i64)).bind fun n9 =>
((cell h a8.block ((a8.off + Int.toNat v37 * 4) + 1)).bind (getI .i64)).bind fun n10 =>
((cell h a8.block (((a8.off + Int.toNat v37 * 4) + 1) + 1)).bind getStr).bind fun s11 =>
((cell h a8.block ((((a8.off + Int.toNat v37 * 4) + 1) + 1) + 1)).bind getS).bind fun l12 =>
(run (Et base) 55 [(.agg #[(.int .i64 n3), (.int .i64 n4), (.string s5), (.slice l6.1 l6.2 l6.2)]), (.agg #[(.int .i64 n9), (.int .i64 n10), (.string s11), (.slice l12.1 l12.2 l12.2)])] h).bind fun r13 =>
((some r13.1).bind getB).bind fun b14 =>
(if (!b14) = true then
some (1, [some (.bool false)], r13.2)
else
some (0, [some (.pointer (some v2)), some (.pointer (some v3)), some (.int .i64 v36), some (.int .i64 (IntKind.wrap .i64 (v37 + (1 : Int))))], r13.2))
else none)
else none)
else
some (2, [], h)) : Option (Nat × Slots × AH)) := by kernel_rfl
theorem f55_eq (base : Nat) (v0_0 : Int) (v0_1 : Int) (v0_2 : ByteArray) (v0_3 : Option Addr) (v0_3n : Nat) (v1_0 : Int) (v1_1 : Int) (v1_2 : ByteArray) (v1_3 : Option Addr) (v1_3n : Nat) (h : AH) : exFun (Et base) (run (Et base)) loopL a55 Try.f55 [(.agg #[(.int .i64 v0_0), (.int .i64 v0_1), (.string v0_2), (.slice v0_3 v0_3n v0_3n)]), (.agg #[(.int .i64 v1_0), (.int .i64 v1_1), (.string v1_2), (.slice v1_3 v1_3n v1_3n)])] h =
((some (h ++ [some ⟨[(.int .i64 v0_0), (.int .i64 v0_1), (.string v0_2), (.slice v0_3 v0_3n v0_3n)], 48⟩])).bind fun h1 =>
(some (h1 ++ [some ⟨[(.int .i64 v1_0), (.int .i64 v1_1), (.string v1_2), (.slice v1_3 v1_3n v1_3n)], 48⟩])).bind fun h2 =>
(((cell h2 (List.length h) 0).bind (getI .i64)).bind fun n4 =>
((cell h2 (List.length h1) 0).bind (getI .i64)).bind fun n5 =>
(if (n4 != n5) = true then
some (.inl ([some (.pointer (some ⟨(List.length h), 0, none⟩)), some (.pointer (some ⟨(List.length h1), 0, none⟩)), some (.bool true)], h2))
else
((cell h2 (List.length h) 1).bind (getI .i64)).bind fun n6 =>
((cell h2 (List.length h1) 1).bind (getI .i64)).bind fun n7 =>
(if (n6 != n7) = true then
some (.inl ([some (.pointer (some ⟨(List.length h), 0, none⟩)), some (.pointer (some ⟨(List.length h1), 0, none⟩)), some (.bool true)], h2))
else
((cell h2 (List.length h) 2).bind getStr).bind fun s8 =>
((cell h2 (List.length h1) 2).bind getStr).bind fun s9 =>
(if (!(s8.toList == s9.toList)) = true then
some (.inl ([some (.pointer (some ⟨(List.length h), 0, none⟩)), some (.pointer (some ⟨(List.length h1), 0, none⟩)), some (.bool true)], h2))
else
((cell h2 (List.length h) 3).bind getS).bind fun l10 =>
((cell h2 (List.length h1) 3).bind getS).bind fun l11 =>
some (.inl ([some (.pointer (some ⟨(List.length h), 0, none⟩)), some (.pointer (some ⟨(List.length h1), 0, none⟩)), some (.bool (((l10.2 : Nat) : Int) != ((l11.2 : Nat) : Int)))], h2)))))).bind fun j3 => joinK j3 fun j3 =>
((sget j3.1 0).bind getA).bind fun d12 =>
((sget (j3.1.tail) 0).bind getA).bind fun d13 =>
((sget (j3.1.tail.tail) 0).bind getB).bind fun b14 =>
(if b14 = true then
some ((.bool false), j3.2)
else
((cell j3.2 d12.block (d12.off + 3)).bind getS).bind fun l15 =>
(loopL (B55_0 base) [some (.pointer (some d12)), some (.pointer (some d13)), some (.int .i64 ((l15.2 : Nat) : Int)), some (.int .i64 (0 : Int))] j3.2).bind fun q16 =>
(if q16.1 = 1 then
((sget q16.2.1 0).bind getB).bind fun b17 =>
some ((.bool b17), q16.2.2)
else
(if q16.1 = 2 then
some ((.bool true), q16.2.2)
else
none))) : Option (Value × AH)) := by kernel_rfl
theorem r55 {base : Nat} {v0_0 : Int} {v0_1 : Int} {v0_2 : ByteArray} {v0_3 : Option Addr} {v0_3n : Nat} {v1_0 : Int} {v1_1 : Int} {v1_2 : ByteArray} {v1_3 : Option Addr} {v1_3n : Nat} {h : AH} {r : Value × AH} (hx :
((some (h ++ [some ⟨[(.int .i64 v0_0), (.int .i64 v0_1), (.string v0_2), (.slice v0_3 v0_3n v0_3n)], 48⟩])).bind fun h1 =>
(some (h1 ++ [some ⟨[(.int .i64 v1_0), (.int .i64 v1_1), (.string v1_2), (.slice v1_3 v1_3n v1_3n)], 48⟩])).bind fun h2 =>
(((cell h2 (List.length h) 0).bind (getI .i64)).bind fun n4 =>
((cell h2 (List.length h1) 0).bind (getI .i64)).bind fun n5 =>
(if (n4 != n5) = true then
some (.inl ([some (.pointer (some ⟨(List.length h), 0, none⟩)), some (.pointer (some ⟨(List.length h1), 0, none⟩)), some (.bool true)], h2))
else
((cell h2 (List.length h) 1).bind (getI .i64)).bind fun n6 =>
((cell h2 (List.length h1) 1).bind (getI .i64)).bind fun n7 =>
(if (n6 != n7) = true then
some (.inl ([some (.pointer (some ⟨(List.length h), 0, none⟩)), some (.pointer (some ⟨(List.length h1), 0, none⟩)), some (.bool true)], h2))
else
((cell h2 (List.length h) 2).bind getStr).bind fun s8 =>
((cell h2 (List.length h1) 2).bind getStr).bind fun s9 =>
(if (!(s8.toList == s9.toList)) = true then
some (.inl ([some (.pointer (some ⟨(List.length h), 0, none⟩)), some (.pointer (some ⟨(List.length h1), 0, none⟩)), some (.bool true)], h2))
else
((cell h2 (List.length h) 3).bind getS).bind fun l10 =>
((cell h2 (List.length h1) 3).bind getS).bind fun l11 =>
some (.inl ([some (.pointer (some ⟨(List.length h), 0, none⟩)), some (.pointer (some ⟨(List.length h1), 0, none⟩)), some (.bool (((l10.2 : Nat) : Int) != ((l11.2 : Nat) : Int)))], h2)))))).bind fun j3 => joinK j3 fun j3 =>
((sget j3.1 0).bind getA).bind fun d12 =>
((sget (j3.1.tail) 0).bind getA).bind fun d13 =>
((sget (j3.1.tail.tail) 0).bind getB).bind fun b14 =>
(if b14 = true then
some ((.bool false), j3.2)
else
((cell j3.2 d12.block (d12.off + 3)).bind getS).bind fun l15 =>
(loopL (B55_0 base) [some (.pointer (some d12)), some (.pointer (some d13)), some (.int .i64 ((l15.2 : Nat) : Int)), some (.int .i64 (0 : Int))] j3.2).bind fun q16 =>
(if q16.1 = 1 then
((sget q16.2.1 0).bind getB).bind fun b17 =>
some ((.bool b17), q16.2.2)
else
(if q16.1 = 2 then
some ((.bool true), q16.2.2)
else
none)))) = some r) : run (Et base) 55 [(.agg #[(.int .i64 v0_0), (.int .i64 v0_1), (.string v0_2), (.slice v0_3 v0_3n v0_3n)]), (.agg #[(.int .i64 v1_0), (.int .i64 v1_1), (.string v1_2), (.slice v1_3 v1_3n v1_3n)])] h = some r := run_i Try.func55 (by kernel_rfl) ((f55_eq base v0_0 v0_1 v0_2 v0_3 v0_3n v1_0 v1_1 v1_2 v1_3 v1_3n h).trans hx)
/-! spec.SameTerm (gates 0) -/
noncomputable def B72_0 (base : Nat) : Body := fun l h => lay s72_0 l fun s => exCode (Et base) (run (Et base)) loopL a72_0 (subC [1, 1, 0, 1, 0, 0] (bodyC Try.f72)) s h (keepK s72_0 e72_0)
theorem B72_0_eq (base : Nat) (v2 : Addr) (v3 : Addr) (v5 : Int) (h : AH) : B72_0 base [some (.pointer (some v2)), some (.pointer (some v3)), some (.int .i64 v5)] h =
(((cell h v2.block (v2.off + 3)).bind getS).bind fun l1 =>
(if (decide (v5 < ((l1.2 : Nat) : Int))) = true then
((cell h v2.block (v2.off + 3)).bind getS).bind fun l2 =>
(if 0 ≤ v5 ∧ v5 < ((l2.2 : Nat) : Int) then
((l2.1 : Option Addr)).bind fun a3 =>
((cell h a3.block (a3.off + Int.toNat v5 * 4)).bind (getI .i64)).bind fun n4 =>
((cell h a3.block ((a3.off + Int.toNat v5 * 4) + 1)).bind (getI .i64)).bind fun n5 =>
((cell h a3.block (((a3.off + Int.toNat v5 * 4) + 1) + 1)).bind getStr).bind fun s6 =>
((cell h a3.block ((((a3.off + Int.toNat v5 * 4) + 1) + 1) + 1)).bind getS).bind fun l7 =>
((cell h v3.block (v3.off + 3)).bind getS).bind fun l8 =>
(if 0 ≤ v5 ∧ v5 < ((l8.2 : Nat) : Int) then
((l8.1 : Option Addr)).bind fun a9 =>
((cell h a9.block (a9.off + Int.toNat v5 * 4)).bind (getI .i64)).bind fun n10 =>
((cell h a9.block ((a9.off + Int.toNat v5 * 4) + 1)).bind (getI .i64)).bind fun n11 =>
((cell h a9.block (((a9.off + Int.toNat v5 * 4) + 1) + 1)).bind getStr).bind fun s12 =>
((cell h a9.block ((((a9.off + Int.toNat v5 * 4) + 1) + 1) + 1)).bind getS).bind fun l13 =>
(run (Et base) 72 [(.agg #[(.int .i64 n4), (.int .i64 n5), (.string s6), (.slice l7.1 l7.2 l7.2)]), (.agg #[(.int .i64 n10), (.int .i64 n11), (.string s12), (.slice l13.1 l13.2 l13.2)])] h).bind fun r14 =>
((some r14.1).bind getB).bind fun b15 =>
(if (!b15) = true then
some (1, [some (.bool false)], r14.2)
else
some (0, [some (.pointer (some v2)), some (.pointer (some v3)), some (.int .i64 (IntKind.wrap .i64 (v5 + (1 : Int))))], r14.2))
else none)
else none)
else
some (2, [], h)) : Option (Nat × Slots × AH)) := by kernel_rfl
theorem f72_eq (base : Nat) (v0_0 : Int) (v0_1 : Int) (v0_2 : ByteArray) (v0_3 : Option Addr) (v0_3n : Nat) (v1_0 : Int) (v1_1 : Int) (v1_2 : ByteArray) (v1_3 : Option Addr) (v1_3n : Nat) (h : AH) : exFun (Et base) (run (Et base)) loopL a72 Try.f72 [(.agg #[(.int .i64 v0_0), (.int .i64 v0_1), (.string v0_2), (.slice v0_3 v0_3n v0_3n)]), (.agg #[(.int .i64 v1_0), (.int .i64 v1_1), (.string v1_2), (.slice v1_3 v1_3n v1_3n)])] h =
((some (h ++ [some ⟨[(.int .i64 v0_0), (.int .i64 v0_1), (.string v0_2), (.slice v0_3 v0_3n v0_3n)], 48⟩])).bind fun h1 =>
(some (h1 ++ [some ⟨[(.int .i64 v1_0), (.int .i64 v1_1), (.string v1_2), (.slice v1_3 v1_3n v1_3n)], 48⟩])).bind fun h2 =>
(((cell h2 (List.length h) 0).bind (getI .i64)).bind fun n4 =>
((cell h2 (List.length h1) 0).bind (getI .i64)).bind fun n5 =>
(if (n4 != n5) = true then
some (.inl ([some (.pointer (some ⟨(List.length h), 0, none⟩)), some (.pointer (some ⟨(List.length h1), 0, none⟩)), some (.bool true)], h2))
else
((cell h2 (List.length h) 1).bind (getI .i64)).bind fun n6 =>
((cell h2 (List.length h1) 1).bind (getI .i64)).bind fun n7 =>
(if (n6 != n7) = true then
some (.inl ([some (.pointer (some ⟨(List.length h), 0, none⟩)), some (.pointer (some ⟨(List.length h1), 0, none⟩)), some (.bool true)], h2))
else
((cell h2 (List.length h) 2).bind getStr).bind fun s8 =>
((cell h2 (List.length h1) 2).bind getStr).bind fun s9 =>
(if (!(s8.toList == s9.toList)) = true then
some (.inl ([some (.pointer (some ⟨(List.length h), 0, none⟩)), some (.pointer (some ⟨(List.length h1), 0, none⟩)), some (.bool true)], h2))
else
((cell h2 (List.length h) 3).bind getS).bind fun l10 =>
((cell h2 (List.length h1) 3).bind getS).bind fun l11 =>
some (.inl ([some (.pointer (some ⟨(List.length h), 0, none⟩)), some (.pointer (some ⟨(List.length h1), 0, none⟩)), some (.bool (((l10.2 : Nat) : Int) != ((l11.2 : Nat) : Int)))], h2)))))).bind fun j3 => joinK j3 fun j3 =>
((sget j3.1 0).bind getA).bind fun d12 =>
((sget (j3.1.tail) 0).bind getA).bind fun d13 =>
((sget (j3.1.tail.tail) 0).bind getB).bind fun b14 =>
(if b14 = true then
some ((.bool false), j3.2)
else
(loopL (B72_0 base) [some (.pointer (some d12)), some (.pointer (some d13)), some (.int .i64 (0 : Int))] j3.2).bind fun q15 =>
(if q15.1 = 1 then
((sget q15.2.1 0).bind getB).bind fun b16 =>
some ((.bool b16), q15.2.2)
else
(if q15.1 = 2 then
some ((.bool true), q15.2.2)
else
none))) : Option (Value × AH)) := by kernel_rfl
theorem r72 {base : Nat} {v0_0 : Int} {v0_1 : Int} {v0_2 : ByteArray} {v0_3 : Option Addr} {v0_3n : Nat} {v1_0 : Int} {v1_1 : Int} {v1_2 : ByteArray} {v1_3 : Option Addr} {v1_3n : Nat} {h : AH} {r : Value × AH} (hx :
((some (h ++ [some ⟨[(.int .i64 v0_0), (.int .i64 v0_1), (.string v0_2), (.slice v0_3 v0_3n v0_3n)], 48⟩])).bind fun h1 =>
(some (h1 ++ [some ⟨[(.int .i64 v1_0), (.int .i64 v1_1), (.string v1_2), (.slice v1_3 v1_3n v1_3n)], 48⟩])).bind fun h2 =>
(((cell h2 (List.length h) 0).bind (getI .i64)).bind fun n4 =>
((cell h2 (List.length h1) 0).bind (getI .i64)).bind fun n5 =>
(if (n4 != n5) = true then
some (.inl ([some (.pointer (some ⟨(List.length h), 0, none⟩)), some (.pointer (some ⟨(List.length h1), 0, none⟩)), some (.bool true)], h2))
else
((cell h2 (List.length h) 1).bind (getI .i64)).bind fun n6 =>
((cell h2 (List.length h1) 1).bind (getI .i64)).bind fun n7 =>
(if (n6 != n7) = true then
some (.inl ([some (.pointer (some ⟨(List.length h), 0, none⟩)), some (.pointer (some ⟨(List.length h1), 0, none⟩)), some (.bool true)], h2))
else
((cell h2 (List.length h) 2).bind getStr).bind fun s8 =>
((cell h2 (List.length h1) 2).bind getStr).bind fun s9 =>
(if (!(s8.toList == s9.toList)) = true then
some (.inl ([some (.pointer (some ⟨(List.length h), 0, none⟩)), some (.pointer (some ⟨(List.length h1), 0, none⟩)), some (.bool true)], h2))
else
((cell h2 (List.length h) 3).bind getS).bind fun l10 =>
((cell h2 (List.length h1) 3).bind getS).bind fun l11 =>
some (.inl ([some (.pointer (some ⟨(List.length h), 0, none⟩)), some (.pointer (some ⟨(List.length h1), 0, none⟩)), some (.bool (((l10.2 : Nat) : Int) != ((l11.2 : Nat) : Int)))], h2)))))).bind fun j3 => joinK j3 fun j3 =>
((sget j3.1 0).bind getA).bind fun d12 =>
((sget (j3.1.tail) 0).bind getA).bind fun d13 =>
((sget (j3.1.tail.tail) 0).bind getB).bind fun b14 =>
(if b14 = true then
some ((.bool false), j3.2)
else
(loopL (B72_0 base) [some (.pointer (some d12)), some (.pointer (some d13)), some (.int .i64 (0 : Int))] j3.2).bind fun q15 =>
(if q15.1 = 1 then
((sget q15.2.1 0).bind getB).bind fun b16 =>
some ((.bool b16), q15.2.2)
else
(if q15.1 = 2 then
some ((.bool true), q15.2.2)
else
none)))) = some r) : run (Et base) 72 [(.agg #[(.int .i64 v0_0), (.int .i64 v0_1), (.string v0_2), (.slice v0_3 v0_3n v0_3n)]), (.agg #[(.int .i64 v1_0), (.int .i64 v1_1), (.string v1_2), (.slice v1_3 v1_3n v1_3n)])] h = some r := run_i Try.func72 (by kernel_rfl) ((f72_eq base v0_0 v0_1 v0_2 v0_3 v0_3n v1_0 v1_1 v1_2 v1_3 v1_3n h).trans hx)
/-! spec.l9Atom (gates 0) -/
theorem f70_eq (base : Nat) (v0 : ByteArray) (h : AH) : exFun (Et base) (run (Et base)) loopL a70 Try.f70 [(.string v0)] h =
((some (h ++ [some ⟨[(.int .i64 0), (.int .i64 0), (.string ⟨#[]⟩), (.slice none 0 0)], 48⟩])).bind fun h1 =>
(wr base h1 (List.length h) 0 [(.int .i64 (2 : Int)), (.int .i64 (0 : Int)), (.string v0), (.slice none 0 0)]).bind fun h2 =>
((cell h2 (List.length h) 0).bind (getI .i64)).bind fun n3 =>
((cell h2 (List.length h) 1).bind (getI .i64)).bind fun n4 =>
((cell h2 (List.length h) 2).bind getStr).bind fun s5 =>
((cell h2 (List.length h) 3).bind getS).bind fun l6 =>
some ((.agg #[(.int .i64 n3), (.int .i64 n4), (.string s5), (.slice l6.1 l6.2 l6.2)]), h2) : Option (Value × AH)) := by kernel_rfl
theorem r70 {base : Nat} {v0 : ByteArray} {h : AH} {r : Value × AH} (hx :
((some (h ++ [some ⟨[(.int .i64 0), (.int .i64 0), (.string ⟨#[]⟩), (.slice none 0 0)], 48⟩])).bind fun h1 =>
(wr base h1 (List.length h) 0 [(.int .i64 (2 : Int)), (.int .i64 (0 : Int)), (.string v0), (.slice none 0 0)]).bind fun h2 =>
((cell h2 (List.length h) 0).bind (getI .i64)).bind fun n3 =>
((cell h2 (List.length h) 1).bind (getI .i64)).bind fun n4 =>
((cell h2 (List.length h) 2).bind getStr).bind fun s5 =>
((cell h2 (List.length h) 3).bind getS).bind fun l6 =>
some ((.agg #[(.int .i64 n3), (.int .i64 n4), (.string s5), (.slice l6.1 l6.2 l6.2)]), h2)) = some r) : run (Et base) 70 [(.string v0)] h = some r := run_i Try.func70 (by kernel_rfl) ((f70_eq base v0 h).trans hx)
/-! impl.noroom (gates 0) -/
theorem f71_eq (base : Nat)  (h : AH) : exFun (Et base) (run (Et base)) loopL a71 Try.f71 [] h =
((some (h ++ [some ⟨[(.int .i64 0), (.int .i64 0), (.string ⟨#[]⟩), (.slice none 0 0)], 48⟩])).bind fun h1 =>
(run (Et base) 97 [(.string (⟨#[110, 111, 114, 111, 111, 109]⟩ : ByteArray))] h1).bind fun r2 =>
((some r2.1).bind (getAgg 4)).bind fun l3 =>
((l3[0]?).bind (getI .i64)).bind fun n4 =>
((l3[1]?).bind (getI .i64)).bind fun n5 =>
((l3[2]?).bind getStr).bind fun s6 =>
((l3[3]?).bind getS).bind fun l7 =>
(wr base r2.2 (List.length h) 0 [(.int .i64 n4), (.int .i64 n5), (.string s6), (.slice l7.1 l7.2 l7.2)]).bind fun h8 =>
((cell h8 (List.length h) 0).bind (getI .i64)).bind fun n9 =>
((cell h8 (List.length h) 1).bind (getI .i64)).bind fun n10 =>
((cell h8 (List.length h) 2).bind getStr).bind fun s11 =>
((cell h8 (List.length h) 3).bind getS).bind fun l12 =>
some ((.agg #[(.int .i64 n9), (.int .i64 n10), (.string s11), (.slice l12.1 l12.2 l12.2)]), h8) : Option (Value × AH)) := by kernel_rfl
theorem r71 {base : Nat}  {h : AH} {r : Value × AH} (hx :
((some (h ++ [some ⟨[(.int .i64 0), (.int .i64 0), (.string ⟨#[]⟩), (.slice none 0 0)], 48⟩])).bind fun h1 =>
(run (Et base) 97 [(.string (⟨#[110, 111, 114, 111, 111, 109]⟩ : ByteArray))] h1).bind fun r2 =>
((some r2.1).bind (getAgg 4)).bind fun l3 =>
((l3[0]?).bind (getI .i64)).bind fun n4 =>
((l3[1]?).bind (getI .i64)).bind fun n5 =>
((l3[2]?).bind getStr).bind fun s6 =>
((l3[3]?).bind getS).bind fun l7 =>
(wr base r2.2 (List.length h) 0 [(.int .i64 n4), (.int .i64 n5), (.string s6), (.slice l7.1 l7.2 l7.2)]).bind fun h8 =>
((cell h8 (List.length h) 0).bind (getI .i64)).bind fun n9 =>
((cell h8 (List.length h) 1).bind (getI .i64)).bind fun n10 =>
((cell h8 (List.length h) 2).bind getStr).bind fun s11 =>
((cell h8 (List.length h) 3).bind getS).bind fun l12 =>
some ((.agg #[(.int .i64 n9), (.int .i64 n10), (.string s11), (.slice l12.1 l12.2 l12.2)]), h8)) = some r) : run (Et base) 71 [] h = some r := run_i Try.func71 (by kernel_rfl) ((f71_eq base  h).trans hx)
/-! impl.atom (gates 0) -/
theorem f97_eq (base : Nat) (v0 : ByteArray) (h : AH) : exFun (Et base) (run (Et base)) loopL a97 Try.f97 [(.string v0)] h =
((some (h ++ [some ⟨[(.int .i64 0), (.int .i64 0), (.string ⟨#[]⟩), (.slice none 0 0)], 48⟩])).bind fun h1 =>
(wr base h1 (List.length h) 0 [(.int .i64 (2 : Int)), (.int .i64 (0 : Int)), (.string v0), (.slice none 0 0)]).bind fun h2 =>
((cell h2 (List.length h) 0).bind (getI .i64)).bind fun n3 =>
((cell h2 (List.length h) 1).bind (getI .i64)).bind fun n4 =>
((cell h2 (List.length h) 2).bind getStr).bind fun s5 =>
((cell h2 (List.length h) 3).bind getS).bind fun l6 =>
some ((.agg #[(.int .i64 n3), (.int .i64 n4), (.string s5), (.slice l6.1 l6.2 l6.2)]), h2) : Option (Value × AH)) := by kernel_rfl
theorem r97 {base : Nat} {v0 : ByteArray} {h : AH} {r : Value × AH} (hx :
((some (h ++ [some ⟨[(.int .i64 0), (.int .i64 0), (.string ⟨#[]⟩), (.slice none 0 0)], 48⟩])).bind fun h1 =>
(wr base h1 (List.length h) 0 [(.int .i64 (2 : Int)), (.int .i64 (0 : Int)), (.string v0), (.slice none 0 0)]).bind fun h2 =>
((cell h2 (List.length h) 0).bind (getI .i64)).bind fun n3 =>
((cell h2 (List.length h) 1).bind (getI .i64)).bind fun n4 =>
((cell h2 (List.length h) 2).bind getStr).bind fun s5 =>
((cell h2 (List.length h) 3).bind getS).bind fun l6 =>
some ((.agg #[(.int .i64 n3), (.int .i64 n4), (.string s5), (.slice l6.1 l6.2 l6.2)]), h2)) = some r) : run (Et base) 97 [(.string v0)] h = some r := run_i Try.func97 (by kernel_rfl) ((f97_eq base v0 h).trans hx)
/-! impl.NoRooms (gates 0) -/
noncomputable def B34_0 (base : Nat) : Body := fun l h => lay s34_0 l fun s => exCode (Et base) (run (Et base)) loopL a34_0 (subC [1, 1, 0, 1, 0, 0] (bodyC Try.f34)) s h (keepK s34_0 e34_0)
theorem B34_0_eq (base : Nat) (v3 : Int) (v6 : Option Addr) (v6n : Nat) (v7 : Int) (v8 : Int) (h : AH) : B34_0 base [some (.int .i64 v3), some (.slice v6 v6n v6n), some (.int .i64 v7), some (.int .i64 v8)] h =
((if (decide (v8 < v7)) = true then
(if 0 ≤ v8 ∧ v8 < ((v6n : Nat) : Int) then
((v6 : Option Addr)).bind fun a1 =>
((cell h a1.block (a1.off + Int.toNat v8 * 6)).bind (getI .i64)).bind fun n2 =>
((cell h a1.block ((a1.off + Int.toNat v8 * 6) + 1)).bind (getI .i64)).bind fun n3 =>
((cell h a1.block (((a1.off + Int.toNat v8 * 6) + 1) + 1)).bind (getI .i64)).bind fun n4 =>
((cell h a1.block ((((a1.off + Int.toNat v8 * 6) + 1) + 1) + 1)).bind (getI .i64)).bind fun n5 =>
((cell h a1.block (((((a1.off + Int.toNat v8 * 6) + 1) + 1) + 1) + 1)).bind getStr).bind fun s6 =>
((cell h a1.block ((((((a1.off + Int.toNat v8 * 6) + 1) + 1) + 1) + 1) + 1)).bind getS).bind fun l7 =>
(some (h ++ [some ⟨[(.int .i64 0), (.int .i64 0), (.int .i64 0), (.int .i64 0), (.string ⟨#[]⟩), (.slice none 0 0)], 50⟩])).bind fun h8 =>
(wr base h8 (List.length h) 0 [(.int .i64 n2), (.int .i64 n3), (.int .i64 n4), (.int .i64 n5), (.string s6), (.slice l7.1 l7.2 l7.2)]).bind fun h9 =>
(((cell h9 (List.length h) 0).bind (getI .i64)).bind fun n11 =>
(if (n11 == (3 : Int)) = true then
((cell h9 (List.length h) 2).bind (getI .i64)).bind fun n12 =>
((cell h9 (List.length h) 3).bind (getI .i64)).bind fun n13 =>
((cell h9 (List.length h) 4).bind getStr).bind fun s14 =>
((cell h9 (List.length h) 5).bind getS).bind fun l15 =>
(run (Et base) 71 [] h9).bind fun r16 =>
((some r16.1).bind (getAgg 4)).bind fun l17 =>
((l17[0]?).bind (getI .i64)).bind fun n18 =>
((l17[1]?).bind (getI .i64)).bind fun n19 =>
((l17[2]?).bind getStr).bind fun s20 =>
((l17[3]?).bind getS).bind fun l21 =>
(gate (sameA h9 r16.2 (some ⟨(List.length h), 2, none⟩) 4)
((run (Et base) 55 [(.agg #[(.int .i64 n12), (.int .i64 n13), (.string s14), (.slice l15.1 l15.2 l15.2)]), (.agg #[(.int .i64 n18), (.int .i64 n19), (.string s20), (.slice l21.1 l21.2 l21.2)])] r16.2).bind fun r22 =>
((some r22.1).bind getB).bind fun b23 =>
some (.inl ([some (.int .i64 v3), some (.slice v6 v6n v6n), some (.int .i64 v7), some (.int .i64 v8), some (.bool b23)], r22.2))))
else
some (.inl ([some (.int .i64 v3), some (.slice v6 v6n v6n), some (.int .i64 v7), some (.int .i64 v8), some (.bool false)], h9)))).bind fun j10 => joinK j10 fun j10 =>
((sget j10.1 0).bind (getI .i64)).bind fun n24 =>
((sget (j10.1.tail) 0).bind getS).bind fun l25 =>
((sget (j10.1.tail.tail) 0).bind (getI .i64)).bind fun n26 =>
((sget (j10.1.tail.tail.tail) 0).bind (getI .i64)).bind fun n27 =>
((sget (j10.1.tail.tail.tail.tail) 0).bind getB).bind fun b28 =>
(if b28 = true then
some (0, [some (.int .i64 (IntKind.wrap .i64 (n24 + (1 : Int)))), some (.slice l25.1 l25.2 l25.2), some (.int .i64 n26), some (.int .i64 (IntKind.wrap .i64 (n27 + (1 : Int))))], j10.2)
else
some (0, [some (.int .i64 n24), some (.slice l25.1 l25.2 l25.2), some (.int .i64 n26), some (.int .i64 (IntKind.wrap .i64 (n27 + (1 : Int))))], j10.2))
else none)
else
some (2, [some (.int .i64 v3)], h)) : Option (Nat × Slots × AH)) := by kernel_rfl
theorem f34_eq (base : Nat) (v0 : Option Addr) (v0n : Nat) (h : AH) : exFun (Et base) (run (Et base)) loopL a34 Try.f34 [(.slice v0 v0n v0n)] h =
((loopL (B34_0 base) [some (.int .i64 (0 : Int)), some (.slice v0 v0n v0n), some (.int .i64 ((v0n : Nat) : Int)), some (.int .i64 (0 : Int))] h).bind fun q1 =>
(if q1.1 = 2 then
((sget q1.2.1 0).bind (getI .i64)).bind fun n2 =>
some ((.int .i64 n2), q1.2.2)
else
none) : Option (Value × AH)) := by kernel_rfl
theorem r34 {base : Nat} {v0 : Option Addr} {v0n : Nat} {h : AH} {r : Value × AH} (hx :
((loopL (B34_0 base) [some (.int .i64 (0 : Int)), some (.slice v0 v0n v0n), some (.int .i64 ((v0n : Nat) : Int)), some (.int .i64 (0 : Int))] h).bind fun q1 =>
(if q1.1 = 2 then
((sget q1.2.1 0).bind (getI .i64)).bind fun n2 =>
some ((.int .i64 n2), q1.2.2)
else
none)) = some r) : run (Et base) 34 [(.slice v0 v0n v0n)] h = some r := run_i Try.func34 (by kernel_rfl) ((f34_eq base v0 v0n h).trans hx)
/-! spec.NoRooms (gates 0) -/
noncomputable def B35_0 (base : Nat) : Body := fun l h => lay s35_0 l fun s => exCode (Et base) (run (Et base)) loopL a35_0 (subC [1, 1, 0, 1, 0, 0] (bodyC Try.f35)) s h (keepK s35_0 e35_0)
theorem B35_0_eq (base : Nat) (v0 : Option Addr) (v0n : Nat) (v3 : Int) (v4 : Int) (h : AH) : B35_0 base [some (.slice v0 v0n v0n), some (.int .i64 v3), some (.int .i64 v4)] h =
((if (decide (v4 < ((v0n : Nat) : Int))) = true then
(((if 0 ≤ v4 ∧ v4 < ((v0n : Nat) : Int) then
((v0 : Option Addr)).bind fun a3 =>
((cell h a3.block ((a3.off + Int.toNat v4 * 6) + 0)).bind (getI .i64)).bind fun n4 =>
(if (n4 == (3 : Int)) = true then
(if 0 ≤ v4 ∧ v4 < ((v0n : Nat) : Int) then
((v0 : Option Addr)).bind fun a5 =>
((cell h a5.block ((a5.off + Int.toNat v4 * 6) + 2)).bind (getI .i64)).bind fun n6 =>
((cell h a5.block (((a5.off + Int.toNat v4 * 6) + 2) + 1)).bind (getI .i64)).bind fun n7 =>
((cell h a5.block ((((a5.off + Int.toNat v4 * 6) + 2) + 1) + 1)).bind getStr).bind fun s8 =>
((cell h a5.block (((((a5.off + Int.toNat v4 * 6) + 2) + 1) + 1) + 1)).bind getS).bind fun l9 =>
(run (Et base) 70 [(.string (⟨#[110, 111, 114, 111, 111, 109]⟩ : ByteArray))] h).bind fun r10 =>
((some r10.1).bind (getAgg 4)).bind fun l11 =>
((l11[0]?).bind (getI .i64)).bind fun n12 =>
((l11[1]?).bind (getI .i64)).bind fun n13 =>
((l11[2]?).bind getStr).bind fun s14 =>
((l11[3]?).bind getS).bind fun l15 =>
(gate (sameA h r10.2 (some ⟨a5.block, ((a5.off + Int.toNat v4 * 6) + 2), none⟩) 4)
((run (Et base) 72 [(.agg #[(.int .i64 n6), (.int .i64 n7), (.string s8), (.slice l9.1 l9.2 l9.2)]), (.agg #[(.int .i64 n12), (.int .i64 n13), (.string s14), (.slice l15.1 l15.2 l15.2)])] r10.2).bind fun r16 =>
((some r16.1).bind getB).bind fun b17 =>
some (.inl ([some (.slice v0 v0n v0n), some (.int .i64 v3), some (.int .i64 v4), some (.bool b17)], r16.2))))
else none)
else
some (.inl ([some (.slice v0 v0n v0n), some (.int .i64 v3), some (.int .i64 v4), some (.bool false)], h)))
else none)).bind fun j2 => joinK j2 fun j2 =>
((sget j2.1 0).bind getS).bind fun l18 =>
((sget (j2.1.tail) 0).bind (getI .i64)).bind fun n19 =>
((sget (j2.1.tail.tail) 0).bind (getI .i64)).bind fun n20 =>
((sget (j2.1.tail.tail.tail) 0).bind getB).bind fun b21 =>
(if b21 = true then
some (.inl ([some (.slice l18.1 l18.2 l18.2), some (.int .i64 (IntKind.wrap .i64 (n19 + (1 : Int)))), some (.int .i64 n20)], j2.2))
else
some (.inl ([some (.slice l18.1 l18.2 l18.2), some (.int .i64 n19), some (.int .i64 n20)], j2.2)))).bind fun j1 => joinK j1 fun j1 =>
((sget j1.1 0).bind getS).bind fun l22 =>
((sget (j1.1.tail) 0).bind (getI .i64)).bind fun n23 =>
((sget (j1.1.tail.tail) 0).bind (getI .i64)).bind fun n24 =>
some (0, [some (.slice l22.1 l22.2 l22.2), some (.int .i64 n23), some (.int .i64 (IntKind.wrap .i64 (n24 + (1 : Int))))], j1.2)
else
some (2, [some (.int .i64 v3)], h)) : Option (Nat × Slots × AH)) := by kernel_rfl
theorem f35_eq (base : Nat) (v0 : Option Addr) (v0n : Nat) (h : AH) : exFun (Et base) (run (Et base)) loopL a35 Try.f35 [(.slice v0 v0n v0n)] h =
((loopL (B35_0 base) [some (.slice v0 v0n v0n), some (.int .i64 (0 : Int)), some (.int .i64 (0 : Int))] h).bind fun q1 =>
(if q1.1 = 2 then
((sget q1.2.1 0).bind (getI .i64)).bind fun n2 =>
some ((.int .i64 n2), q1.2.2)
else
none) : Option (Value × AH)) := by kernel_rfl
theorem r35 {base : Nat} {v0 : Option Addr} {v0n : Nat} {h : AH} {r : Value × AH} (hx :
((loopL (B35_0 base) [some (.slice v0 v0n v0n), some (.int .i64 (0 : Int)), some (.int .i64 (0 : Int))] h).bind fun q1 =>
(if q1.1 = 2 then
((sget q1.2.1 0).bind (getI .i64)).bind fun n2 =>
some ((.int .i64 n2), q1.2.2)
else
none)) = some r) : run (Et base) 35 [(.slice v0 v0n v0n)] h = some r := run_i Try.func35 (by kernel_rfl) ((f35_eq base v0 v0n h).trans hx)
/-! laws.szSaidS (gates 0) -/
noncomputable def B39_0 (base : Nat) : Body := fun l h => lay s39_0 l fun s => exCode (Et base) (run (Et base)) loopL a39_0 (subC [1, 1, 1, 0, 1, 0, 0] (bodyC Try.f39)) s h (keepK s39_0 e39_0)
theorem B39_0_eq (base : Nat) (v0 : Option Addr) (v0n : Nat) (v1 : Int) (v5 : Int) (h : AH) : B39_0 base [some (.slice v0 v0n v0n), some (.int .i64 v1), some (.int .i64 v5)] h =
((if (decide (v5 < ((v0n : Nat) : Int))) = true then
(if 0 ≤ v5 ∧ v5 < ((v0n : Nat) : Int) then
((v0 : Option Addr)).bind fun a1 =>
((cell h a1.block (a1.off + Int.toNat v5 * 6)).bind (getI .i64)).bind fun n2 =>
((cell h a1.block ((a1.off + Int.toNat v5 * 6) + 1)).bind (getI .i64)).bind fun n3 =>
((cell h a1.block (((a1.off + Int.toNat v5 * 6) + 1) + 1)).bind (getI .i64)).bind fun n4 =>
((cell h a1.block ((((a1.off + Int.toNat v5 * 6) + 1) + 1) + 1)).bind (getI .i64)).bind fun n5 =>
((cell h a1.block (((((a1.off + Int.toNat v5 * 6) + 1) + 1) + 1) + 1)).bind getStr).bind fun s6 =>
((cell h a1.block ((((((a1.off + Int.toNat v5 * 6) + 1) + 1) + 1) + 1) + 1)).bind getS).bind fun l7 =>
(run (Et base) 75 [(.agg #[(.int .i64 n2), (.int .i64 n3), (.int .i64 n4), (.int .i64 n5), (.string s6), (.slice l7.1 l7.2 l7.2)]), (.int .i64 v1)] h).bind fun r8 =>
((some r8.1).bind (getI .i64)).bind fun n9 =>
(if (decide (n9 < (0 : Int))) = true then
some (1, [some (.int .i64 (-1 : Int))], r8.2)
else
some (0, [some (.slice v0 v0n v0n), some (.int .i64 n9), some (.int .i64 (IntKind.wrap .i64 (v5 + (1 : Int))))], r8.2))
else none)
else
some (2, [some (.int .i64 v1)], h)) : Option (Nat × Slots × AH)) := by kernel_rfl
theorem f39_eq (base : Nat) (v0 : Option Addr) (v0n : Nat) (v1 : Int) (h : AH) : exFun (Et base) (run (Et base)) loopL a39 Try.f39 [(.slice v0 v0n v0n), (.int .i64 v1)] h =
((if (decide ((IntKind.wrap .i64 (v1 - ((v0n : Nat) : Int))) < (0 : Int))) = true then
some ((.int .i64 (-1 : Int)), h)
else
(loopL (B39_0 base) [some (.slice v0 v0n v0n), some (.int .i64 (IntKind.wrap .i64 (v1 - ((v0n : Nat) : Int)))), some (.int .i64 (0 : Int))] h).bind fun q1 =>
(if q1.1 = 1 then
((sget q1.2.1 0).bind (getI .i64)).bind fun n2 =>
some ((.int .i64 n2), q1.2.2)
else
(if q1.1 = 2 then
((sget q1.2.1 0).bind (getI .i64)).bind fun n3 =>
some ((.int .i64 n3), q1.2.2)
else
none))) : Option (Value × AH)) := by kernel_rfl
theorem r39 {base : Nat} {v0 : Option Addr} {v0n : Nat} {v1 : Int} {h : AH} {r : Value × AH} (hx :
((if (decide ((IntKind.wrap .i64 (v1 - ((v0n : Nat) : Int))) < (0 : Int))) = true then
some ((.int .i64 (-1 : Int)), h)
else
(loopL (B39_0 base) [some (.slice v0 v0n v0n), some (.int .i64 (IntKind.wrap .i64 (v1 - ((v0n : Nat) : Int)))), some (.int .i64 (0 : Int))] h).bind fun q1 =>
(if q1.1 = 1 then
((sget q1.2.1 0).bind (getI .i64)).bind fun n2 =>
some ((.int .i64 n2), q1.2.2)
else
(if q1.1 = 2 then
((sget q1.2.1 0).bind (getI .i64)).bind fun n3 =>
some ((.int .i64 n3), q1.2.2)
else
none)))) = some r) : run (Et base) 39 [(.slice v0 v0n v0n), (.int .i64 v1)] h = some r := run_i Try.func39 (by kernel_rfl) ((f39_eq base v0 v0n v1 h).trans hx)
/-! laws.toSaidS (gates 0) -/
noncomputable def B40_0 (base : Nat) : Body := fun l h => lay s40_0 l fun s => exCode (Et base) (run (Et base)) loopL a40_0 (subC [1, 1, 0, 1, 0, 0] (bodyC Try.f40)) s h (keepK s40_0 e40_0)
theorem B40_0_eq (base : Nat) (v0 : Option Addr) (v0n : Nat) (v3 : Option Addr) (v3n : Nat) (v4 : Int) (h : AH) : B40_0 base [some (.slice v0 v0n v0n), some (.slice v3 v3n v3n), some (.int .i64 v4)] h =
((if (decide (v4 < ((v0n : Nat) : Int))) = true then
(if 0 ≤ v4 ∧ v4 < ((v0n : Nat) : Int) then
((v0 : Option Addr)).bind fun a1 =>
((cell h a1.block (a1.off + Int.toNat v4 * 6)).bind (getI .i64)).bind fun n2 =>
((cell h a1.block ((a1.off + Int.toNat v4 * 6) + 1)).bind (getI .i64)).bind fun n3 =>
((cell h a1.block (((a1.off + Int.toNat v4 * 6) + 1) + 1)).bind (getI .i64)).bind fun n4 =>
((cell h a1.block ((((a1.off + Int.toNat v4 * 6) + 1) + 1) + 1)).bind (getI .i64)).bind fun n5 =>
((cell h a1.block (((((a1.off + Int.toNat v4 * 6) + 1) + 1) + 1) + 1)).bind getStr).bind fun s6 =>
((cell h a1.block ((((((a1.off + Int.toNat v4 * 6) + 1) + 1) + 1) + 1) + 1)).bind getS).bind fun l7 =>
(run (Et base) 76 [(.agg #[(.int .i64 n2), (.int .i64 n3), (.int .i64 n4), (.int .i64 n5), (.string s6), (.slice l7.1 l7.2 l7.2)])] h).bind fun r8 =>
((some r8.1).bind (getAgg 6)).bind fun l9 =>
((l9[0]?).bind (getI .i64)).bind fun n10 =>
((l9[1]?).bind (getI .i64)).bind fun n11 =>
((l9[2]?).bind (getI .i64)).bind fun n12 =>
((l9[3]?).bind (getI .i64)).bind fun n13 =>
((l9[4]?).bind getStr).bind fun s14 =>
((l9[5]?).bind getS).bind fun l15 =>
(if 0 ≤ v4 ∧ v4 < ((v3n : Nat) : Int) then
((v3 : Option Addr)).bind fun a16 =>
(wr base r8.2 a16.block (a16.off + Int.toNat v4 * 6) [(.int .i64 n10), (.int .i64 n11), (.int .i64 n12), (.int .i64 n13), (.string s14), (.slice l15.1 l15.2 l15.2)]).bind fun h17 =>
some (0, [some (.slice v0 v0n v0n), some (.slice v3 v3n v3n), some (.int .i64 (IntKind.wrap .i64 (v4 + (1 : Int))))], h17)
else none)
else none)
else
some (2, [some (.slice v3 v3n v3n)], h)) : Option (Nat × Slots × AH)) := by kernel_rfl
theorem f40_eq (base : Nat) (v0 : Option Addr) (v0n : Nat) (h : AH) : exFun (Et base) (run (Et base)) loopL a40 Try.f40 [(.slice v0 v0n v0n)] h =
((if ((v0n : Nat) : Int) = ((v0n : Nat) : Int) ∧ 0 ≤ ((v0n : Nat) : Int) ∧ ((v0n : Nat) : Int) * 72 ≤ 140737488355328 ∧ ((v0n : Nat) : Int) ≤ 140737488355328 then
(some (h ++ [some ⟨rep [(.int .i64 0), (.int .i64 0), (.int .i64 0), (.int .i64 0), (.string ⟨#[]⟩), (.slice none 0 0)] (Int.toNat ((v0n : Nat) : Int)), 50⟩])).bind fun h1 =>
(loopL (B40_0 base) [some (.slice v0 v0n v0n), some (.slice (some ⟨(List.length h), 0, none⟩) (Int.toNat ((v0n : Nat) : Int)) (Int.toNat ((v0n : Nat) : Int))), some (.int .i64 (0 : Int))] h1).bind fun q2 =>
(if q2.1 = 2 then
((sget q2.2.1 0).bind getS).bind fun l3 =>
some ((.slice l3.1 l3.2 l3.2), q2.2.2)
else
none)
else none) : Option (Value × AH)) := by kernel_rfl
theorem r40 {base : Nat} {v0 : Option Addr} {v0n : Nat} {h : AH} {r : Value × AH} (hx :
((if ((v0n : Nat) : Int) = ((v0n : Nat) : Int) ∧ 0 ≤ ((v0n : Nat) : Int) ∧ ((v0n : Nat) : Int) * 72 ≤ 140737488355328 ∧ ((v0n : Nat) : Int) ≤ 140737488355328 then
(some (h ++ [some ⟨rep [(.int .i64 0), (.int .i64 0), (.int .i64 0), (.int .i64 0), (.string ⟨#[]⟩), (.slice none 0 0)] (Int.toNat ((v0n : Nat) : Int)), 50⟩])).bind fun h1 =>
(loopL (B40_0 base) [some (.slice v0 v0n v0n), some (.slice (some ⟨(List.length h), 0, none⟩) (Int.toNat ((v0n : Nat) : Int)) (Int.toNat ((v0n : Nat) : Int))), some (.int .i64 (0 : Int))] h1).bind fun q2 =>
(if q2.1 = 2 then
((sget q2.2.1 0).bind getS).bind fun l3 =>
some ((.slice l3.1 l3.2 l3.2), q2.2.2)
else
none)
else none)) = some r) : run (Et base) 40 [(.slice v0 v0n v0n)] h = some r := run_i Try.func40 (by kernel_rfl) ((f40_eq base v0 v0n h).trans hx)
/-! laws.eqSaidS (gates 0) -/
noncomputable def B41_0 (base : Nat) : Body := fun l h => lay s41_0 l fun s => exCode (Et base) (run (Et base)) loopL a41_0 (subC [1, 1, 0, 1, 0, 0] (bodyC Try.f41)) s h (keepK s41_0 e41_0)
theorem B41_0_eq (base : Nat) (v0 : Option Addr) (v0n : Nat) (v1 : Option Addr) (v1n : Nat) (v5 : Int) (h : AH) : B41_0 base [some (.slice v0 v0n v0n), some (.slice v1 v1n v1n), some (.int .i64 v5)] h =
((if (decide (v5 < ((v0n : Nat) : Int))) = true then
(if 0 ≤ v5 ∧ v5 < ((v0n : Nat) : Int) then
((v0 : Option Addr)).bind fun a1 =>
((cell h a1.block (a1.off + Int.toNat v5 * 6)).bind (getI .i64)).bind fun n2 =>
((cell h a1.block ((a1.off + Int.toNat v5 * 6) + 1)).bind (getI .i64)).bind fun n3 =>
((cell h a1.block (((a1.off + Int.toNat v5 * 6) + 1) + 1)).bind (getI .i64)).bind fun n4 =>
((cell h a1.block ((((a1.off + Int.toNat v5 * 6) + 1) + 1) + 1)).bind (getI .i64)).bind fun n5 =>
((cell h a1.block (((((a1.off + Int.toNat v5 * 6) + 1) + 1) + 1) + 1)).bind getStr).bind fun s6 =>
((cell h a1.block ((((((a1.off + Int.toNat v5 * 6) + 1) + 1) + 1) + 1) + 1)).bind getS).bind fun l7 =>
(if 0 ≤ v5 ∧ v5 < ((v1n : Nat) : Int) then
((v1 : Option Addr)).bind fun a8 =>
((cell h a8.block (a8.off + Int.toNat v5 * 6)).bind (getI .i64)).bind fun n9 =>
((cell h a8.block ((a8.off + Int.toNat v5 * 6) + 1)).bind (getI .i64)).bind fun n10 =>
((cell h a8.block (((a8.off + Int.toNat v5 * 6) + 1) + 1)).bind (getI .i64)).bind fun n11 =>
((cell h a8.block ((((a8.off + Int.toNat v5 * 6) + 1) + 1) + 1)).bind (getI .i64)).bind fun n12 =>
((cell h a8.block (((((a8.off + Int.toNat v5 * 6) + 1) + 1) + 1) + 1)).bind getStr).bind fun s13 =>
((cell h a8.block ((((((a8.off + Int.toNat v5 * 6) + 1) + 1) + 1) + 1) + 1)).bind getS).bind fun l14 =>
(run (Et base) 77 [(.agg #[(.int .i64 n2), (.int .i64 n3), (.int .i64 n4), (.int .i64 n5), (.string s6), (.slice l7.1 l7.2 l7.2)]), (.agg #[(.int .i64 n9), (.int .i64 n10), (.int .i64 n11), (.int .i64 n12), (.string s13), (.slice l14.1 l14.2 l14.2)])] h).bind fun r15 =>
((some r15.1).bind getB).bind fun b16 =>
(if (!b16) = true then
some (1, [some (.bool false)], r15.2)
else
some (0, [some (.slice v0 v0n v0n), some (.slice v1 v1n v1n), some (.int .i64 (IntKind.wrap .i64 (v5 + (1 : Int))))], r15.2))
else none)
else none)
else
some (2, [], h)) : Option (Nat × Slots × AH)) := by kernel_rfl
theorem f41_eq (base : Nat) (v0 : Option Addr) (v0n : Nat) (v1 : Option Addr) (v1n : Nat) (h : AH) : exFun (Et base) (run (Et base)) loopL a41 Try.f41 [(.slice v0 v0n v0n), (.slice v1 v1n v1n)] h =
((if (((v0n : Nat) : Int) != ((v1n : Nat) : Int)) = true then
some ((.bool false), h)
else
(loopL (B41_0 base) [some (.slice v0 v0n v0n), some (.slice v1 v1n v1n), some (.int .i64 (0 : Int))] h).bind fun q1 =>
(if q1.1 = 1 then
((sget q1.2.1 0).bind getB).bind fun b2 =>
some ((.bool b2), q1.2.2)
else
(if q1.1 = 2 then
some ((.bool true), q1.2.2)
else
none))) : Option (Value × AH)) := by kernel_rfl
theorem r41 {base : Nat} {v0 : Option Addr} {v0n : Nat} {v1 : Option Addr} {v1n : Nat} {h : AH} {r : Value × AH} (hx :
((if (((v0n : Nat) : Int) != ((v1n : Nat) : Int)) = true then
some ((.bool false), h)
else
(loopL (B41_0 base) [some (.slice v0 v0n v0n), some (.slice v1 v1n v1n), some (.int .i64 (0 : Int))] h).bind fun q1 =>
(if q1.1 = 1 then
((sget q1.2.1 0).bind getB).bind fun b2 =>
some ((.bool b2), q1.2.2)
else
(if q1.1 = 2 then
some ((.bool true), q1.2.2)
else
none)))) = some r) : run (Et base) 41 [(.slice v0 v0n v0n), (.slice v1 v1n v1n)] h = some r := run_i Try.func41 (by kernel_rfl) ((f41_eq base v0 v0n v1 v1n h).trans hx)
/-! laws.szSaid (gates 0) -/
theorem f75_eq (base : Nat) (v0_0 : Int) (v0_1 : Int) (v0_2 : Int) (v0_3 : Int) (v0_4 : ByteArray) (v0_5 : Option Addr) (v0_5n : Nat) (v1 : Int) (h : AH) : exFun (Et base) (run (Et base)) loopL a75 Try.f75 [(.agg #[(.int .i64 v0_0), (.int .i64 v0_1), (.int .i64 v0_2), (.int .i64 v0_3), (.string v0_4), (.slice v0_5 v0_5n v0_5n)]), (.int .i64 v1)] h =
((some (h ++ [some ⟨[(.int .i64 v0_0), (.int .i64 v0_1), (.int .i64 v0_2), (.int .i64 v0_3), (.string v0_4), (.slice v0_5 v0_5n v0_5n)], 97⟩])).bind fun h1 =>
((cell h1 (List.length h) 2).bind (getI .i64)).bind fun n2 =>
((cell h1 (List.length h) 3).bind (getI .i64)).bind fun n3 =>
((cell h1 (List.length h) 4).bind getStr).bind fun s4 =>
((cell h1 (List.length h) 5).bind getS).bind fun l5 =>
(run (Et base) 98 [(.agg #[(.int .i64 n2), (.int .i64 n3), (.string s4), (.slice l5.1 l5.2 l5.2)]), (.int .i64 v1)] h1).bind fun r6 =>
((some r6.1).bind (getI .i64)).bind fun n7 =>
(if (decide (n7 < (0 : Int))) = true then
some ((.int .i64 (-1 : Int)), r6.2)
else
some ((.int .i64 n7), r6.2)) : Option (Value × AH)) := by kernel_rfl
theorem r75 {base : Nat} {v0_0 : Int} {v0_1 : Int} {v0_2 : Int} {v0_3 : Int} {v0_4 : ByteArray} {v0_5 : Option Addr} {v0_5n : Nat} {v1 : Int} {h : AH} {r : Value × AH} (hx :
((some (h ++ [some ⟨[(.int .i64 v0_0), (.int .i64 v0_1), (.int .i64 v0_2), (.int .i64 v0_3), (.string v0_4), (.slice v0_5 v0_5n v0_5n)], 97⟩])).bind fun h1 =>
((cell h1 (List.length h) 2).bind (getI .i64)).bind fun n2 =>
((cell h1 (List.length h) 3).bind (getI .i64)).bind fun n3 =>
((cell h1 (List.length h) 4).bind getStr).bind fun s4 =>
((cell h1 (List.length h) 5).bind getS).bind fun l5 =>
(run (Et base) 98 [(.agg #[(.int .i64 n2), (.int .i64 n3), (.string s4), (.slice l5.1 l5.2 l5.2)]), (.int .i64 v1)] h1).bind fun r6 =>
((some r6.1).bind (getI .i64)).bind fun n7 =>
(if (decide (n7 < (0 : Int))) = true then
some ((.int .i64 (-1 : Int)), r6.2)
else
some ((.int .i64 n7), r6.2))) = some r) : run (Et base) 75 [(.agg #[(.int .i64 v0_0), (.int .i64 v0_1), (.int .i64 v0_2), (.int .i64 v0_3), (.string v0_4), (.slice v0_5 v0_5n v0_5n)]), (.int .i64 v1)] h = some r := run_i Try.func75 (by kernel_rfl) ((f75_eq base v0_0 v0_1 v0_2 v0_3 v0_4 v0_5 v0_5n v1 h).trans hx)
/-! laws.toSaid (gates 0) -/
theorem f76_eq (base : Nat) (v0_0 : Int) (v0_1 : Int) (v0_2 : Int) (v0_3 : Int) (v0_4 : ByteArray) (v0_5 : Option Addr) (v0_5n : Nat) (h : AH) : exFun (Et base) (run (Et base)) loopL a76 Try.f76 [(.agg #[(.int .i64 v0_0), (.int .i64 v0_1), (.int .i64 v0_2), (.int .i64 v0_3), (.string v0_4), (.slice v0_5 v0_5n v0_5n)])] h =
((some (h ++ [some ⟨[(.int .i64 v0_0), (.int .i64 v0_1), (.int .i64 v0_2), (.int .i64 v0_3), (.string v0_4), (.slice v0_5 v0_5n v0_5n)], 97⟩])).bind fun h1 =>
(some (h1 ++ [some ⟨[(.int .i64 0), (.int .i64 0), (.int .i64 0), (.int .i64 0), (.string ⟨#[]⟩), (.slice none 0 0)], 50⟩])).bind fun h2 =>
(some (h2 ++ [some ⟨[(.int .i64 0), (.int .i64 0), (.int .i64 0), (.int .i64 0), (.string ⟨#[]⟩), (.slice none 0 0)], 50⟩])).bind fun h3 =>
((cell h3 (List.length h) 0).bind (getI .i64)).bind fun n4 =>
(wr base h3 (List.length h2) 0 [(.int .i64 n4)]).bind fun h5 =>
((cell h5 (List.length h) 1).bind (getI .i64)).bind fun n6 =>
(wr base h5 (List.length h2) 1 [(.int .i64 n6)]).bind fun h7 =>
((cell h7 (List.length h) 2).bind (getI .i64)).bind fun n8 =>
((cell h7 (List.length h) 3).bind (getI .i64)).bind fun n9 =>
((cell h7 (List.length h) 4).bind getStr).bind fun s10 =>
((cell h7 (List.length h) 5).bind getS).bind fun l11 =>
(run (Et base) 99 [(.agg #[(.int .i64 n8), (.int .i64 n9), (.string s10), (.slice l11.1 l11.2 l11.2)])] h7).bind fun r12 =>
((some r12.1).bind (getAgg 4)).bind fun l13 =>
((l13[0]?).bind (getI .i64)).bind fun n14 =>
((l13[1]?).bind (getI .i64)).bind fun n15 =>
((l13[2]?).bind getStr).bind fun s16 =>
((l13[3]?).bind getS).bind fun l17 =>
(wr base r12.2 (List.length h2) 2 [(.int .i64 n14), (.int .i64 n15), (.string s16), (.slice l17.1 l17.2 l17.2)]).bind fun h18 =>
((cell h18 (List.length h2) 0).bind (getI .i64)).bind fun n19 =>
((cell h18 (List.length h2) 1).bind (getI .i64)).bind fun n20 =>
((cell h18 (List.length h2) 2).bind (getI .i64)).bind fun n21 =>
((cell h18 (List.length h2) 3).bind (getI .i64)).bind fun n22 =>
((cell h18 (List.length h2) 4).bind getStr).bind fun s23 =>
((cell h18 (List.length h2) 5).bind getS).bind fun l24 =>
(wr base h18 (List.length h1) 0 [(.int .i64 n19), (.int .i64 n20), (.int .i64 n21), (.int .i64 n22), (.string s23), (.slice l24.1 l24.2 l24.2)]).bind fun h25 =>
((cell h25 (List.length h1) 0).bind (getI .i64)).bind fun n26 =>
((cell h25 (List.length h1) 1).bind (getI .i64)).bind fun n27 =>
((cell h25 (List.length h1) 2).bind (getI .i64)).bind fun n28 =>
((cell h25 (List.length h1) 3).bind (getI .i64)).bind fun n29 =>
((cell h25 (List.length h1) 4).bind getStr).bind fun s30 =>
((cell h25 (List.length h1) 5).bind getS).bind fun l31 =>
some ((.agg #[(.int .i64 n26), (.int .i64 n27), (.int .i64 n28), (.int .i64 n29), (.string s30), (.slice l31.1 l31.2 l31.2)]), h25) : Option (Value × AH)) := by kernel_rfl
theorem r76 {base : Nat} {v0_0 : Int} {v0_1 : Int} {v0_2 : Int} {v0_3 : Int} {v0_4 : ByteArray} {v0_5 : Option Addr} {v0_5n : Nat} {h : AH} {r : Value × AH} (hx :
((some (h ++ [some ⟨[(.int .i64 v0_0), (.int .i64 v0_1), (.int .i64 v0_2), (.int .i64 v0_3), (.string v0_4), (.slice v0_5 v0_5n v0_5n)], 97⟩])).bind fun h1 =>
(some (h1 ++ [some ⟨[(.int .i64 0), (.int .i64 0), (.int .i64 0), (.int .i64 0), (.string ⟨#[]⟩), (.slice none 0 0)], 50⟩])).bind fun h2 =>
(some (h2 ++ [some ⟨[(.int .i64 0), (.int .i64 0), (.int .i64 0), (.int .i64 0), (.string ⟨#[]⟩), (.slice none 0 0)], 50⟩])).bind fun h3 =>
((cell h3 (List.length h) 0).bind (getI .i64)).bind fun n4 =>
(wr base h3 (List.length h2) 0 [(.int .i64 n4)]).bind fun h5 =>
((cell h5 (List.length h) 1).bind (getI .i64)).bind fun n6 =>
(wr base h5 (List.length h2) 1 [(.int .i64 n6)]).bind fun h7 =>
((cell h7 (List.length h) 2).bind (getI .i64)).bind fun n8 =>
((cell h7 (List.length h) 3).bind (getI .i64)).bind fun n9 =>
((cell h7 (List.length h) 4).bind getStr).bind fun s10 =>
((cell h7 (List.length h) 5).bind getS).bind fun l11 =>
(run (Et base) 99 [(.agg #[(.int .i64 n8), (.int .i64 n9), (.string s10), (.slice l11.1 l11.2 l11.2)])] h7).bind fun r12 =>
((some r12.1).bind (getAgg 4)).bind fun l13 =>
((l13[0]?).bind (getI .i64)).bind fun n14 =>
((l13[1]?).bind (getI .i64)).bind fun n15 =>
((l13[2]?).bind getStr).bind fun s16 =>
((l13[3]?).bind getS).bind fun l17 =>
(wr base r12.2 (List.length h2) 2 [(.int .i64 n14), (.int .i64 n15), (.string s16), (.slice l17.1 l17.2 l17.2)]).bind fun h18 =>
((cell h18 (List.length h2) 0).bind (getI .i64)).bind fun n19 =>
((cell h18 (List.length h2) 1).bind (getI .i64)).bind fun n20 =>
((cell h18 (List.length h2) 2).bind (getI .i64)).bind fun n21 =>
((cell h18 (List.length h2) 3).bind (getI .i64)).bind fun n22 =>
((cell h18 (List.length h2) 4).bind getStr).bind fun s23 =>
((cell h18 (List.length h2) 5).bind getS).bind fun l24 =>
(wr base h18 (List.length h1) 0 [(.int .i64 n19), (.int .i64 n20), (.int .i64 n21), (.int .i64 n22), (.string s23), (.slice l24.1 l24.2 l24.2)]).bind fun h25 =>
((cell h25 (List.length h1) 0).bind (getI .i64)).bind fun n26 =>
((cell h25 (List.length h1) 1).bind (getI .i64)).bind fun n27 =>
((cell h25 (List.length h1) 2).bind (getI .i64)).bind fun n28 =>
((cell h25 (List.length h1) 3).bind (getI .i64)).bind fun n29 =>
((cell h25 (List.length h1) 4).bind getStr).bind fun s30 =>
((cell h25 (List.length h1) 5).bind getS).bind fun l31 =>
some ((.agg #[(.int .i64 n26), (.int .i64 n27), (.int .i64 n28), (.int .i64 n29), (.string s30), (.slice l31.1 l31.2 l31.2)]), h25)) = some r) : run (Et base) 76 [(.agg #[(.int .i64 v0_0), (.int .i64 v0_1), (.int .i64 v0_2), (.int .i64 v0_3), (.string v0_4), (.slice v0_5 v0_5n v0_5n)])] h = some r := run_i Try.func76 (by kernel_rfl) ((f76_eq base v0_0 v0_1 v0_2 v0_3 v0_4 v0_5 v0_5n h).trans hx)
/-! laws.eqSaid (gates 0) -/
theorem f77_eq (base : Nat) (v0_0 : Int) (v0_1 : Int) (v0_2 : Int) (v0_3 : Int) (v0_4 : ByteArray) (v0_5 : Option Addr) (v0_5n : Nat) (v1_0 : Int) (v1_1 : Int) (v1_2 : Int) (v1_3 : Int) (v1_4 : ByteArray) (v1_5 : Option Addr) (v1_5n : Nat) (h : AH) : exFun (Et base) (run (Et base)) loopL a77 Try.f77 [(.agg #[(.int .i64 v0_0), (.int .i64 v0_1), (.int .i64 v0_2), (.int .i64 v0_3), (.string v0_4), (.slice v0_5 v0_5n v0_5n)]), (.agg #[(.int .i64 v1_0), (.int .i64 v1_1), (.int .i64 v1_2), (.int .i64 v1_3), (.string v1_4), (.slice v1_5 v1_5n v1_5n)])] h =
((some (h ++ [some ⟨[(.int .i64 v0_0), (.int .i64 v0_1), (.int .i64 v0_2), (.int .i64 v0_3), (.string v0_4), (.slice v0_5 v0_5n v0_5n)], 50⟩])).bind fun h1 =>
(some (h1 ++ [some ⟨[(.int .i64 v1_0), (.int .i64 v1_1), (.int .i64 v1_2), (.int .i64 v1_3), (.string v1_4), (.slice v1_5 v1_5n v1_5n)], 50⟩])).bind fun h2 =>
((cell h2 (List.length h) 0).bind (getI .i64)).bind fun n3 =>
((cell h2 (List.length h1) 0).bind (getI .i64)).bind fun n4 =>
(if (n3 != n4) = true then
some ((.bool false), h2)
else
((cell h2 (List.length h) 1).bind (getI .i64)).bind fun n5 =>
((cell h2 (List.length h1) 1).bind (getI .i64)).bind fun n6 =>
(if (n5 != n6) = true then
some ((.bool false), h2)
else
((cell h2 (List.length h) 2).bind (getI .i64)).bind fun n7 =>
((cell h2 (List.length h) 3).bind (getI .i64)).bind fun n8 =>
((cell h2 (List.length h) 4).bind getStr).bind fun s9 =>
((cell h2 (List.length h) 5).bind getS).bind fun l10 =>
((cell h2 (List.length h1) 2).bind (getI .i64)).bind fun n11 =>
((cell h2 (List.length h1) 3).bind (getI .i64)).bind fun n12 =>
((cell h2 (List.length h1) 4).bind getStr).bind fun s13 =>
((cell h2 (List.length h1) 5).bind getS).bind fun l14 =>
(run (Et base) 100 [(.agg #[(.int .i64 n7), (.int .i64 n8), (.string s9), (.slice l10.1 l10.2 l10.2)]), (.agg #[(.int .i64 n11), (.int .i64 n12), (.string s13), (.slice l14.1 l14.2 l14.2)])] h2).bind fun r15 =>
((some r15.1).bind getB).bind fun b16 =>
(if (!b16) = true then
some ((.bool false), r15.2)
else
some ((.bool true), r15.2)))) : Option (Value × AH)) := by kernel_rfl
theorem r77 {base : Nat} {v0_0 : Int} {v0_1 : Int} {v0_2 : Int} {v0_3 : Int} {v0_4 : ByteArray} {v0_5 : Option Addr} {v0_5n : Nat} {v1_0 : Int} {v1_1 : Int} {v1_2 : Int} {v1_3 : Int} {v1_4 : ByteArray} {v1_5 : Option Addr} {v1_5n : Nat} {h : AH} {r : Value × AH} (hx :
((some (h ++ [some ⟨[(.int .i64 v0_0), (.int .i64 v0_1), (.int .i64 v0_2), (.int .i64 v0_3), (.string v0_4), (.slice v0_5 v0_5n v0_5n)], 50⟩])).bind fun h1 =>
(some (h1 ++ [some ⟨[(.int .i64 v1_0), (.int .i64 v1_1), (.int .i64 v1_2), (.int .i64 v1_3), (.string v1_4), (.slice v1_5 v1_5n v1_5n)], 50⟩])).bind fun h2 =>
((cell h2 (List.length h) 0).bind (getI .i64)).bind fun n3 =>
((cell h2 (List.length h1) 0).bind (getI .i64)).bind fun n4 =>
(if (n3 != n4) = true then
some ((.bool false), h2)
else
((cell h2 (List.length h) 1).bind (getI .i64)).bind fun n5 =>
((cell h2 (List.length h1) 1).bind (getI .i64)).bind fun n6 =>
(if (n5 != n6) = true then
some ((.bool false), h2)
else
((cell h2 (List.length h) 2).bind (getI .i64)).bind fun n7 =>
((cell h2 (List.length h) 3).bind (getI .i64)).bind fun n8 =>
((cell h2 (List.length h) 4).bind getStr).bind fun s9 =>
((cell h2 (List.length h) 5).bind getS).bind fun l10 =>
((cell h2 (List.length h1) 2).bind (getI .i64)).bind fun n11 =>
((cell h2 (List.length h1) 3).bind (getI .i64)).bind fun n12 =>
((cell h2 (List.length h1) 4).bind getStr).bind fun s13 =>
((cell h2 (List.length h1) 5).bind getS).bind fun l14 =>
(run (Et base) 100 [(.agg #[(.int .i64 n7), (.int .i64 n8), (.string s9), (.slice l10.1 l10.2 l10.2)]), (.agg #[(.int .i64 n11), (.int .i64 n12), (.string s13), (.slice l14.1 l14.2 l14.2)])] h2).bind fun r15 =>
((some r15.1).bind getB).bind fun b16 =>
(if (!b16) = true then
some ((.bool false), r15.2)
else
some ((.bool true), r15.2))))) = some r) : run (Et base) 77 [(.agg #[(.int .i64 v0_0), (.int .i64 v0_1), (.int .i64 v0_2), (.int .i64 v0_3), (.string v0_4), (.slice v0_5 v0_5n v0_5n)]), (.agg #[(.int .i64 v1_0), (.int .i64 v1_1), (.int .i64 v1_2), (.int .i64 v1_3), (.string v1_4), (.slice v1_5 v1_5n v1_5n)])] h = some r := run_i Try.func77 (by kernel_rfl) ((f77_eq base v0_0 v0_1 v0_2 v0_3 v0_4 v0_5 v0_5n v1_0 v1_1 v1_2 v1_3 v1_4 v1_5 v1_5n h).trans hx)
/-! laws.FnExactNoRooms (gates 0) -/
theorem f8_eq (base : Nat) (v0 : Option Addr) (v0n : Nat) (h : AH) : exFun (Et base) (run (Et base)) loopL a8 Try.f8 [(.slice v0 v0n v0n)] h =
((run (Et base) 39 [(.slice v0 v0n v0n), (.int .i64 (1048576 : Int))] h).bind fun r1 =>
((some r1.1).bind (getI .i64)).bind fun n2 =>
(if (decide (n2 < (0 : Int))) = true then
some ((.bool true), r1.2)
else
(run (Et base) 40 [(.slice v0 v0n v0n)] r1.2).bind fun r3 =>
((some r3.1).bind getS).bind fun l4 =>
(run (Et base) 35 [(.slice l4.1 l4.2 l4.2)] r3.2).bind fun r5 =>
((some r5.1).bind (getI .i64)).bind fun n6 =>
(run (Et base) 40 [(.slice v0 v0n v0n)] r5.2).bind fun r7 =>
((some r7.1).bind getS).bind fun l8 =>
(run (Et base) 34 [(.slice l8.1 l8.2 l8.2)] r7.2).bind fun r9 =>
((some r9.1).bind (getI .i64)).bind fun n10 =>
(if (n10 != n6) = true then
some ((.bool false), r9.2)
else
(run (Et base) 40 [(.slice v0 v0n v0n)] r9.2).bind fun r11 =>
((some r11.1).bind getS).bind fun l12 =>
(run (Et base) 41 [(.slice l8.1 l8.2 l8.2), (.slice l12.1 l12.2 l12.2)] r11.2).bind fun r13 =>
((some r13.1).bind getB).bind fun b14 =>
(if (!b14) = true then
some ((.bool false), r13.2)
else
some ((.bool true), r13.2)))) : Option (Value × AH)) := by kernel_rfl
theorem r8 {base : Nat} {v0 : Option Addr} {v0n : Nat} {h : AH} {r : Value × AH} (hx :
((run (Et base) 39 [(.slice v0 v0n v0n), (.int .i64 (1048576 : Int))] h).bind fun r1 =>
((some r1.1).bind (getI .i64)).bind fun n2 =>
(if (decide (n2 < (0 : Int))) = true then
some ((.bool true), r1.2)
else
(run (Et base) 40 [(.slice v0 v0n v0n)] r1.2).bind fun r3 =>
((some r3.1).bind getS).bind fun l4 =>
(run (Et base) 35 [(.slice l4.1 l4.2 l4.2)] r3.2).bind fun r5 =>
((some r5.1).bind (getI .i64)).bind fun n6 =>
(run (Et base) 40 [(.slice v0 v0n v0n)] r5.2).bind fun r7 =>
((some r7.1).bind getS).bind fun l8 =>
(run (Et base) 34 [(.slice l8.1 l8.2 l8.2)] r7.2).bind fun r9 =>
((some r9.1).bind (getI .i64)).bind fun n10 =>
(if (n10 != n6) = true then
some ((.bool false), r9.2)
else
(run (Et base) 40 [(.slice v0 v0n v0n)] r9.2).bind fun r11 =>
((some r11.1).bind getS).bind fun l12 =>
(run (Et base) 41 [(.slice l8.1 l8.2 l8.2), (.slice l12.1 l12.2 l12.2)] r11.2).bind fun r13 =>
((some r13.1).bind getB).bind fun b14 =>
(if (!b14) = true then
some ((.bool false), r13.2)
else
some ((.bool true), r13.2))))) = some r) : run (Et base) 8 [(.slice v0 v0n v0n)] h = some r := run_i Try.func8 (by kernel_rfl) ((f8_eq base v0 v0n h).trans hx)
end Go.Proofs.Ytgigdaijailfkaa.Am
