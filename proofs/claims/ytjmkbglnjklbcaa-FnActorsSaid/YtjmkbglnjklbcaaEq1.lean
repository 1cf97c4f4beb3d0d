/- What each of these functions comes to on the abstract machine, one equation a function and one a loop.
Conditions: none. -/
import Derived.Test.YtjmkbglnjklbcaaTb
set_option linter.unusedVariables false
set_option maxRecDepth 100000
namespace Go.Proofs.Ytjmkbglnjklbcaa.Am
open Go Go.RowKit
noncomputable abbrev qf6 (base : Nat) (v0 : Option Addr) (v0n : Nat) (h : AH) : Option (Value × AH) :=
(run (Et base) 38 [(vL v0 v0n)] h).bind fun r1 =>
((some r1.1).bind getB).bind fun b2 =>
(if b2 = true then
some ((.bool true), r1.2)
else
(run (Et base) 39 [(vL v0 v0n)] r1.2).bind fun r3 =>
(getTup 3 r3.1).bind fun l4 =>
((l4[0]?).bind getS).bind fun l5 =>
gG (l4[1]?) 5 fun l6 =>
l_IILLL l6 fun n7 n8 l9 l10 l11 =>
((l4[2]?).bind (getI .i64)).bind fun n12 =>
nw1 r3.2 65 [(vI 0), (vI 0), (vL none 0), (vL none 0), (vL none 0)] fun h13 =>
(wr base h13 (List.length r3.2) 0 [(vI n7), (vI n8), (vL l9.1 l9.2), (vL l10.1 l10.2), (vL l11.1 l11.2)]).bind fun h14 =>
c_IILLL h14 (List.length r3.2) 0 fun n15 n16 l17 l18 l19 =>
(run (Et base) 40 [(vL l5.1 l5.2), (.agg #[(vI n15), (vI n16), (vL l17.1 l17.2), (vL l18.1 l18.2), (vL l19.1 l19.2)])] h14).bind fun r20 =>
((some r20.1).bind getB).bind fun b21 =>
c_IILLL r20.2 (List.length r3.2) 0 fun n22 n23 l24 l25 l26 =>
(run (Et base) 41 [(vL l5.1 l5.2), (.agg #[(vI n22), (vI n23), (vL l24.1 l24.2), (vL l25.1 l25.2), (vL l26.1 l26.2)]), (vI n12)] r20.2).bind fun r27 =>
(getTup 2 r27.1).bind fun l28 =>
gG (l28[0]?) 5 fun l29 =>
l_IILLL l29 fun n30 n31 l32 l33 l34 =>
gG (l28[1]?) 7 fun l35 =>
l_IIIIITL l35 fun n36 n37 n38 n39 n40 s41 l42 =>
nw1 r27.2 65 [(vI 0), (vI 0), (vL none 0), (vL none 0), (vL none 0)] fun h43 =>
nw1 h43 70 [(vI 0), (vI 0), (vI 0), (vI 0), (vI 0), (vT ⟨#[]⟩), (vL none 0)] fun h44 =>
(wr base h44 (List.length r27.2) 0 [(vI n30), (vI n31), (vL l32.1 l32.2), (vL l33.1 l33.2), (vL l34.1 l34.2)]).bind fun h45 =>
(wr base h45 (List.length h43) 0 [(vI n36), (vI n37), (vI n38), (vI n39), (vI n40), (vT s41), (vL l42.1 l42.2)]).bind fun h46 =>
c_IILLL h46 (List.length r3.2) 0 fun n47 n48 l49 l50 l51 =>
(run (Et base) 42 [(vL l5.1 l5.2), (.agg #[(vI n47), (vI n48), (vL l49.1 l49.2), (vL l50.1 l50.2), (vL l51.1 l51.2)])] h46).bind fun r52 =>
((some r52.1).bind getB).bind fun b53 =>
(if (!(b21 == b53)) = true then
some ((.bool false), r52.2)
else
(if b21 = true then
(if (decide (n12 ≥ (1 : Int))) = true then
(if (decide (n12 ≤ (99999 : Int))) = true then
some ((.bool true), r52.2)
else
((cell r52.2 (List.length h43) 0).bind (getI .i64)).bind fun n54 =>
(if (n54 == (0 : Int)) = true then
((cell r52.2 (List.length r27.2) 0).bind (getI .i64)).bind fun n55 =>
((cell r52.2 (List.length r3.2) 0).bind (getI .i64)).bind fun n56 =>
(if (n55 == n56) = true then
((cell r52.2 (List.length r27.2) 1).bind (getI .i64)).bind fun n57 =>
((cell r52.2 (List.length r3.2) 1).bind (getI .i64)).bind fun n58 =>
(if (n57 == n58) = true then
((cell r52.2 (List.length r27.2) 2).bind getS).bind fun l59 =>
((cell r52.2 (List.length r3.2) 2).bind getS).bind fun l60 =>
some ((.bool (((l59.2 : Nat) : Int) == ((l60.2 : Nat) : Int))), r52.2)
else
some ((.bool false), r52.2))
else
some ((.bool false), r52.2))
else
some ((.bool false), r52.2)))
else
((cell r52.2 (List.length h43) 0).bind (getI .i64)).bind fun n61 =>
(if (n61 == (0 : Int)) = true then
((cell r52.2 (List.length r27.2) 0).bind (getI .i64)).bind fun n62 =>
((cell r52.2 (List.length r3.2) 0).bind (getI .i64)).bind fun n63 =>
(if (n62 == n63) = true then
((cell r52.2 (List.length r27.2) 1).bind (getI .i64)).bind fun n64 =>
((cell r52.2 (List.length r3.2) 1).bind (getI .i64)).bind fun n65 =>
(if (n64 == n65) = true then
((cell r52.2 (List.length r27.2) 2).bind getS).bind fun l66 =>
((cell r52.2 (List.length r3.2) 2).bind getS).bind fun l67 =>
some ((.bool (((l66.2 : Nat) : Int) == ((l67.2 : Nat) : Int))), r52.2)
else
some ((.bool false), r52.2))
else
some ((.bool false), r52.2))
else
some ((.bool false), r52.2)))
else
((cell r52.2 (List.length h43) 0).bind (getI .i64)).bind fun n68 =>
(if (n68 == (0 : Int)) = true then
((cell r52.2 (List.length r27.2) 0).bind (getI .i64)).bind fun n69 =>
((cell r52.2 (List.length r3.2) 0).bind (getI .i64)).bind fun n70 =>
(if (n69 == n70) = true then
((cell r52.2 (List.length r27.2) 1).bind (getI .i64)).bind fun n71 =>
((cell r52.2 (List.length r3.2) 1).bind (getI .i64)).bind fun n72 =>
(if (n71 == n72) = true then
((cell r52.2 (List.length r27.2) 2).bind getS).bind fun l73 =>
((cell r52.2 (List.length r3.2) 2).bind getS).bind fun l74 =>
some ((.bool (((l73.2 : Nat) : Int) == ((l74.2 : Nat) : Int))), r52.2)
else
some ((.bool false), r52.2))
else
some ((.bool false), r52.2))
else
some ((.bool false), r52.2)))))
theorem r6 {base : Nat} {v0 : Option Addr} {v0n : Nat} {h : AH} {r : Value × AH} (hx : qf6 base v0 v0n h = some r) : run (Et base) 6 [(vL v0 v0n)] h = some r := run_i (an := a6) Try.func6 (by kernel_rfl) (.trans (by kernel_rfl) hx)
theorem r38 {base : Nat} {v0 : Option Addr} {v0n : Nat} {h : AH} {r : Value × AH} (hx : (some ((.bool (decide (((v0n : Nat) : Int) > (1048576 : Int)))), h)) = some r) : run (Et base) 38 [(vL v0 v0n)] h = some r := run_i (an := a38) Try.func38 (by kernel_rfl) (.trans (by kernel_rfl) hx)
theorem r39 {base : Nat} {v0 : Option Addr} {v0n : Nat} {h : AH} {r : Value × AH} (hx : (nw1 h 65 [(vI 0), (vI 0), (vL none 0), (vL none 0), (vL none 0)] fun h1 =>
(run (Et base) 91 [(vL v0 v0n)] h1).bind fun r2 =>
((some r2.1).bind getP).bind fun p3 =>
(run (Et base) 92 [(vL v0 v0n)] r2.2).bind fun r4 =>
(getTup 2 r4.1).bind fun l5 =>
((l5[0]?).bind getS).bind fun l6 =>
gG (l5[1]?) 5 fun l7 =>
l_IILLL l7 fun n8 n9 l10 l11 l12 =>
nw1 r4.2 65 [(vI 0), (vI 0), (vL none 0), (vL none 0), (vL none 0)] fun h13 =>
(wr base h13 (List.length r4.2) 0 [(vI n8), (vI n9), (vL l10.1 l10.2), (vL l11.1 l11.2), (vL l12.1 l12.2)]).bind fun h14 =>
c_IILLL h14 (List.length r4.2) 0 fun n15 n16 l17 l18 l19 =>
(gate (neA (some ⟨(List.length r4.2), 0, none⟩) (List.length h14))
(nw1 h14 3 [(vI (9 : Int)), (vI (10 : Int)), (vI (11 : Int)), (vI (12 : Int)), (vI (99999 : Int)), (vI (0 : Int)), (vI (100000 : Int))] fun h20 =>
(run (Et base) 93 [(.pointer p3), (vL (some ⟨(List.length h14), 0, none⟩) 7)] h20).bind fun r21 =>
((some r21.1).bind (getI .i64)).bind fun n22 =>
(gate (sameA h20 r21.2 (some ⟨(List.length r4.2), 0, none⟩) 5)
((wr base r21.2 (List.length h) 0 [(vI n15), (vI n16), (vL l17.1 l17.2), (vL l18.1 l18.2), (vL l19.1 l19.2)]).bind fun h23 =>
c_IILLL h23 (List.length h) 0 fun n24 n25 l26 l27 l28 =>
some ((.tuple #[(vL l6.1 l6.2), (.agg #[(vI n24), (vI n25), (vL l26.1 l26.2), (vL l27.1 l27.2), (vL l28.1 l28.2)]), (vI n22)]), h23)))))) = some r) : run (Et base) 39 [(vL v0 v0n)] h = some r := run_i (an := a39) Try.func39 (by kernel_rfl) (.trans (by kernel_rfl) hx)
theorem r40 {base : Nat} {v0 : Option Addr} {v0n : Nat} {v1_0 : Int} {v1_1 : Int} {v1_2 : Option Addr} {v1_2n : Nat} {v1_3 : Option Addr} {v1_3n : Nat} {v1_4 : Option Addr} {v1_4n : Nat} {h : AH} {r : Value × AH} (hx : (nw1 h 65 [(vI v1_0), (vI v1_1), (vL v1_2 v1_2n), (vL v1_3 v1_3n), (vL v1_4 v1_4n)] fun h1 =>
(run (Et base) 94 [(vL v0 v0n)] h1).bind fun r2 =>
((some r2.1).bind getB).bind fun b3 =>
(if b3 = true then
((cell r2.2 (List.length h) 0).bind (getI .i64)).bind fun n4 =>
(run (Et base) 87 [(vI n4), (vI (1 : Int)), (vI (99999 : Int))] r2.2).bind fun r5 =>
((some r5.1).bind getB).bind fun b6 =>
(if b6 = true then
((cell r5.2 (List.length h) 1).bind (getI .i64)).bind fun n7 =>
(run (Et base) 87 [(vI n7), (vI (0 : Int)), (vI (IntKind.wrap .i64 (((v0n : Nat) : Int) - (1 : Int))))] r5.2).bind fun r8 =>
((some r8.1).bind getB).bind fun b9 =>
(if b9 = true then
((cell r8.2 (List.length h) 2).bind getS).bind fun l10 =>
(if (((l10.2 : Nat) : Int) == (8 : Int)) = true then
((cell r8.2 (List.length h) 2).bind getS).bind fun l11 =>
(run (Et base) 95 [(vL l11.1 l11.2)] r8.2).bind fun r12 =>
((some r12.1).bind getB).bind fun b13 =>
(if b13 = true then
((cell r12.2 (List.length h) 3).bind getS).bind fun l14 =>
(if (decide (((l14.2 : Nat) : Int) ≤ (30 : Int))) = true then
((cell r12.2 (List.length h) 3).bind getS).bind fun l15 =>
(run (Et base) 95 [(vL l15.1 l15.2)] r12.2).bind fun r16 =>
((some r16.1).bind getB).bind fun b17 =>
(if b17 = true then
((cell r16.2 (List.length h) 4).bind getS).bind fun l18 =>
((cell r16.2 (List.length h) 0).bind (getI .i64)).bind fun n19 =>
(run (Et base) 96 [(vL l18.1 l18.2), (vI n19)] r16.2).bind fun r20 =>
((some r20.1).bind getB).bind fun b21 =>
some ((.bool b21), r20.2)
else
some ((.bool false), r16.2))
else
some ((.bool false), r12.2))
else
some ((.bool false), r12.2))
else
some ((.bool false), r8.2))
else
some ((.bool false), r8.2))
else
some ((.bool false), r5.2))
else
some ((.bool false), r2.2))) = some r) : run (Et base) 40 [(vL v0 v0n), (.agg #[(vI v1_0), (vI v1_1), (vL v1_2 v1_2n), (vL v1_3 v1_3n), (vL v1_4 v1_4n)])] h = some r := run_i (an := a40) Try.func40 (by kernel_rfl) (.trans (by kernel_rfl) hx)
noncomputable abbrev qf41 (base : Nat) (v0 : Option Addr) (v0n : Nat) (v1_0 : Int) (v1_1 : Int) (v1_2 : Option Addr) (v1_2n : Nat) (v1_3 : Option Addr) (v1_3n : Nat) (v1_4 : Option Addr) (v1_4n : Nat) (v2 : Int) (h : AH) : Option (Value × AH) :=
nw1 h 65 [(vI v1_0), (vI v1_1), (vL v1_2 v1_2n), (vL v1_3 v1_3n), (vL v1_4 v1_4n)] fun h1 =>
nw1 h1 65 [(vI 0), (vI 0), (vL none 0), (vL none 0), (vL none 0)] fun h2 =>
nw1 h2 70 [(vI 0), (vI 0), (vI 0), (vI 0), (vI 0), (vT ⟨#[]⟩), (vL none 0)] fun h3 =>
c_IILLL h3 (List.length h) 0 fun n4 n5 l6 l7 l8 =>
(run (Et base) 97 [(.agg #[(vI n4), (vI n5), (vL l6.1 l6.2), (vL l7.1 l7.2), (vL l8.1 l8.2)])] h3).bind fun r9 =>
gG (some r9.1) 5 fun l10 =>
l_IILLL l10 fun n11 n12 l13 l14 l15 =>
nw1 r9.2 65 [(vI 0), (vI 0), (vL none 0), (vL none 0), (vL none 0)] fun h16 =>
(wr base h16 (List.length r9.2) 0 [(vI n11), (vI n12), (vL l13.1 l13.2), (vL l14.1 l14.2), (vL l15.1 l15.2)]).bind fun h17 =>
(c_IILLL h17 (List.length h) 0 fun n19 n20 l21 l22 l23 =>
(run (Et base) 40 [(vL v0 v0n), (.agg #[(vI n19), (vI n20), (vL l21.1 l21.2), (vL l22.1 l22.2), (vL l23.1 l23.2)])] h17).bind fun r24 =>
((some r24.1).bind getB).bind fun b25 =>
(if (!b25) = true then
some (.inl ([some (vL v0 v0n), some (vI v2), some (vP (List.length h)), some (vP (List.length h1)), some (vP (List.length h2)), some (vP (List.length r9.2)), some (.bool true)], r24.2))
else
(run (Et base) 87 [(vI v2), (vI (1 : Int)), (vI (99999 : Int))] r24.2).bind fun r26 =>
((some r26.1).bind getB).bind fun b27 =>
some (.inl ([some (vL v0 v0n), some (vI v2), some (vP (List.length h)), some (vP (List.length h1)), some (vP (List.length h2)), some (vP (List.length r9.2)), some (.bool (!b27))], r26.2)))).bind fun j18 => joinK j18 fun j18 =>
j_LIAAAAB j18.1 fun l28 n29 d30 d31 d32 d33 b34 =>
(if b34 = true then
c_IILLL j18.2 d33.block d33.off fun n35 n36 l37 l38 l39 =>
(wr base j18.2 d31.block d31.off [(vI n35), (vI n36), (vL l37.1 l37.2), (vL l38.1 l38.2), (vL l39.1 l39.2)]).bind fun h40 =>
(wr base h40 d32.block d32.off [(vI (0 : Int)), (vI (0 : Int)), (vI (0 : Int)), (vI (0 : Int)), (vI (0 : Int)), (vT (⟨#[]⟩ : ByteArray)), (vL none 0)]).bind fun h41 =>
c_IILLL h41 d31.block d31.off fun n42 n43 l44 l45 l46 =>
c_IIIIITL h41 d32.block d32.off fun n47 n48 n49 n50 n51 s52 l53 =>
some ((.tuple #[(.agg #[(vI n42), (vI n43), (vL l44.1 l44.2), (vL l45.1 l45.2), (vL l46.1 l46.2)]), (.agg #[(vI n47), (vI n48), (vI n49), (vI n50), (vI n51), (vT s52), (vL l53.1 l53.2)])]), h41)
else
((cell j18.2 d30.block (d30.off + 1)).bind (getI .i64)).bind fun n54 =>
(if 0 ≤ n54 ∧ n54 < ((l28.2 : Nat) : Int) then
((l28.1 : Option Addr)).bind fun a55 =>
c_IIIIIT j18.2 a55.block (a55.off + Int.toNat n54 * 6) fun n56 n57 n58 n59 n60 s61 =>
nw1 j18.2 139 [(vI 0), (vI 0), (vI 0), (vI 0), (vI 0), (vT ⟨#[]⟩)] fun h62 =>
(wr base h62 (List.length j18.2) 0 [(vI n56), (vI n57), (vI n58), (vI n59), (vI n60), (vT s61)]).bind fun h63 =>
c_IIIIIT h63 (List.length j18.2) 0 fun n64 n65 n66 n67 n68 s69 =>
((cell h63 d30.block (d30.off + 2)).bind getS).bind fun l70 =>
(run (Et base) 98 [(.agg #[(vI n64), (vI n65), (vI n66), (vI n67), (vI n68), (vT s69)]), (vL l70.1 l70.2), (vI n29)] h63).bind fun r71 =>
(getTup 2 r71.1).bind fun l72 =>
gG (l72[0]?) 7 fun l73 =>
l_IIIIITL l73 fun n74 n75 n76 n77 n78 s79 l80 =>
((l72[1]?).bind getB).bind fun b81 =>
nw1 r71.2 70 [(vI 0), (vI 0), (vI 0), (vI 0), (vI 0), (vT ⟨#[]⟩), (vL none 0)] fun h82 =>
(wr base h82 (List.length r71.2) 0 [(vI n74), (vI n75), (vI n76), (vI n77), (vI n78), (vT s79), (vL l80.1 l80.2)]).bind fun h83 =>
((if (!b81) = true then
c_IILLL h83 d33.block d33.off fun n85 n86 l87 l88 l89 =>
(run (Et base) 99 [] h83).bind fun r90 =>
gG (some r90.1) 7 fun l91 =>
l_IIIIITL l91 fun n92 n93 n94 n95 n96 s97 l98 =>
(gate (sameA h83 r90.2 (some d33) 5)
((wr base r90.2 d31.block d31.off [(vI n85), (vI n86), (vL l87.1 l87.2), (vL l88.1 l88.2), (vL l89.1 l89.2)]).bind fun h99 =>
(wr base h99 d32.block d32.off [(vI n92), (vI n93), (vI n94), (vI n95), (vI n96), (vT s97), (vL l98.1 l98.2)]).bind fun h100 =>
(c_IILLL h100 d31.block d31.off fun n101 n102 l103 l104 l105 =>
c_IIIIITL h100 d32.block d32.off fun n106 n107 n108 n109 n110 s111 l112 =>
some ((.tuple #[(.agg #[(vI n101), (vI n102), (vL l103.1 l103.2), (vL l104.1 l104.2), (vL l105.1 l105.2)]), (.agg #[(vI n106), (vI n107), (vI n108), (vI n109), (vI n110), (vT s111), (vL l112.1 l112.2)])]), h100)).map .inr))
else
((cell h83 (List.length j18.2) 0).bind (getI .i64)).bind fun n113 =>
(if (n113 == (19 : Int)) = true then
c_IILLL h83 d33.block d33.off fun n114 n115 l116 l117 l118 =>
c_IIIIITL h83 (List.length r71.2) 0 fun n119 n120 n121 n122 n123 s124 l125 =>
(wr base h83 d31.block d31.off [(vI n114), (vI n115), (vL l116.1 l116.2), (vL l117.1 l117.2), (vL l118.1 l118.2)]).bind fun h126 =>
(gate (sameA h83 h126 (some ⟨(List.length r71.2), 0, none⟩) 7)
((wr base h126 d32.block d32.off [(vI n119), (vI n120), (vI n121), (vI n122), (vI n123), (vT s124), (vL l125.1 l125.2)]).bind fun h127 =>
(c_IILLL h127 d31.block d31.off fun n128 n129 l130 l131 l132 =>
c_IIIIITL h127 d32.block d32.off fun n133 n134 n135 n136 n137 s138 l139 =>
some ((.tuple #[(.agg #[(vI n128), (vI n129), (vL l130.1 l130.2), (vL l131.1 l131.2), (vL l132.1 l132.2)]), (.agg #[(vI n133), (vI n134), (vI n135), (vI n136), (vI n137), (vT s138), (vL l139.1 l139.2)])]), h127)).map .inr))
else
(((cell h83 (List.length j18.2) 0).bind (getI .i64)).bind fun n141 =>
(if (n141 == (14 : Int)) = true then
((cell h83 d30.block (d30.off + 3)).bind getS).bind fun l142 =>
some (.inl ([some (vI n29), some (vA d30), some (vA d31), some (vA d32), some (vA d33), some (vP (List.length j18.2)), some (vP (List.length r71.2)), some (.bool (((l142.2 : Nat) : Int) == (0 : Int)))], h83))
else
some (.inl ([some (vI n29), some (vA d30), some (vA d31), some (vA d32), some (vA d33), some (vP (List.length j18.2)), some (vP (List.length r71.2)), some (.bool false)], h83)))).bind fun j140 => joinK j140 fun j140 =>
j_IAAAAAAB j140.1 fun n143 d144 d145 d146 d147 d148 d149 b150 =>
(if b150 = true then
c_IILLL j140.2 d147.block d147.off fun n151 n152 l153 l154 l155 =>
(wr base j140.2 d145.block d145.off [(vI n151), (vI n152), (vL l153.1 l153.2), (vL l154.1 l154.2), (vL l155.1 l155.2)]).bind fun h156 =>
(wr base h156 d146.block d146.off [(vI (2 : Int)), (vI (0 : Int)), (vI (0 : Int)), (vI (0 : Int)), (vI (0 : Int)), (vT (⟨#[]⟩ : ByteArray)), (vL none 0)]).bind fun h157 =>
(c_IILLL h157 d145.block d145.off fun n158 n159 l160 l161 l162 =>
c_IIIIITL h157 d146.block d146.off fun n163 n164 n165 n166 n167 s168 l169 =>
some ((.tuple #[(.agg #[(vI n158), (vI n159), (vL l160.1 l160.2), (vL l161.1 l161.2), (vL l162.1 l162.2)]), (.agg #[(vI n163), (vI n164), (vI n165), (vI n166), (vI n167), (vT s168), (vL l169.1 l169.2)])]), h157)).map .inr
else
((cell j140.2 d148.block (d148.off + 0)).bind (getI .i64)).bind fun n170 =>
(if (n170 == (14 : Int)) = true then
((cell j140.2 d147.block (d147.off + 2)).bind getS).bind fun l171 =>
((cell j140.2 d148.block (d148.off + 1)).bind (getI .i64)).bind fun n172 =>
((cell j140.2 d147.block (d147.off + 3)).bind getS).bind fun l173 =>
(if 0 ≤ (0 : Int) ∧ (0 : Int) < ((l173.2 : Nat) : Int) then
((l173.1 : Option Addr)).bind fun a174 =>
c_IITL j140.2 a174.block (a174.off + Int.toNat (0 : Int) * 4) fun n175 n176 s177 l178 =>
(if 0 ≤ n172 ∧ n172 < ((l171.2 : Nat) : Int) then
((l171.1 : Option Addr)).bind fun a179 =>
(wr base j140.2 a179.block (a179.off + Int.toNat n172 * 4) [(vI n175), (vI n176), (vT s177), (vL l178.1 l178.2)]).bind fun h180 =>
((cell h180 d147.block (d147.off + 3)).bind getS).bind fun l181 =>
(if 0 ≤ (1 : Int) ∧ (1 : Int) ≤ ((l181.2 : Nat) : Int) ∧ ((l181.2 : Nat) : Int) ≤ ((l181.2 : Nat) : Int) ∧ okTy base h180 l181.1 39 (Int.toNat (1 : Int)) = true then
(wr base h180 d147.block (d147.off + 3) [(.slice (shiftA l181.1 (Int.toNat (1 : Int) * 4)) (Int.toNat ((l181.2 : Nat) : Int) - Int.toNat (1 : Int)) (Int.toNat ((l181.2 : Nat) : Int) - Int.toNat (1 : Int)))]).bind fun h182 =>
some (.inl ([some (vA d144), some (vA d145), some (vA d146), some (vA d147), some (vA d148), some (vA d149)], h182))
else none)
else none)
else none)
else
((cell j140.2 d148.block (d148.off + 0)).bind (getI .i64)).bind fun n183 =>
(run (Et base) 100 [(vI n183)] j140.2).bind fun r184 =>
((some r184.1).bind getB).bind fun b185 =>
(if b185 = true then
c_IIIIIT r184.2 d148.block d148.off fun n186 n187 n188 n189 n190 s191 =>
((cell r184.2 d144.block (d144.off + 2)).bind getS).bind fun l192 =>
((cell r184.2 d144.block (d144.off + 0)).bind (getI .i64)).bind fun n193 =>
(run (Et base) 101 [(.agg #[(vI n186), (vI n187), (vI n188), (vI n189), (vI n190), (vT s191)]), (vL l192.1 l192.2), (vI n193), (vI n143)] r184.2).bind fun r194 =>
(getTup 2 r194.1).bind fun l195 =>
gG (l195[0]?) 4 fun l196 =>
l_IITL l196 fun n197 n198 s199 l200 =>
((l195[1]?).bind getB).bind fun b201 =>
nw1 r194.2 39 [(vI 0), (vI 0), (vT ⟨#[]⟩), (vL none 0)] fun h202 =>
(wr base h202 (List.length r194.2) 0 [(vI n197), (vI n198), (vT s199), (vL l200.1 l200.2)]).bind fun h203 =>
((if (!b201) = true then
some (.inl ([some (vA d144), some (vA d145), some (vA d146), some (vA d147), some (vA d148), some (vA d149), some (vP (List.length r194.2)), some (.bool true)], h203))
else
c_IITL h203 (List.length r194.2) 0 fun n205 n206 s207 l208 =>
(run (Et base) 102 [(.agg #[(vI n205), (vI n206), (vT s207), (vL l208.1 l208.2)])] h203).bind fun r209 =>
((some r209.1).bind getB).bind fun b210 =>
some (.inl ([some (vA d144), some (vA d145), some (vA d146), some (vA d147), some (vA d148), some (vA d149), some (vP (List.length r194.2)), some (.bool (!b210))], r209.2)))).bind fun j204 => joinK j204 fun j204 =>
j_AAAAAAAB j204.1 fun d211 d212 d213 d214 d215 d216 d217 b218 =>
(if b218 = true then
c_IILLL j204.2 d214.block d214.off fun n219 n220 l221 l222 l223 =>
(run (Et base) 99 [] j204.2).bind fun r224 =>
gG (some r224.1) 7 fun l225 =>
l_IIIIITL l225 fun n226 n227 n228 n229 n230 s231 l232 =>
(gate (sameA j204.2 r224.2 (some d214) 5)
((wr base r224.2 d212.block d212.off [(vI n219), (vI n220), (vL l221.1 l221.2), (vL l222.1 l222.2), (vL l223.1 l223.2)]).bind fun h233 =>
(wr base h233 d213.block d213.off [(vI n226), (vI n227), (vI n228), (vI n229), (vI n230), (vT s231), (vL l232.1 l232.2)]).bind fun h234 =>
(c_IILLL h234 d212.block d212.off fun n235 n236 l237 l238 l239 =>
c_IIIIITL h234 d213.block d213.off fun n240 n241 n242 n243 n244 s245 l246 =>
some ((.tuple #[(.agg #[(vI n235), (vI n236), (vL l237.1 l237.2), (vL l238.1 l238.2), (vL l239.1 l239.2)]), (.agg #[(vI n240), (vI n241), (vI n242), (vI n243), (vI n244), (vT s245), (vL l246.1 l246.2)])]), h234)).map .inr))
else
((cell j204.2 d214.block (d214.off + 2)).bind getS).bind fun l247 =>
((cell j204.2 d215.block (d215.off + 1)).bind (getI .i64)).bind fun n248 =>
c_IITL j204.2 d217.block d217.off fun n249 n250 s251 l252 =>
(run (Et base) 103 [(.agg #[(vI n249), (vI n250), (vT s251), (vL l252.1 l252.2)])] j204.2).bind fun r253 =>
gG (some r253.1) 4 fun l254 =>
l_IITL l254 fun n255 n256 s257 l258 =>
(gate (sameA j204.2 r253.2 (some ⟨d215.block, (d215.off + 1), none⟩) 1)
((gate (sameA j204.2 r253.2 (some ⟨d214.block, (d214.off + 2), none⟩) 1)
((if 0 ≤ n248 ∧ n248 < ((l247.2 : Nat) : Int) then
((l247.1 : Option Addr)).bind fun a259 =>
(wr base r253.2 a259.block (a259.off + Int.toNat n248 * 4) [(vI n255), (vI n256), (vT s257), (vL l258.1 l258.2)]).bind fun h260 =>
some (.inl ([some (vA d211), some (vA d212), some (vA d213), some (vA d214), some (vA d215), some (vA d216)], h260))
else none))))))
else
some (.inl ([some (vA d144), some (vA d145), some (vA d146), some (vA d147), some (vA d148), some (vA d149)], r184.2)))))))).bind fun j84 => joinK j84 fun j84 =>
j_AAAAAA j84.1 fun d261 d262 d263 d264 d265 d266 =>
((cell j84.2 d264.block (d264.off + 1)).bind (getI .i64)).bind fun n267 =>
(wr base j84.2 d264.block (d264.off + 1) [(vI (IntKind.wrap .i64 (n267 + (1 : Int))))]).bind fun h268 =>
(c_IIIIIT h268 d265.block d265.off fun n270 n271 n272 n273 n274 s275 =>
((cell h268 d261.block (d261.off + 2)).bind getS).bind fun l276 =>
(run (Et base) 104 [(.agg #[(vI n270), (vI n271), (vI n272), (vI n273), (vI n274), (vT s275)]), (vL l276.1 l276.2)] h268).bind fun r277 =>
((some r277.1).bind getB).bind fun b278 =>
(if b278 = true then
((cell r277.2 d265.block (d265.off + 4)).bind (getI .i64)).bind fun n279 =>
(wr base r277.2 d264.block (d264.off + 1) [(vI n279)]).bind fun h280 =>
some (.inl ([some (vA d262), some (vA d263), some (vA d264), some (vA d266)], h280))
else
some (.inl ([some (vA d262), some (vA d263), some (vA d264), some (vA d266)], r277.2)))).bind fun j269 => joinK j269 fun j269 =>
j_AAAA j269.1 fun d281 d282 d283 d284 =>
c_IILLL j269.2 d283.block d283.off fun n285 n286 l287 l288 l289 =>
c_IIIIITL j269.2 d284.block d284.off fun n290 n291 n292 n293 n294 s295 l296 =>
(wr base j269.2 d281.block d281.off [(vI n285), (vI n286), (vL l287.1 l287.2), (vL l288.1 l288.2), (vL l289.1 l289.2)]).bind fun h297 =>
(gate (sameA j269.2 h297 (some d284) 7)
((wr base h297 d282.block d282.off [(vI n290), (vI n291), (vI n292), (vI n293), (vI n294), (vT s295), (vL l296.1 l296.2)]).bind fun h298 =>
c_IILLL h298 d281.block d281.off fun n299 n300 l301 l302 l303 =>
c_IIIIITL h298 d282.block d282.off fun n304 n305 n306 n307 n308 s309 l310 =>
some ((.tuple #[(.agg #[(vI n299), (vI n300), (vL l301.1 l301.2), (vL l302.1 l302.2), (vL l303.1 l303.2)]), (.agg #[(vI n304), (vI n305), (vI n306), (vI n307), (vI n308), (vT s309), (vL l310.1 l310.2)])]), h298)))
else none))
theorem r41 {base : Nat} {v0 : Option Addr} {v0n : Nat} {v1_0 : Int} {v1_1 : Int} {v1_2 : Option Addr} {v1_2n : Nat} {v1_3 : Option Addr} {v1_3n : Nat} {v1_4 : Option Addr} {v1_4n : Nat} {v2 : Int} {h : AH} {r : Value × AH} (hx : qf41 base v0 v0n v1_0 v1_1 v1_2 v1_2n v1_3 v1_3n v1_4 v1_4n v2 h = some r) : run (Et base) 41 [(vL v0 v0n), (.agg #[(vI v1_0), (vI v1_1), (vL v1_2 v1_2n), (vL v1_3 v1_3n), (vL v1_4 v1_4n)]), (vI v2)] h = some r := run_i (an := a41) Try.func41 (by kernel_rfl) (.trans (by kernel_rfl) hx)
theorem r42 {base : Nat} {v0 : Option Addr} {v0n : Nat} {v1_0 : Int} {v1_1 : Int} {v1_2 : Option Addr} {v1_2n : Nat} {v1_3 : Option Addr} {v1_3n : Nat} {v1_4 : Option Addr} {v1_4n : Nat} {h : AH} {r : Value × AH} (hx : (nw1 h 65 [(vI v1_0), (vI v1_1), (vL v1_2 v1_2n), (vL v1_3 v1_3n), (vL v1_4 v1_4n)] fun h1 =>
((run (Et base) 105 [(vL v0 v0n)] h1).bind fun r3 =>
((some r3.1).bind getB).bind fun b4 =>
(if (!b4) = true then
some (.inl ([some (vP (List.length h)), some (.bool true)], r3.2))
else
((cell r3.2 (List.length h) 0).bind (getI .i64)).bind fun n5 =>
(run (Et base) 83 [(vI n5), (vI (1 : Int)), (vI (99999 : Int))] r3.2).bind fun r6 =>
((some r6.1).bind getB).bind fun b7 =>
(if (!b7) = true then
some (.inl ([some (vP (List.length h)), some (.bool true)], r6.2))
else
((cell r6.2 (List.length h) 1).bind (getI .i64)).bind fun n8 =>
(run (Et base) 83 [(vI n8), (vI (0 : Int)), (vI (IntKind.wrap .i64 (((v0n : Nat) : Int) - (1 : Int))))] r6.2).bind fun r9 =>
((some r9.1).bind getB).bind fun b10 =>
(if (!b10) = true then
some (.inl ([some (vP (List.length h)), some (.bool true)], r9.2))
else
((cell r9.2 (List.length h) 2).bind getS).bind fun l11 =>
(if (((l11.2 : Nat) : Int) != (8 : Int)) = true then
some (.inl ([some (vP (List.length h)), some (.bool true)], r9.2))
else
((cell r9.2 (List.length h) 3).bind getS).bind fun l12 =>
some (.inl ([some (vP (List.length h)), some (.bool (decide (((l12.2 : Nat) : Int) > (30 : Int))))], r9.2))))))).bind fun j2 => joinK j2 fun j2 =>
j_AB j2.1 fun d13 b14 =>
(if b14 = true then
some ((.bool false), j2.2)
else
((cell j2.2 d13.block (d13.off + 2)).bind getS).bind fun l15 =>
(run (Et base) 106 [(vL l15.1 l15.2)] j2.2).bind fun r16 =>
((some r16.1).bind getB).bind fun b17 =>
(if b17 = true then
((cell r16.2 d13.block (d13.off + 3)).bind getS).bind fun l18 =>
(run (Et base) 106 [(vL l18.1 l18.2)] r16.2).bind fun r19 =>
((some r19.1).bind getB).bind fun b20 =>
(if b20 = true then
((cell r19.2 d13.block (d13.off + 4)).bind getS).bind fun l21 =>
((cell r19.2 d13.block (d13.off + 0)).bind (getI .i64)).bind fun n22 =>
(run (Et base) 107 [(vL l21.1 l21.2), (vI n22)] r19.2).bind fun r23 =>
((some r23.1).bind getB).bind fun b24 =>
some ((.bool b24), r23.2)
else
some ((.bool false), r19.2))
else
some ((.bool false), r16.2)))) = some r) : run (Et base) 42 [(vL v0 v0n), (.agg #[(vI v1_0), (vI v1_1), (vL v1_2 v1_2n), (vL v1_3 v1_3n), (vL v1_4 v1_4n)])] h = some r := run_i (an := a42) Try.func42 (by kernel_rfl) (.trans (by kernel_rfl) hx)
theorem r70 {base : Nat} {v0_0 : Int} {v0_1 : Int} {v0_2 : ByteArray} {v0_3 : Option Addr} {v0_3n : Nat} {h : AH} {r : Value × AH} (hx : ((some (h ++ [some ⟨[(.int .i64 v0_0), (.int .i64 v0_1), (.string v0_2), (.slice v0_3 v0_3n v0_3n)], 39⟩])).bind fun h1 =>
((cell h1 (List.length h) 0).bind (getI .i64)).bind fun n2 =>
((cell h1 (List.length h) 1).bind (getI .i64)).bind fun n3 =>
((cell h1 (List.length h) 2).bind getStr).bind fun s4 =>
((cell h1 (List.length h) 3).bind getS).bind fun l5 =>
(run (Et base) 131 [(.agg #[(.int .i64 n2), (.int .i64 n3), (.string s4), (.slice l5.1 l5.2 l5.2)]), (.int .i64 (6 : Int)), (.int .i64 (100 : Int))] h1).bind fun r6 =>
((some r6.1).bind (getI .i64)).bind fun n7 =>
some ((.bool (decide (n7 ≥ (0 : Int)))), r6.2)) = some r) : run (Et base) 70 [(.agg #[(vI v0_0), (vI v0_1), (vT v0_2), (vL v0_3 v0_3n)])] h = some r := run_i (an := a70) Try.func70 (by kernel_rfl) (.trans (by kernel_rfl) hx)
theorem r83 {base : Nat} {v0 : Int} {v1 : Int} {v2 : Int} {h : AH} {r : Value × AH} (hx : ((if (decide (v0 ≥ v1)) = true then
some ((.bool (decide (v0 ≤ v2))), h)
else
some ((.bool false), h))) = some r) : run (Et base) 83 [(vI v0), (vI v1), (vI v2)] h = some r := run_i (an := a83) Try.func83 (by kernel_rfl) (.trans (by kernel_rfl) hx)
theorem r87 {base : Nat} {v0 : Int} {v1 : Int} {v2 : Int} {h : AH} {r : Value × AH} (hx : ((if (decide (v0 ≥ v1)) = true then
some ((.bool (decide (v0 ≤ v2))), h)
else
some ((.bool false), h))) = some r) : run (Et base) 87 [(vI v0), (vI v1), (vI v2)] h = some r := run_i (an := a87) Try.func87 (by kernel_rfl) (.trans (by kernel_rfl) hx)
noncomputable def B91_0 (base : Nat) : Body := fun l h => lay s91_0 l fun s => exCode (Et base) (run (Et base)) loopL a91_0 (subC [1, 1, 0, 1, 0, 0] (bodyC Try.f91)) s h (keepK s91_0 e91_0)
theorem B91_0_eq (base : Nat) (v0 : Option Addr) (v0n : Nat) (v3 : Int) (v4 : Int) (h : AH) : B91_0 base [some (vL v0 v0n), some (vI v3), some (vI v4)] h =
(((if (decide (v4 < ((v0n : Nat) : Int))) = true then
some (.inl ([some (.slice v0 v0n v0n), some (.int .i64 v3), some (.int .i64 v4), some (.bool (decide (v4 < (4000 : Int))))], h))
else
some (.inl ([some (.slice v0 v0n v0n), some (.int .i64 v3), some (.int .i64 v4), some (.bool false)], h)))).bind fun j1 => joinK j1 fun j1 =>
((sget j1.1 0).bind getS).bind fun l2 =>
((sget (j1.1.tail) 0).bind (getI .i64)).bind fun n3 =>
((sget (j1.1.tail.tail) 0).bind (getI .i64)).bind fun n4 =>
((sget (j1.1.tail.tail.tail) 0).bind getB).bind fun b5 =>
(if b5 = true then
(if 0 ≤ n4 ∧ n4 < ((l2.2 : Nat) : Int) then
((l2.1 : Option Addr)).bind fun a6 =>
((cell j1.2 a6.block (a6.off + Int.toNat n4 * 1)).bind (getI .u8)).bind fun n7 =>
some (0, [some (.slice l2.1 l2.2 l2.2), some (.int .i64 (Go.bits .and .i64 (IntKind.wrap .i64 ((IntKind.wrap .i64 ((IntKind.wrap .i64 (n3 * (137 : Int))) + (IntKind.wrap .i64 n7))) + (11 : Int))) (1073741823 : Int))), some (.int .i64 (IntKind.wrap .i64 (n4 + (1 : Int))))], j1.2)
else none)
else
some (2, [some (.slice l2.1 l2.2 l2.2), some (.int .i64 n3)], j1.2)) : Option (Nat × Slots × AH)) := by kernel_rfl
theorem r91 {base : Nat} {v0 : Option Addr} {v0n : Nat} {h : AH} {r : Value × AH} (hx : ((loopL (B91_0 base) [some (.slice v0 v0n v0n), some (.int .i64 (IntKind.wrap .i64 ((384384 : Int) + ((v0n : Nat) : Int)))), some (.int .i64 (0 : Int))] h).bind fun q1 =>
(if q1.1 = 2 then
((sget q1.2.1 0).bind getS).bind fun l2 =>
((sget (q1.2.1.tail) 0).bind (getI .i64)).bind fun n3 =>
(some (q1.2.2 ++ [some ⟨[(.slice l2.1 l2.2 l2.2), (.int .i64 (0 : Int)), (.int .i64 n3)], 181⟩])).bind fun h4 =>
some ((.pointer (some ⟨(List.length q1.2.2), 0, none⟩)), h4)
else
none)) = some r) : run (Et base) 91 [(vL v0 v0n)] h = some r := run_i (an := a91) Try.func91 (by kernel_rfl) (.trans (by kernel_rfl) hx)
theorem r92 {base : Nat} {v0 : Option Addr} {v0n : Nat} {h : AH} {r : Value × AH} (hx : (nw1 h 65 [(vI 0), (vI 0), (vL none 0), (vL none 0), (vL none 0)] fun h1 =>
(run (Et base) 91 [(vL v0 v0n)] h1).bind fun r2 =>
((some r2.1).bind getP).bind fun p3 =>
(run (Et base) 154 [(.pointer p3)] r2.2).bind fun r4 =>
((some r4.1).bind getS).bind fun l5 =>
((run (Et base) 155 [(.pointer p3), (vI (8 : Int))] r4.2).bind fun r7 =>
((some r7.1).bind getB).bind fun b8 =>
(if b8 = true then
(run (Et base) 156 [(.pointer p3)] r7.2).bind fun r9 =>
((some r9.1).bind getS).bind fun l10 =>
some (.inl ([some (vP (List.length h)), some (.pointer p3), some (vL l10.1 l10.2)], r9.2))
else
some (.inl ([some (vP (List.length h)), some (.pointer p3), some (vL l5.1 l5.2)], r7.2)))).bind fun j6 => joinK j6 fun j6 =>
j_APL j6.1 fun d11 p12 l13 =>
(run (Et base) 157 [(.pointer p12), (vL l13.1 l13.2)] j6.2).bind fun r14 =>
gG (some r14.1) 5 fun l15 =>
l_IILLL l15 fun n16 n17 l18 l19 l20 =>
(wr base r14.2 d11.block d11.off [(vI n16), (vI n17), (vL l18.1 l18.2), (vL l19.1 l19.2), (vL l20.1 l20.2)]).bind fun h21 =>
c_IILLL h21 d11.block d11.off fun n22 n23 l24 l25 l26 =>
some ((.tuple #[(vL l13.1 l13.2), (.agg #[(vI n22), (vI n23), (vL l24.1 l24.2), (vL l25.1 l25.2), (vL l26.1 l26.2)])]), h21)) = some r) : run (Et base) 92 [(vL v0 v0n)] h = some r := run_i (an := a92) Try.func92 (by kernel_rfl) (.trans (by kernel_rfl) hx)
theorem r93 {base : Nat} {v0 : Option Addr} {v1 : Option Addr} {v1n : Nat} {h : AH} {r : Value × AH} (hx : ((run (Et base) 158 [(.pointer v0), (.int .i64 ((v1n : Nat) : Int))] h).bind fun r1 =>
((some r1.1).bind (getI .i64)).bind fun n2 =>
(if 0 ≤ n2 ∧ n2 < ((v1n : Nat) : Int) then
((v1 : Option Addr)).bind fun a3 =>
((cell r1.2 a3.block (a3.off + Int.toNat n2 * 1)).bind (getI .i64)).bind fun n4 =>
some ((.int .i64 n4), r1.2)
else none)) = some r) : run (Et base) 93 [(.pointer v0), (vL v1 v1n)] h = some r := run_i (an := a93) Try.func93 (by kernel_rfl) (.trans (by kernel_rfl) hx)
noncomputable def B94_0 (base : Nat) : Body := fun l h => lay s94_0 l fun s => exCode (Et base) (run (Et base)) loopL a94_0 (subC [1, 1, 0, 1, 0, 0] (bodyC Try.f94)) s h (keepK s94_0 e94_0)
theorem B94_0_eq (base : Nat) (v0 : Option Addr) (v0n : Nat) (v3 : Int) (v8 : Option Addr) (v8n : Nat) (v9 : Int) (v10 : Int) (h : AH) : B94_0 base [some (vL v0 v0n), some (vI v3), some (vL v8 v8n), some (vI v9), some (vI v10)] h =
((if (decide (v10 < v9)) = true then
(if 0 ≤ v10 ∧ v10 < ((v8n : Nat) : Int) then
((v8 : Option Addr)).bind fun a1 =>
c_IIIIIT h a1.block (a1.off + Int.toNat v10 * 6) fun n2 n3 n4 n5 n6 s7 =>
nw1 h 139 [(vI 0), (vI 0), (vI 0), (vI 0), (vI 0), (vT ⟨#[]⟩)] fun h8 =>
(wr base h8 (List.length h) 0 [(vI n2), (vI n3), (vI n4), (vI n5), (vI n6), (vT s7)]).bind fun h9 =>
c_IIIIIT h9 (List.length h) 0 fun n10 n11 n12 n13 n14 s15 =>
(run (Et base) 159 [(.agg #[(vI n10), (vI n11), (vI n12), (vI n13), (vI n14), (vT s15)]), (vI v3)] h9).bind fun r16 =>
((some r16.1).bind getB).bind fun b17 =>
(if (!b17) = true then
some (1, [some (.bool false)], r16.2)
else
some (0, [some (vL v0 v0n), some (vI v3), some (vL v8 v8n), some (vI v9), some (vI (IntKind.wrap .i64 (v10 + (1 : Int))))], r16.2))
else none)
else
some (2, [some (vL v0 v0n), some (vI v3)], h)) : Option (Nat × Slots × AH)) := by kernel_rfl
theorem r94 {base : Nat} {v0 : Option Addr} {v0n : Nat} {h : AH} {r : Value × AH} (hx : ((loopL (B94_0 base) [some (.slice v0 v0n v0n), some (.int .i64 ((v0n : Nat) : Int)), some (.slice v0 v0n v0n), some (.int .i64 ((v0n : Nat) : Int)), some (.int .i64 (0 : Int))] h).bind fun q1 =>
(if q1.1 = 1 then
((sget q1.2.1 0).bind getB).bind fun b2 =>
some ((.bool b2), q1.2.2)
else
(if q1.1 = 2 then
((sget q1.2.1 0).bind getS).bind fun l3 =>
((sget (q1.2.1.tail) 0).bind (getI .i64)).bind fun n4 =>
(run (Et base) 87 [(.int .i64 n4), (.int .i64 (1 : Int)), (.int .i64 (200 : Int))] q1.2.2).bind fun r5 =>
((some r5.1).bind getB).bind fun b6 =>
(if b6 = true then
(if 0 ≤ (IntKind.wrap .i64 (n4 - (1 : Int))) ∧ (IntKind.wrap .i64 (n4 - (1 : Int))) < ((l3.2 : Nat) : Int) then
((l3.1 : Option Addr)).bind fun a7 =>
((cell r5.2 a7.block ((a7.off + Int.toNat (IntKind.wrap .i64 (n4 - (1 : Int))) * 6) + 0)).bind (getI .i64)).bind fun n8 =>
(if (n8 == (19 : Int)) = true then
some ((.bool true), r5.2)
else
(if 0 ≤ (IntKind.wrap .i64 (n4 - (1 : Int))) ∧ (IntKind.wrap .i64 (n4 - (1 : Int))) < ((l3.2 : Nat) : Int) then
((l3.1 : Option Addr)).bind fun a9 =>
((cell r5.2 a9.block ((a9.off + Int.toNat (IntKind.wrap .i64 (n4 - (1 : Int))) * 6) + 0)).bind (getI .i64)).bind fun n10 =>
some ((.bool (n10 == (12 : Int))), r5.2)
else none))
else none)
else
some ((.bool false), r5.2))
else
none))) = some r) : run (Et base) 94 [(vL v0 v0n)] h = some r := run_i (an := a94) Try.func94 (by kernel_rfl) (.trans (by kernel_rfl) hx)
noncomputable def B95_0 (base : Nat) : Body := fun l h => lay s95_0 l fun s => exCode (Et base) (run (Et base)) loopL a95_0 (subC [1, 0, 1, 0, 0] (bodyC Try.f95)) s h (keepK s95_0 e95_0)
theorem B95_0_eq (base : Nat) (v5 : Option Addr) (v5n : Nat) (v6 : Int) (v7 : Int) (h : AH) : B95_0 base [some (vL v5 v5n), some (vI v6), some (vI v7)] h =
((if (decide (v7 < v6)) = true then
(if 0 ≤ v7 ∧ v7 < ((v5n : Nat) : Int) then
((v5 : Option Addr)).bind fun a1 =>
((cell h a1.block (a1.off + Int.toNat v7 * 4)).bind (getI .i64)).bind fun n2 =>
((cell h a1.block ((a1.off + Int.toNat v7 * 4) + 1)).bind (getI .i64)).bind fun n3 =>
((cell h a1.block (((a1.off + Int.toNat v7 * 4) + 1) + 1)).bind getStr).bind fun s4 =>
((cell h a1.block ((((a1.off + Int.toNat v7 * 4) + 1) + 1) + 1)).bind getS).bind fun l5 =>
(some (h ++ [some ⟨[(.int .i64 0), (.int .i64 0), (.string ⟨#[]⟩), (.slice none 0 0)], 39⟩])).bind fun h6 =>
(wr base h6 (List.length h) 0 [(.int .i64 n2), (.int .i64 n3), (.string s4), (.slice l5.1 l5.2 l5.2)]).bind fun h7 =>
((cell h7 (List.length h) 0).bind (getI .i64)).bind fun n8 =>
((cell h7 (List.length h) 1).bind (getI .i64)).bind fun n9 =>
((cell h7 (List.length h) 2).bind getStr).bind fun s10 =>
((cell h7 (List.length h) 3).bind getS).bind fun l11 =>
(run (Et base) 102 [(.agg #[(.int .i64 n8), (.int .i64 n9), (.string s10), (.slice l11.1 l11.2 l11.2)])] h7).bind fun r12 =>
((some r12.1).bind getB).bind fun b13 =>
(if (!b13) = true then
some (1, [some (.bool false)], r12.2)
else
some (0, [some (.slice v5 v5n v5n), some (.int .i64 v6), some (.int .i64 (IntKind.wrap .i64 (v7 + (1 : Int))))], r12.2))
else none)
else
some (2, [], h)) : Option (Nat × Slots × AH)) := by kernel_rfl
theorem r95 {base : Nat} {v0 : Option Addr} {v0n : Nat} {h : AH} {r : Value × AH} (hx : ((loopL (B95_0 base) [some (.slice v0 v0n v0n), some (.int .i64 ((v0n : Nat) : Int)), some (.int .i64 (0 : Int))] h).bind fun q1 =>
(if q1.1 = 1 then
((sget q1.2.1 0).bind getB).bind fun b2 =>
some ((.bool b2), q1.2.2)
else
(if q1.1 = 2 then
some ((.bool true), q1.2.2)
else
none))) = some r) : run (Et base) 95 [(vL v0 v0n)] h = some r := run_i (an := a95) Try.func95 (by kernel_rfl) (.trans (by kernel_rfl) hx)
noncomputable def B96_0 (base : Nat) : Body := fun l h => lay s96_0 l fun s => exCode (Et base) (run (Et base)) loopL a96_0 (subC [1, 0, 1, 0, 0] (bodyC Try.f96)) s h (keepK s96_0 e96_0)
theorem B96_0_eq (base : Nat) (v0 : Option Addr) (v0n : Nat) (v1 : Int) (v7 : Option Addr) (v7n : Nat) (v8 : Int) (v9 : Int) (h : AH) : B96_0 base [some (vL v0 v0n), some (vI v1), some (vL v7 v7n), some (vI v8), some (vI v9)] h =
((if (decide (v9 < v8)) = true then
(if 0 ≤ v9 ∧ v9 < ((v7n : Nat) : Int) then
((v7 : Option Addr)).bind fun a1 =>
((cell h a1.block (a1.off + Int.toNat v9 * 1)).bind (getI .i64)).bind fun n2 =>
((run (Et base) 87 [(vI n2), (vI (1 : Int)), (vI (99999 : Int))] h).bind fun r4 =>
((some r4.1).bind getB).bind fun b5 =>
(if (!b5) = true then
some (.inl ([some (vL v0 v0n), some (vI v1), some (vL v7 v7n), some (vI v8), some (vI v9), some (.bool true)], r4.2))
else
(if (n2 == v1) = true then
some (.inl ([some (vL v0 v0n), some (vI v1), some (vL v7 v7n), some (vI v8), some (vI v9), some (.bool true)], r4.2))
else
(if (decide (v9 > (0 : Int))) = true then
(if 0 ≤ (IntKind.wrap .i64 (v9 - (1 : Int))) ∧ (IntKind.wrap .i64 (v9 - (1 : Int))) < ((v0n : Nat) : Int) then
((v0 : Option Addr)).bind fun a6 =>
((cell r4.2 a6.block (a6.off + Int.toNat (IntKind.wrap .i64 (v9 - (1 : Int))) * 1)).bind (getI .i64)).bind fun n7 =>
some (.inl ([some (vL v0 v0n), some (vI v1), some (vL v7 v7n), some (vI v8), some (vI v9), some (.bool (decide (n7 ≥ n2)))], r4.2))
else none)
else
some (.inl ([some (vL v0 v0n), some (vI v1), some (vL v7 v7n), some (vI v8), some (vI v9), some (.bool false)], r4.2)))))).bind fun j3 => joinK j3 fun j3 =>
j_LILIIB j3.1 fun l8 n9 l10 n11 n12 b13 =>
(if b13 = true then
some (1, [some (.bool false)], j3.2)
else
some (0, [some (vL l8.1 l8.2), some (vI n9), some (vL l10.1 l10.2), some (vI n11), some (vI (IntKind.wrap .i64 (n12 + (1 : Int))))], j3.2))
else none)
else
some (2, [some (vL v0 v0n)], h)) : Option (Nat × Slots × AH)) := by kernel_rfl
theorem r96 {base : Nat} {v0 : Option Addr} {v0n : Nat} {v1 : Int} {h : AH} {r : Value × AH} (hx : ((loopL (B96_0 base) [some (.slice v0 v0n v0n), some (.int .i64 v1), some (.slice v0 v0n v0n), some (.int .i64 ((v0n : Nat) : Int)), some (.int .i64 (0 : Int))] h).bind fun q1 =>
(if q1.1 = 1 then
((sget q1.2.1 0).bind getB).bind fun b2 =>
some ((.bool b2), q1.2.2)
else
(if q1.1 = 2 then
((sget q1.2.1 0).bind getS).bind fun l3 =>
some ((.bool (decide (((l3.2 : Nat) : Int) ≤ (50 : Int)))), q1.2.2)
else
none))) = some r) : run (Et base) 96 [(vL v0 v0n), (vI v1)] h = some r := run_i (an := a96) Try.func96 (by kernel_rfl) (.trans (by kernel_rfl) hx)
theorem r97 {base : Nat} {v0_0 : Int} {v0_1 : Int} {v0_2 : Option Addr} {v0_2n : Nat} {v0_3 : Option Addr} {v0_3n : Nat} {v0_4 : Option Addr} {v0_4n : Nat} {h : AH} {r : Value × AH} (hx : (nw1 h 65 [(vI v0_0), (vI v0_1), (vL v0_2 v0_2n), (vL v0_3 v0_3n), (vL v0_4 v0_4n)] fun h1 =>
nw1 h1 65 [(vI 0), (vI 0), (vL none 0), (vL none 0), (vL none 0)] fun h2 =>
((cell h2 (List.length h) 2).bind getS).bind fun l3 =>
(run (Et base) 160 [(vL l3.1 l3.2)] h2).bind fun r4 =>
((some r4.1).bind getS).bind fun l5 =>
(gate (sameA h2 r4.2 (some ⟨(List.length h), 3, none⟩) 1)
(((cell r4.2 (List.length h) 3).bind getS).bind fun l6 =>
(run (Et base) 160 [(vL l6.1 l6.2)] r4.2).bind fun r7 =>
((some r7.1).bind getS).bind fun l8 =>
(gate (sameA r4.2 r7.2 (some ⟨(List.length h), 4, none⟩) 1)
((gate (sameA h2 r7.2 (some ⟨(List.length h), 4, none⟩) 1)
(((cell r7.2 (List.length h) 4).bind getS).bind fun l9 =>
(run (Et base) 110 [(vL l9.1 l9.2)] r7.2).bind fun r10 =>
((some r10.1).bind getS).bind fun l11 =>
(wr base r10.2 (List.length h) 2 [(vL l5.1 l5.2)]).bind fun h12 =>
(wr base h12 (List.length h) 3 [(vL l8.1 l8.2)]).bind fun h13 =>
(wr base h13 (List.length h) 4 [(vL l11.1 l11.2)]).bind fun h14 =>
c_IILLL h14 (List.length h) 0 fun n15 n16 l17 l18 l19 =>
(wr base h14 (List.length h1) 0 [(vI n15), (vI n16), (vL l17.1 l17.2), (vL l18.1 l18.2), (vL l19.1 l19.2)]).bind fun h20 =>
c_IILLL h20 (List.length h1) 0 fun n21 n22 l23 l24 l25 =>
some ((.agg #[(vI n21), (vI n22), (vL l23.1 l23.2), (vL l24.1 l24.2), (vL l25.1 l25.2)]), h20)))))))) = some r) : run (Et base) 97 [(.agg #[(vI v0_0), (vI v0_1), (vL v0_2 v0_2n), (vL v0_3 v0_3n), (vL v0_4 v0_4n)])] h = some r := run_i (an := a97) Try.func97 (by kernel_rfl) (.trans (by kernel_rfl) hx)
noncomputable abbrev qf98 (base : Nat) (v0_0 : Int) (v0_1 : Int) (v0_2 : Int) (v0_3 : Int) (v0_4 : Int) (v0_5 : ByteArray) (v1 : Option Addr) (v1n : Nat) (v2 : Int) (h : AH) : Option (Value × AH) :=
nw1 h 139 [(vI v0_0), (vI v0_1), (vI v0_2), (vI v0_3), (vI v0_4), (vT v0_5)] fun h1 =>
nw1 h1 70 [(vI 0), (vI 0), (vI 0), (vI 0), (vI 0), (vT ⟨#[]⟩), (vL none 0)] fun h2 =>
((cell h2 (List.length h) 1).bind (getI .i64)).bind fun n3 =>
(if 0 ≤ n3 ∧ n3 < ((v1n : Nat) : Int) then
((v1 : Option Addr)).bind fun a4 =>
c_IITL h2 a4.block (a4.off + Int.toNat n3 * 4) fun n5 n6 s7 l8 =>
nw1 h2 39 [(vI 0), (vI 0), (vT ⟨#[]⟩), (vL none 0)] fun h9 =>
(wr base h9 (List.length h2) 0 [(vI n5), (vI n6), (vT s7), (vL l8.1 l8.2)]).bind fun h10 =>
((cell h10 (List.length h) 0).bind (getI .i64)).bind fun n11 =>
(if (n11 == (13 : Int)) = true then
((cell h10 (List.length h2) 1).bind (getI .i64)).bind fun n12 =>
((cell h10 (List.length h) 2).bind (getI .i64)).bind fun n13 =>
(if 0 ≤ n13 ∧ n13 < ((v1n : Nat) : Int) then
((v1 : Option Addr)).bind fun a14 =>
c_IITL h10 a14.block (a14.off + Int.toNat n13 * 4) fun n15 n16 s17 l18 =>
(run (Et base) 103 [(.agg #[(vI n15), (vI n16), (vT s17), (vL l18.1 l18.2)])] h10).bind fun r19 =>
gG (some r19.1) 4 fun l20 =>
l_IITL l20 fun n21 n22 s23 l24 =>
(gate (sameA h10 r19.2 (some ⟨(List.length h2), 1, none⟩) 1)
((gate (sameA h10 r19.2 (some ⟨(List.length h2), 0, none⟩) 1)
(((cell r19.2 (List.length h2) 0).bind (getI .i64)).bind fun n25 =>
(wr base r19.2 (List.length h1) 0 [(vI (3 : Int)), (vI n12), (vI (0 : Int)), (vI n21), (vI n22), (vT s23), (vL l24.1 l24.2)]).bind fun h26 =>
(gate (sameA r19.2 h26 (some ⟨(List.length h2), 0, none⟩) 1)
(c_IIIIITL h26 (List.length h1) 0 fun n27 n28 n29 n30 n31 s32 l33 =>
some ((.tuple #[(.agg #[(vI n27), (vI n28), (vI n29), (vI n30), (vI n31), (vT s32), (vL l33.1 l33.2)]), (.bool (n25 == (3 : Int)))]), h26)))))))
else none)
else
(if (n11 == (16 : Int)) = true then
((cell h10 (List.length h) 4).bind (getI .i64)).bind fun n34 =>
((cell h10 (List.length h) 2).bind (getI .i64)).bind fun n35 =>
(if 0 ≤ n35 ∧ n35 < ((v1n : Nat) : Int) then
((v1 : Option Addr)).bind fun a36 =>
c_IITL h10 a36.block (a36.off + Int.toNat n35 * 4) fun n37 n38 s39 l40 =>
(run (Et base) 103 [(.agg #[(vI n37), (vI n38), (vT s39), (vL l40.1 l40.2)])] h10).bind fun r41 =>
gG (some r41.1) 4 fun l42 =>
l_IITL l42 fun n43 n44 s45 l46 =>
(gate (sameA h10 r41.2 (some ⟨(List.length h), 4, none⟩) 1)
((wr base r41.2 (List.length h1) 0 [(vI (4 : Int)), (vI v2), (vI n34), (vI n43), (vI n44), (vT s45), (vL l46.1 l46.2)]).bind fun h47 =>
c_IIIIITL h47 (List.length h1) 0 fun n48 n49 n50 n51 n52 s53 l54 =>
some ((.tuple #[(.agg #[(vI n48), (vI n49), (vI n50), (vI n51), (vI n52), (vT s53), (vL l54.1 l54.2)]), (.bool true)]), h47)))
else none)
else
(if (n11 == (17 : Int)) = true then
c_IITL h10 (List.length h2) 0 fun n55 n56 s57 l58 =>
(run (Et base) 103 [(.agg #[(vI n55), (vI n56), (vT s57), (vL l58.1 l58.2)])] h10).bind fun r59 =>
gG (some r59.1) 4 fun l60 =>
l_IITL l60 fun n61 n62 s63 l64 =>
(wr base r59.2 (List.length h1) 0 [(vI (5 : Int)), (vI (0 : Int)), (vI (0 : Int)), (vI n61), (vI n62), (vT s63), (vL l64.1 l64.2)]).bind fun h65 =>
c_IIIIITL h65 (List.length h1) 0 fun n66 n67 n68 n69 n70 s71 l72 =>
some ((.tuple #[(.agg #[(vI n66), (vI n67), (vI n68), (vI n69), (vI n70), (vT s71), (vL l72.1 l72.2)]), (.bool true)]), h65)
else
(if (n11 == (18 : Int)) = true then
((cell h10 (List.length h2) 1).bind (getI .i64)).bind fun n73 =>
((cell h10 (List.length h2) 0).bind (getI .i64)).bind fun n74 =>
(wr base h10 (List.length h1) 0 [(vI (6 : Int)), (vI n73), (vI (0 : Int)), (vI (0 : Int)), (vI (0 : Int)), (vT (⟨#[]⟩ : ByteArray)), (vL none 0)]).bind fun h75 =>
(gate (sameA h10 h75 (some ⟨(List.length h2), 0, none⟩) 1)
(c_IIIIITL h75 (List.length h1) 0 fun n76 n77 n78 n79 n80 s81 l82 =>
some ((.tuple #[(.agg #[(vI n76), (vI n77), (vI n78), (vI n79), (vI n80), (vT s81), (vL l82.1 l82.2)]), (.bool (n74 == (3 : Int)))]), h75)))
else
(if (n11 == (19 : Int)) = true then
c_IITL h10 (List.length h2) 0 fun n83 n84 s85 l86 =>
(run (Et base) 103 [(.agg #[(vI n83), (vI n84), (vT s85), (vL l86.1 l86.2)])] h10).bind fun r87 =>
gG (some r87.1) 4 fun l88 =>
l_IITL l88 fun n89 n90 s91 l92 =>
(wr base r87.2 (List.length h1) 0 [(vI (7 : Int)), (vI (0 : Int)), (vI (0 : Int)), (vI n89), (vI n90), (vT s91), (vL l92.1 l92.2)]).bind fun h93 =>
c_IIIIITL h93 (List.length h1) 0 fun n94 n95 n96 n97 n98 s99 l100 =>
some ((.tuple #[(.agg #[(vI n94), (vI n95), (vI n96), (vI n97), (vI n98), (vT s99), (vL l100.1 l100.2)]), (.bool true)]), h93)
else
(wr base h10 (List.length h1) 0 [(vI (1 : Int)), (vI (0 : Int)), (vI (0 : Int)), (vI (0 : Int)), (vI (0 : Int)), (vT (⟨#[]⟩ : ByteArray)), (vL none 0)]).bind fun h101 =>
c_IIIIITL h101 (List.length h1) 0 fun n102 n103 n104 n105 n106 s107 l108 =>
some ((.tuple #[(.agg #[(vI n102), (vI n103), (vI n104), (vI n105), (vI n106), (vT s107), (vL l108.1 l108.2)]), (.bool true)]), h101))))))
else none)
theorem r98 {base : Nat} {v0_0 : Int} {v0_1 : Int} {v0_2 : Int} {v0_3 : Int} {v0_4 : Int} {v0_5 : ByteArray} {v1 : Option Addr} {v1n : Nat} {v2 : Int} {h : AH} {r : Value × AH} (hx : qf98 base v0_0 v0_1 v0_2 v0_3 v0_4 v0_5 v1 v1n v2 h = some r) : run (Et base) 98 [(.agg #[(vI v0_0), (vI v0_1), (vI v0_2), (vI v0_3), (vI v0_4), (vT v0_5)]), (vL v1 v1n), (vI v2)] h = some r := run_i (an := a98) Try.func98 (by kernel_rfl) (.trans (by kernel_rfl) hx)
theorem r99 {base : Nat}  {h : AH} {r : Value × AH} (hx : ((some (h ++ [some ⟨[(.int .i64 0), (.int .i64 0), (.int .i64 0), (.int .i64 0), (.int .i64 0), (.string ⟨#[]⟩), (.slice none 0 0)], 70⟩])).bind fun h1 =>
(run (Et base) 161 [(.string (⟨#[102, 97, 117, 108, 116]⟩ : ByteArray))] h1).bind fun r2 =>
((some r2.1).bind (getAgg 4)).bind fun l3 =>
((l3[0]?).bind (getI .i64)).bind fun n4 =>
((l3[1]?).bind (getI .i64)).bind fun n5 =>
((l3[2]?).bind getStr).bind fun s6 =>
((l3[3]?).bind getS).bind fun l7 =>
(wr base r2.2 (List.length h) 0 [(.int .i64 (7 : Int)), (.int .i64 (0 : Int)), (.int .i64 (0 : Int)), (.int .i64 n4), (.int .i64 n5), (.string s6), (.slice l7.1 l7.2 l7.2)]).bind fun h8 =>
((cell h8 (List.length h) 0).bind (getI .i64)).bind fun n9 =>
((cell h8 (List.length h) 1).bind (getI .i64)).bind fun n10 =>
((cell h8 (List.length h) 2).bind (getI .i64)).bind fun n11 =>
((cell h8 (List.length h) 3).bind (getI .i64)).bind fun n12 =>
((cell h8 (List.length h) 4).bind (getI .i64)).bind fun n13 =>
((cell h8 (List.length h) 5).bind getStr).bind fun s14 =>
((cell h8 (List.length h) 6).bind getS).bind fun l15 =>
some ((.agg #[(.int .i64 n9), (.int .i64 n10), (.int .i64 n11), (.int .i64 n12), (.int .i64 n13), (.string s14), (.slice l15.1 l15.2 l15.2)]), h8)) = some r) : run (Et base) 99 [] h = some r := run_i (an := a99) Try.func99 (by kernel_rfl) (.trans (by kernel_rfl) hx)
theorem r100 {base : Nat} {v0 : Int} {h : AH} {r : Value × AH} (hx : (((if (v0 == (10 : Int)) = true then
some (.inl ([some (.bool (v0 == (10 : Int)))], h))
else
(if (v0 == (11 : Int)) = true then
some (.inl ([some (.bool (v0 == (11 : Int)))], h))
else
(if (v0 == (12 : Int)) = true then
some (.inl ([some (.bool (v0 == (12 : Int)))], h))
else
(if (v0 == (13 : Int)) = true then
some (.inl ([some (.bool (v0 == (13 : Int)))], h))
else
(if (v0 == (17 : Int)) = true then
some (.inl ([some (.bool (v0 == (17 : Int)))], h))
else
(if (v0 == (18 : Int)) = true then
some (.inl ([some (.bool (v0 == (18 : Int)))], h))
else
some (.inl ([some (.bool (v0 == (19 : Int)))], h))))))))).bind fun j1 => joinK j1 fun j1 =>
((sget j1.1 0).bind getB).bind fun b2 =>
(if b2 = true then
some ((.bool false), j1.2)
else
some ((.bool true), j1.2))) = some r) : run (Et base) 100 [(vI v0)] h = some r := run_i (an := a100) Try.func100 (by kernel_rfl) (.trans (by kernel_rfl) hx)
noncomputable abbrev qf101 (base : Nat) (v0_0 : Int) (v0_1 : Int) (v0_2 : Int) (v0_3 : Int) (v0_4 : Int) (v0_5 : ByteArray) (v1 : Option Addr) (v1n : Nat) (v2 : Int) (v3 : Int) (h : AH) : Option (Value × AH) :=
nw1 h 139 [(vI v0_0), (vI v0_1), (vI v0_2), (vI v0_3), (vI v0_4), (vT v0_5)] fun h1 =>
nw1 h1 39 [(vI 0), (vI 0), (vT ⟨#[]⟩), (vL none 0)] fun h2 =>
((cell h2 (List.length h) 2).bind (getI .i64)).bind fun n3 =>
(if 0 ≤ n3 ∧ n3 < ((v1n : Nat) : Int) then
((v1 : Option Addr)).bind fun a4 =>
c_IITL h2 a4.block (a4.off + Int.toNat n3 * 4) fun n5 n6 s7 l8 =>
((cell h2 (List.length h) 3).bind (getI .i64)).bind fun n9 =>
(if 0 ≤ n9 ∧ n9 < ((v1n : Nat) : Int) then
((v1 : Option Addr)).bind fun a10 =>
c_IITL h2 a10.block (a10.off + Int.toNat n9 * 4) fun n11 n12 s13 l14 =>
(gate (neA (some ⟨a10.block, (a10.off + Int.toNat n9 * 4), none⟩) (List.length h2))
((gate (neA (some ⟨(List.length h), 3, none⟩) (List.length h2))
((gate (neA (some ⟨a4.block, (a4.off + Int.toNat n3 * 4), none⟩) (List.length h2))
((gate (neA (some ⟨(List.length h), 2, none⟩) (List.length h2))
(nw1 h2 39 [(vI 0), (vI 0), (vT ⟨#[]⟩), (vL none 0)] fun h15 =>
(gate (neA (some ⟨a10.block, (a10.off + Int.toNat n9 * 4), none⟩) (List.length h15))
((gate (neA (some ⟨(List.length h), 3, none⟩) (List.length h15))
((gate (neA (some ⟨a4.block, (a4.off + Int.toNat n3 * 4), none⟩) (List.length h15))
((gate (neA (some ⟨(List.length h), 2, none⟩) (List.length h15))
(nw1 h15 39 [(vI 0), (vI 0), (vT ⟨#[]⟩), (vL none 0)] fun h16 =>
(wr base h16 (List.length h2) 0 [(vI n5), (vI n6), (vT s7), (vL l8.1 l8.2)]).bind fun h17 =>
(gate (sameA h16 h17 (some ⟨a10.block, (a10.off + Int.toNat n9 * 4), none⟩) 4)
((gate (sameA h16 h17 (some ⟨(List.length h), 3, none⟩) 1)
((wr base h17 (List.length h15) 0 [(vI n11), (vI n12), (vT s13), (vL l14.1 l14.2)]).bind fun h18 =>
((cell h18 (List.length h) 0).bind (getI .i64)).bind fun n19 =>
(if (n19 == (1 : Int)) = true then
((cell h18 (List.length h) 4).bind (getI .i64)).bind fun n20 =>
(wr base h18 (List.length h1) 0 [(vI (1 : Int)), (vI n20), (vT (⟨#[]⟩ : ByteArray)), (vL none 0)]).bind fun h21 =>
c_IITL h21 (List.length h1) 0 fun n22 n23 s24 l25 =>
some ((.tuple #[(.agg #[(vI n22), (vI n23), (vT s24), (vL l25.1 l25.2)]), (.bool true)]), h21)
else
(if (n19 == (2 : Int)) = true then
((cell h18 (List.length h) 5).bind getStr).bind fun s26 =>
(run (Et base) 161 [(vT s26)] h18).bind fun r27 =>
gG (some r27.1) 4 fun l28 =>
l_IITL l28 fun n29 n30 s31 l32 =>
(wr base r27.2 (List.length h1) 0 [(vI n29), (vI n30), (vT s31), (vL l32.1 l32.2)]).bind fun h33 =>
c_IITL h33 (List.length h1) 0 fun n34 n35 s36 l37 =>
some ((.tuple #[(.agg #[(vI n34), (vI n35), (vT s36), (vL l37.1 l37.2)]), (.bool true)]), h33)
else
(if (n19 == (20 : Int)) = true then
(wr base h18 (List.length h1) 0 [(vI (5 : Int)), (vI (0 : Int)), (vT (⟨#[]⟩ : ByteArray)), (vL none 0)]).bind fun h38 =>
c_IITL h38 (List.length h1) 0 fun n39 n40 s41 l42 =>
some ((.tuple #[(.agg #[(vI n39), (vI n40), (vT s41), (vL l42.1 l42.2)]), (.bool true)]), h38)
else
(if (n19 == (3 : Int)) = true then
c_IITL h18 (List.length h2) 0 fun n43 n44 s45 l46 =>
(wr base h18 (List.length h1) 0 [(vI n43), (vI n44), (vT s45), (vL l46.1 l46.2)]).bind fun h47 =>
c_IITL h47 (List.length h1) 0 fun n48 n49 s50 l51 =>
some ((.tuple #[(.agg #[(vI n48), (vI n49), (vT s50), (vL l51.1 l51.2)]), (.bool true)]), h47)
else
(if (n19 == (4 : Int)) = true then
((cell h18 (List.length h) 2).bind (getI .i64)).bind fun n52 =>
((cell h18 (List.length h) 2).bind (getI .i64)).bind fun n53 =>
((cell h18 (List.length h) 4).bind (getI .i64)).bind fun n54 =>
(if 0 ≤ n52 ∧ n52 ≤ (IntKind.wrap .i64 (n53 + n54)) ∧ (IntKind.wrap .i64 (n53 + n54)) ≤ ((v1n : Nat) : Int) ∧ okTy base h18 v1 39 (Int.toNat n52) = true then
(wr base h18 (List.length h1) 0 [(vI (4 : Int)), (vI (0 : Int)), (vT (⟨#[]⟩ : ByteArray)), (.slice (shiftA v1 (Int.toNat n52 * 4)) (Int.toNat (IntKind.wrap .i64 (n53 + n54)) - Int.toNat n52) (Int.toNat (IntKind.wrap .i64 (n53 + n54)) - Int.toNat n52))]).bind fun h55 =>
c_IITL h55 (List.length h1) 0 fun n56 n57 s58 l59 =>
some ((.tuple #[(.agg #[(vI n56), (vI n57), (vT s58), (vL l59.1 l59.2)]), (.bool true)]), h55)
else none)
else
(if (n19 == (5 : Int)) = true then
c_IITL h18 (List.length h2) 0 fun n60 n61 s62 l63 =>
nw1 h18 39 [(vI n60), (vI n61), (vT s62), (vL l63.1 l63.2)] fun h64 =>
(gate (neA (some ⟨(List.length h15), 3, none⟩) (List.length h18))
(((cell h64 (List.length h15) 3).bind getS).bind fun l65 =>
(app base h64 39 4 56 (some ⟨(List.length h18), 0, none⟩) 1 (rawAt h64 l65.1 (l65.2 * 4)) l65.2).bind fun p66 =>
((some p66.1).bind getS).bind fun l67 =>
(gate (neA (some ⟨(List.length h15), 0, none⟩) (List.length h18))
((gate (sameA h64 p66.2 (some ⟨(List.length h15), 0, none⟩) 1)
(((cell p66.2 (List.length h15) 0).bind (getI .i64)).bind fun n68 =>
(wr base p66.2 (List.length h1) 0 [(vI (5 : Int)), (vI (0 : Int)), (vT (⟨#[]⟩ : ByteArray)), (vL l67.1 l67.2)]).bind fun h69 =>
(gate (sameA p66.2 h69 (some ⟨(List.length h15), 0, none⟩) 1)
(c_IITL h69 (List.length h1) 0 fun n70 n71 s72 l73 =>
some ((.tuple #[(.agg #[(vI n70), (vI n71), (vT s72), (vL l73.1 l73.2)]), (.bool (n68 == (5 : Int)))]), h69)))))))))
else
(if (n19 == (6 : Int)) = true then
(((cell h18 (List.length h2) 0).bind (getI .i64)).bind fun n75 =>
(if (n75 != (4 : Int)) = true then
some (.inl ([some (vP (List.length h)), some (vP (List.length h1)), some (vP (List.length h2)), some (.bool true)], h18))
else
((cell h18 (List.length h) 4).bind (getI .i64)).bind fun n76 =>
((cell h18 (List.length h2) 3).bind getS).bind fun l77 =>
some (.inl ([some (vP (List.length h)), some (vP (List.length h1)), some (vP (List.length h2)), some (.bool (decide (n76 ≥ ((l77.2 : Nat) : Int))))], h18)))).bind fun j74 => joinK j74 fun j74 =>
j_AAAB j74.1 fun d78 d79 d80 b81 =>
(if b81 = true then
(wr base j74.2 d79.block d79.off [(vI (0 : Int)), (vI (0 : Int)), (vT (⟨#[]⟩ : ByteArray)), (vL none 0)]).bind fun h82 =>
c_IITL h82 d79.block d79.off fun n83 n84 s85 l86 =>
some ((.tuple #[(.agg #[(vI n83), (vI n84), (vT s85), (vL l86.1 l86.2)]), (.bool false)]), h82)
else
((cell j74.2 d80.block (d80.off + 3)).bind getS).bind fun l87 =>
((cell j74.2 d78.block (d78.off + 4)).bind (getI .i64)).bind fun n88 =>
(if 0 ≤ n88 ∧ n88 < ((l87.2 : Nat) : Int) then
((l87.1 : Option Addr)).bind fun a89 =>
c_IITL j74.2 a89.block (a89.off + Int.toNat n88 * 4) fun n90 n91 s92 l93 =>
(wr base j74.2 d79.block d79.off [(vI n90), (vI n91), (vT s92), (vL l93.1 l93.2)]).bind fun h94 =>
c_IITL h94 d79.block d79.off fun n95 n96 s97 l98 =>
some ((.tuple #[(.agg #[(vI n95), (vI n96), (vT s97), (vL l98.1 l98.2)]), (.bool true)]), h94)
else none))
else
((if (n19 == (7 : Int)) = true then
some (.inl ([some (vI v2), some (vI v3), some (vP (List.length h)), some (vP (List.length h1)), some (vP (List.length h2)), some (vP (List.length h15)), some (vI n19), some (.bool (n19 == (7 : Int)))], h18))
else
some (.inl ([some (vI v2), some (vI v3), some (vP (List.length h)), some (vP (List.length h1)), some (vP (List.length h2)), some (vP (List.length h15)), some (vI n19), some (.bool (n19 == (8 : Int)))], h18)))).bind fun j99 => joinK j99 fun j99 =>
j_IIAAAAIB j99.1 fun n100 n101 d102 d103 d104 d105 n106 b107 =>
(if b107 = true then
(((cell j99.2 d104.block (d104.off + 0)).bind (getI .i64)).bind fun n109 =>
(if (n109 != (5 : Int)) = true then
some (.inl ([some (vA d102), some (vA d103), some (vA d104), some (.bool true)], j99.2))
else
((cell j99.2 d104.block (d104.off + 3)).bind getS).bind fun l110 =>
some (.inl ([some (vA d102), some (vA d103), some (vA d104), some (.bool (((l110.2 : Nat) : Int) == (0 : Int)))], j99.2)))).bind fun j108 => joinK j108 fun j108 =>
j_AAAB j108.1 fun d111 d112 d113 b114 =>
(if b114 = true then
(wr base j108.2 d112.block d112.off [(vI (0 : Int)), (vI (0 : Int)), (vT (⟨#[]⟩ : ByteArray)), (vL none 0)]).bind fun h115 =>
c_IITL h115 d112.block d112.off fun n116 n117 s118 l119 =>
some ((.tuple #[(.agg #[(vI n116), (vI n117), (vT s118), (vL l119.1 l119.2)]), (.bool false)]), h115)
else
((cell j108.2 d111.block (d111.off + 0)).bind (getI .i64)).bind fun n120 =>
(if (n120 == (7 : Int)) = true then
((cell j108.2 d113.block (d113.off + 3)).bind getS).bind fun l121 =>
(if 0 ≤ (0 : Int) ∧ (0 : Int) < ((l121.2 : Nat) : Int) then
((l121.1 : Option Addr)).bind fun a122 =>
c_IITL j108.2 a122.block (a122.off + Int.toNat (0 : Int) * 4) fun n123 n124 s125 l126 =>
(wr base j108.2 d112.block d112.off [(vI n123), (vI n124), (vT s125), (vL l126.1 l126.2)]).bind fun h127 =>
c_IITL h127 d112.block d112.off fun n128 n129 s130 l131 =>
some ((.tuple #[(.agg #[(vI n128), (vI n129), (vT s130), (vL l131.1 l131.2)]), (.bool true)]), h127)
else none)
else
((cell j108.2 d113.block (d113.off + 3)).bind getS).bind fun l132 =>
(if 0 ≤ (1 : Int) ∧ (1 : Int) ≤ ((l132.2 : Nat) : Int) ∧ ((l132.2 : Nat) : Int) ≤ ((l132.2 : Nat) : Int) ∧ okTy base j108.2 l132.1 39 (Int.toNat (1 : Int)) = true then
(wr base j108.2 d112.block d112.off [(vI (5 : Int)), (vI (0 : Int)), (vT (⟨#[]⟩ : ByteArray)), (.slice (shiftA l132.1 (Int.toNat (1 : Int) * 4)) (Int.toNat ((l132.2 : Nat) : Int) - Int.toNat (1 : Int)) (Int.toNat ((l132.2 : Nat) : Int) - Int.toNat (1 : Int)))]).bind fun h133 =>
c_IITL h133 d112.block d112.off fun n134 n135 s136 l137 =>
some ((.tuple #[(.agg #[(vI n134), (vI n135), (vT s136), (vL l137.1 l137.2)]), (.bool true)]), h133)
else none)))
else
(if (n106 == (9 : Int)) = true then
((cell j99.2 d104.block (d104.off + 1)).bind (getI .i64)).bind fun n138 =>
((cell j99.2 d105.block (d105.off + 1)).bind (getI .i64)).bind fun n139 =>
((cell j99.2 d104.block (d104.off + 0)).bind (getI .i64)).bind fun n140 =>
(if (n140 == (1 : Int)) = true then
((cell j99.2 d105.block (d105.off + 0)).bind (getI .i64)).bind fun n141 =>
(wr base j99.2 d103.block d103.off [(vI (1 : Int)), (vI (IntKind.wrap .i64 (n138 + n139))), (vT (⟨#[]⟩ : ByteArray)), (vL none 0)]).bind fun h142 =>
(gate (sameA j99.2 h142 (some ⟨d105.block, (d105.off + 0), none⟩) 1)
(c_IITL h142 d103.block d103.off fun n143 n144 s145 l146 =>
some ((.tuple #[(.agg #[(vI n143), (vI n144), (vT s145), (vL l146.1 l146.2)]), (.bool (n141 == (1 : Int)))]), h142)))
else
(wr base j99.2 d103.block d103.off [(vI (1 : Int)), (vI (IntKind.wrap .i64 (n138 + n139))), (vT (⟨#[]⟩ : ByteArray)), (vL none 0)]).bind fun h147 =>
c_IITL h147 d103.block d103.off fun n148 n149 s150 l151 =>
some ((.tuple #[(.agg #[(vI n148), (vI n149), (vT s150), (vL l151.1 l151.2)]), (.bool false)]), h147))
else
(if (n106 == (15 : Int)) = true then
(wr base j99.2 d103.block d103.off [(vI (3 : Int)), (vI n100), (vT (⟨#[]⟩ : ByteArray)), (vL none 0)]).bind fun h152 =>
c_IITL h152 d103.block d103.off fun n153 n154 s155 l156 =>
some ((.tuple #[(.agg #[(vI n153), (vI n154), (vT s155), (vL l156.1 l156.2)]), (.bool true)]), h152)
else
(wr base j99.2 d103.block d103.off [(vI (3 : Int)), (vI n101), (vT (⟨#[]⟩ : ByteArray)), (vL none 0)]).bind fun h157 =>
c_IITL h157 d103.block d103.off fun n158 n159 s160 l161 =>
some ((.tuple #[(.agg #[(vI n158), (vI n159), (vT s160), (vL l161.1 l161.2)]), (.bool true)]), h157)))))))))))))))))))))))))))))))
else none)
else none)
theorem r101 {base : Nat} {v0_0 : Int} {v0_1 : Int} {v0_2 : Int} {v0_3 : Int} {v0_4 : Int} {v0_5 : ByteArray} {v1 : Option Addr} {v1n : Nat} {v2 : Int} {v3 : Int} {h : AH} {r : Value × AH} (hx : qf101 base v0_0 v0_1 v0_2 v0_3 v0_4 v0_5 v1 v1n v2 v3 h = some r) : run (Et base) 101 [(.agg #[(vI v0_0), (vI v0_1), (vI v0_2), (vI v0_3), (vI v0_4), (vT v0_5)]), (vL v1 v1n), (vI v2), (vI v3)] h = some r := run_i (an := a101) Try.func101 (by kernel_rfl) (.trans (by kernel_rfl) hx)
theorem r102 {base : Nat} {v0_0 : Int} {v0_1 : Int} {v0_2 : ByteArray} {v0_3 : Option Addr} {v0_3n : Nat} {h : AH} {r : Value × AH} (hx : ((some (h ++ [some ⟨[(.int .i64 v0_0), (.int .i64 v0_1), (.string v0_2), (.slice v0_3 v0_3n v0_3n)], 39⟩])).bind fun h1 =>
((cell h1 (List.length h) 0).bind (getI .i64)).bind fun n2 =>
((cell h1 (List.length h) 1).bind (getI .i64)).bind fun n3 =>
((cell h1 (List.length h) 2).bind getStr).bind fun s4 =>
((cell h1 (List.length h) 3).bind getS).bind fun l5 =>
(run (Et base) 162 [(.agg #[(.int .i64 n2), (.int .i64 n3), (.string s4), (.slice l5.1 l5.2 l5.2)]), (.int .i64 (1 : Int)), (.int .i64 (0 : Int))] h1).bind fun r6 =>
(getTup 2 r6.1).bind fun l7 =>
((l7[0]?).bind (getI .i64)).bind fun n8 =>
((l7[1]?).bind getB).bind fun b9 =>
some ((.bool b9), r6.2)) = some r) : run (Et base) 102 [(.agg #[(vI v0_0), (vI v0_1), (vT v0_2), (vL v0_3 v0_3n)])] h = some r := run_i (an := a102) Try.func102 (by kernel_rfl) (.trans (by kernel_rfl) hx)
theorem r103 {base : Nat} {v0_0 : Int} {v0_1 : Int} {v0_2 : ByteArray} {v0_3 : Option Addr} {v0_3n : Nat} {h : AH} {r : Value × AH} (hx : ((some (h ++ [some ⟨[(.int .i64 v0_0), (.int .i64 v0_1), (.string v0_2), (.slice v0_3 v0_3n v0_3n)], 39⟩])).bind fun h1 =>
(some (h1 ++ [some ⟨[(.int .i64 0), (.int .i64 0), (.string ⟨#[]⟩), (.slice none 0 0)], 39⟩])).bind fun h2 =>
((cell h2 (List.length h) 3).bind getS).bind fun l3 =>
(run (Et base) 160 [(.slice l3.1 l3.2 l3.2)] h2).bind fun r4 =>
((some r4.1).bind getS).bind fun l5 =>
(wr base r4.2 (List.length h) 3 [(.slice l5.1 l5.2 l5.2)]).bind fun h6 =>
((cell h6 (List.length h) 0).bind (getI .i64)).bind fun n7 =>
((cell h6 (List.length h) 1).bind (getI .i64)).bind fun n8 =>
((cell h6 (List.length h) 2).bind getStr).bind fun s9 =>
((cell h6 (List.length h) 3).bind getS).bind fun l10 =>
(wr base h6 (List.length h1) 0 [(.int .i64 n7), (.int .i64 n8), (.string s9), (.slice l10.1 l10.2 l10.2)]).bind fun h11 =>
((cell h11 (List.length h1) 0).bind (getI .i64)).bind fun n12 =>
((cell h11 (List.length h1) 1).bind (getI .i64)).bind fun n13 =>
((cell h11 (List.length h1) 2).bind getStr).bind fun s14 =>
((cell h11 (List.length h1) 3).bind getS).bind fun l15 =>
some ((.agg #[(.int .i64 n12), (.int .i64 n13), (.string s14), (.slice l15.1 l15.2 l15.2)]), h11)) = some r) : run (Et base) 103 [(.agg #[(vI v0_0), (vI v0_1), (vT v0_2), (vL v0_3 v0_3n)])] h = some r := run_i (an := a103) Try.func103 (by kernel_rfl) (.trans (by kernel_rfl) hx)
theorem r104 {base : Nat} {v0_0 : Int} {v0_1 : Int} {v0_2 : Int} {v0_3 : Int} {v0_4 : Int} {v0_5 : ByteArray} {v1 : Option Addr} {v1n : Nat} {h : AH} {r : Value × AH} (hx : (nw1 h 139 [(vI v0_0), (vI v0_1), (vI v0_2), (vI v0_3), (vI v0_4), (vT v0_5)] fun h1 =>
((cell h1 (List.length h) 0).bind (getI .i64)).bind fun n2 =>
(if (n2 == (10 : Int)) = true then
((cell h1 (List.length h) 1).bind (getI .i64)).bind fun n3 =>
(if 0 ≤ n3 ∧ n3 < ((v1n : Nat) : Int) then
((v1 : Option Addr)).bind fun a4 =>
c_IITL h1 a4.block (a4.off + Int.toNat n3 * 4) fun n5 n6 s7 l8 =>
((cell h1 (List.length h) 2).bind (getI .i64)).bind fun n9 =>
(if 0 ≤ n9 ∧ n9 < ((v1n : Nat) : Int) then
((v1 : Option Addr)).bind fun a10 =>
c_IITL h1 a10.block (a10.off + Int.toNat n9 * 4) fun n11 n12 s13 l14 =>
(run (Et base) 163 [(.agg #[(vI n5), (vI n6), (vT s7), (vL l8.1 l8.2)]), (.agg #[(vI n11), (vI n12), (vT s13), (vL l14.1 l14.2)])] h1).bind fun r15 =>
((some r15.1).bind getB).bind fun b16 =>
some ((.bool (!b16)), r15.2)
else none)
else none)
else
(if (n2 == (11 : Int)) = true then
((cell h1 (List.length h) 1).bind (getI .i64)).bind fun n17 =>
(if 0 ≤ n17 ∧ n17 < ((v1n : Nat) : Int) then
((v1 : Option Addr)).bind fun a18 =>
((cell h1 a18.block ((a18.off + Int.toNat n17 * 4) + 0)).bind (getI .i64)).bind fun n19 =>
((cell h1 (List.length h) 2).bind (getI .i64)).bind fun n20 =>
some ((.bool (n19 != n20)), h1)
else none)
else
((cell h1 (List.length h) 0).bind (getI .i64)).bind fun n21 =>
some ((.bool (n21 == (12 : Int))), h1)))) = some r) : run (Et base) 104 [(.agg #[(vI v0_0), (vI v0_1), (vI v0_2), (vI v0_3), (vI v0_4), (vT v0_5)]), (vL v1 v1n)] h = some r := run_i (an := a104) Try.func104 (by kernel_rfl) (.trans (by kernel_rfl) hx)
noncomputable def B105_0 (base : Nat) : Body := fun l h => lay s105_0 l fun s => exCode (Et base) (run (Et base)) loopL a105_0 (subC [1, 1, 1, 0, 1, 0, 0] (bodyC Try.f105)) s h (keepK s105_0 e105_0)
theorem B105_0_eq (base : Nat) (v0 : Option Addr) (v0n : Nat) (v3 : Int) (v4 : Int) (h : AH) : B105_0 base [some (vL v0 v0n), some (vI v3), some (vI v4)] h =
((if (decide (v4 < v3)) = true then
(if 0 ≤ v4 ∧ v4 < ((v0n : Nat) : Int) then
((v0 : Option Addr)).bind fun a1 =>
((cell h a1.block (a1.off + Int.toNat v4 * 6)).bind (getI .i64)).bind fun n2 =>
((cell h a1.block ((a1.off + Int.toNat v4 * 6) + 1)).bind (getI .i64)).bind fun n3 =>
((cell h a1.block (((a1.off + Int.toNat v4 * 6) + 1) + 1)).bind (getI .i64)).bind fun n4 =>
((cell h a1.block ((((a1.off + Int.toNat v4 * 6) + 1) + 1) + 1)).bind (getI .i64)).bind fun n5 =>
((cell h a1.block (((((a1.off + Int.toNat v4 * 6) + 1) + 1) + 1) + 1)).bind (getI .i64)).bind fun n6 =>
((cell h a1.block ((((((a1.off + Int.toNat v4 * 6) + 1) + 1) + 1) + 1) + 1)).bind getStr).bind fun s7 =>
(run (Et base) 164 [(.agg #[(.int .i64 n2), (.int .i64 n3), (.int .i64 n4), (.int .i64 n5), (.int .i64 n6), (.string s7)]), (.int .i64 v3)] h).bind fun r8 =>
((some r8.1).bind getB).bind fun b9 =>
(if (!b9) = true then
some (1, [some (.bool false)], r8.2)
else
some (0, [some (.slice v0 v0n v0n), some (.int .i64 v3), some (.int .i64 (IntKind.wrap .i64 (v4 + (1 : Int))))], r8.2))
else none)
else
some (2, [], h)) : Option (Nat × Slots × AH)) := by kernel_rfl
theorem r105 {base : Nat} {v0 : Option Addr} {v0n : Nat} {h : AH} {r : Value × AH} (hx : (((run (Et base) 83 [(vI ((v0n : Nat) : Int)), (vI (1 : Int)), (vI (200 : Int))] h).bind fun r2 =>
((some r2.1).bind getB).bind fun b3 =>
(if (!b3) = true then
some (.inl ([some (vL v0 v0n), some (vI ((v0n : Nat) : Int)), some (.bool true)], r2.2))
else
(if 0 ≤ (IntKind.wrap .i64 (((v0n : Nat) : Int) - (1 : Int))) ∧ (IntKind.wrap .i64 (((v0n : Nat) : Int) - (1 : Int))) < ((v0n : Nat) : Int) then
((v0 : Option Addr)).bind fun a4 =>
((cell r2.2 a4.block ((a4.off + Int.toNat (IntKind.wrap .i64 (((v0n : Nat) : Int) - (1 : Int))) * 6) + 0)).bind (getI .i64)).bind fun n5 =>
(if (n5 != (19 : Int)) = true then
(if 0 ≤ (IntKind.wrap .i64 (((v0n : Nat) : Int) - (1 : Int))) ∧ (IntKind.wrap .i64 (((v0n : Nat) : Int) - (1 : Int))) < ((v0n : Nat) : Int) then
((v0 : Option Addr)).bind fun a6 =>
((cell r2.2 a6.block ((a6.off + Int.toNat (IntKind.wrap .i64 (((v0n : Nat) : Int) - (1 : Int))) * 6) + 0)).bind (getI .i64)).bind fun n7 =>
some (.inl ([some (vL v0 v0n), some (vI ((v0n : Nat) : Int)), some (.bool (n7 != (12 : Int)))], r2.2))
else none)
else
some (.inl ([some (vL v0 v0n), some (vI ((v0n : Nat) : Int)), some (.bool false)], r2.2)))
else none))).bind fun j1 => joinK j1 fun j1 =>
j_LIB j1.1 fun l8 n9 b10 =>
(if b10 = true then
some ((.bool false), j1.2)
else
(loopL (B105_0 base) [some (vL l8.1 l8.2), some (vI n9), some (vI (0 : Int))] j1.2).bind fun q11 =>
(if q11.1 = 1 then
((sget q11.2.1 0).bind getB).bind fun b12 =>
some ((.bool b12), q11.2.2)
else
(if q11.1 = 2 then
some ((.bool true), q11.2.2)
else
none)))) = some r) : run (Et base) 105 [(vL v0 v0n)] h = some r := run_i (an := a105) Try.func105 (by kernel_rfl) (.trans (by kernel_rfl) hx)
noncomputable def B106_0 (base : Nat) : Body := fun l h => lay s106_0 l fun s => exCode (Et base) (run (Et base)) loopL a106_0 (subC [1, 0, 1, 0, 0] (bodyC Try.f106)) s h (keepK s106_0 e106_0)
theorem B106_0_eq (base : Nat) (v0 : Option Addr) (v0n : Nat) (v3 : Int) (h : AH) : B106_0 base [some (vL v0 v0n), some (vI v3)] h =
((if (decide (v3 < ((v0n : Nat) : Int))) = true then
(if 0 ≤ v3 ∧ v3 < ((v0n : Nat) : Int) then
((v0 : Option Addr)).bind fun a1 =>
((cell h a1.block (a1.off + Int.toNat v3 * 4)).bind (getI .i64)).bind fun n2 =>
((cell h a1.block ((a1.off + Int.toNat v3 * 4) + 1)).bind (getI .i64)).bind fun n3 =>
((cell h a1.block (((a1.off + Int.toNat v3 * 4) + 1) + 1)).bind getStr).bind fun s4 =>
((cell h a1.block ((((a1.off + Int.toNat v3 * 4) + 1) + 1) + 1)).bind getS).bind fun l5 =>
(run (Et base) 70 [(.agg #[(.int .i64 n2), (.int .i64 n3), (.string s4), (.slice l5.1 l5.2 l5.2)])] h).bind fun r6 =>
((some r6.1).bind getB).bind fun b7 =>
(if (!b7) = true then
some (1, [some (.bool false)], r6.2)
else
some (0, [some (.slice v0 v0n v0n), some (.int .i64 (IntKind.wrap .i64 (v3 + (1 : Int))))], r6.2))
else none)
else
some (2, [], h)) : Option (Nat × Slots × AH)) := by kernel_rfl
theorem r106 {base : Nat} {v0 : Option Addr} {v0n : Nat} {h : AH} {r : Value × AH} (hx : ((loopL (B106_0 base) [some (.slice v0 v0n v0n), some (.int .i64 (0 : Int))] h).bind fun q1 =>
(if q1.1 = 1 then
((sget q1.2.1 0).bind getB).bind fun b2 =>
some ((.bool b2), q1.2.2)
else
(if q1.1 = 2 then
some ((.bool true), q1.2.2)
else
none))) = some r) : run (Et base) 106 [(vL v0 v0n)] h = some r := run_i (an := a106) Try.func106 (by kernel_rfl) (.trans (by kernel_rfl) hx)
noncomputable def B107_0 (base : Nat) : Body := fun l h => lay s107_0 l fun s => exCode (Et base) (run (Et base)) loopL a107_0 (subC [1, 0, 1, 0, 0] (bodyC Try.f107)) s h (keepK s107_0 e107_0)
theorem B107_0_eq (base : Nat) (v0 : Option Addr) (v0n : Nat) (v1 : Int) (v5 : Int) (h : AH) : B107_0 base [some (vL v0 v0n), some (vI v1), some (vI v5)] h =
((if (decide (v5 < ((v0n : Nat) : Int))) = true then
((if 0 ≤ v5 ∧ v5 < ((v0n : Nat) : Int) then
((v0 : Option Addr)).bind fun a2 =>
((cell h a2.block (a2.off + Int.toNat v5 * 1)).bind (getI .i64)).bind fun n3 =>
(run (Et base) 83 [(vI n3), (vI (1 : Int)), (vI (99999 : Int))] h).bind fun r4 =>
((some r4.1).bind getB).bind fun b5 =>
(if (!b5) = true then
some (.inl ([some (vL v0 v0n), some (vI v1), some (vI v5), some (.bool true)], r4.2))
else
(if 0 ≤ v5 ∧ v5 < ((v0n : Nat) : Int) then
((v0 : Option Addr)).bind fun a6 =>
((cell r4.2 a6.block (a6.off + Int.toNat v5 * 1)).bind (getI .i64)).bind fun n7 =>
(if (n7 == v1) = true then
some (.inl ([some (vL v0 v0n), some (vI v1), some (vI v5), some (.bool true)], r4.2))
else
(if (decide (v5 > (0 : Int))) = true then
(if 0 ≤ (IntKind.wrap .i64 (v5 - (1 : Int))) ∧ (IntKind.wrap .i64 (v5 - (1 : Int))) < ((v0n : Nat) : Int) then
((v0 : Option Addr)).bind fun a8 =>
((cell r4.2 a8.block (a8.off + Int.toNat (IntKind.wrap .i64 (v5 - (1 : Int))) * 1)).bind (getI .i64)).bind fun n9 =>
(if 0 ≤ v5 ∧ v5 < ((v0n : Nat) : Int) then
((v0 : Option Addr)).bind fun a10 =>
((cell r4.2 a10.block (a10.off + Int.toNat v5 * 1)).bind (getI .i64)).bind fun n11 =>
some (.inl ([some (vL v0 v0n), some (vI v1), some (vI v5), some (.bool (decide (n9 ≥ n11)))], r4.2))
else none)
else none)
else
some (.inl ([some (vL v0 v0n), some (vI v1), some (vI v5), some (.bool false)], r4.2))))
else none))
else none)).bind fun j1 => joinK j1 fun j1 =>
j_LIIB j1.1 fun l12 n13 n14 b15 =>
(if b15 = true then
some (1, [some (.bool false)], j1.2)
else
some (0, [some (vL l12.1 l12.2), some (vI n13), some (vI (IntKind.wrap .i64 (n14 + (1 : Int))))], j1.2))
else
some (2, [some (vL v0 v0n)], h)) : Option (Nat × Slots × AH)) := by kernel_rfl
theorem r107 {base : Nat} {v0 : Option Addr} {v0n : Nat} {v1 : Int} {h : AH} {r : Value × AH} (hx : ((loopL (B107_0 base) [some (.slice v0 v0n v0n), some (.int .i64 v1), some (.int .i64 (0 : Int))] h).bind fun q1 =>
(if q1.1 = 1 then
((sget q1.2.1 0).bind getB).bind fun b2 =>
some ((.bool b2), q1.2.2)
else
(if q1.1 = 2 then
((sget q1.2.1 0).bind getS).bind fun l3 =>
some ((.bool (decide (((l3.2 : Nat) : Int) ≤ (50 : Int)))), q1.2.2)
else
none))) = some r) : run (Et base) 107 [(vL v0 v0n), (vI v1)] h = some r := run_i (an := a107) Try.func107 (by kernel_rfl) (.trans (by kernel_rfl) hx)
theorem r110 {base : Nat} {v0 : Option Addr} {v0n : Nat} {h : AH} {r : Value × AH} (hx : ((app base h 3 1 8 none 0 (rawAt h v0 (v0n * 1)) v0n).bind fun p1 =>
((some p1.1).bind getS).bind fun l2 =>
some ((.slice l2.1 l2.2 l2.2), p1.2)) = some r) : run (Et base) 110 [(vL v0 v0n)] h = some r := run_i (an := a110) Try.func110 (by kernel_rfl) (.trans (by kernel_rfl) hx)
noncomputable def B131_0 (base : Nat) : Body := fun l h => lay s131_0 l fun s => exCode (Et base) (run (Et base)) loopL a131_0 (subC [1, 1, 1, 0, 1, 0, 0] (bodyC Try.f131)) s h (keepK s131_0 e131_0)
theorem B131_0_eq (base : Nat) (v1 : Int) (v2 : Int) (v3 : Addr) (v7 : Int) (h : AH) : B131_0 base [some (vI v1), some (vI v2), some (vA v3), some (vI v7)] h =
((((cell h v3.block (v3.off + 3)).bind getS).bind fun l2 =>
(if (decide (v7 < ((l2.2 : Nat) : Int))) = true then
some (.inl ([some (vI v1), some (vI v2), some (vA v3), some (vI v7), some (.bool (decide (v2 ≥ (0 : Int))))], h))
else
some (.inl ([some (vI v1), some (vI v2), some (vA v3), some (vI v7), some (.bool false)], h)))).bind fun j1 => joinK j1 fun j1 =>
j_IIAIB j1.1 fun n3 n4 d5 n6 b7 =>
(if b7 = true then
((cell j1.2 d5.block (d5.off + 3)).bind getS).bind fun l8 =>
(if 0 ≤ n6 ∧ n6 < ((l8.2 : Nat) : Int) then
((l8.1 : Option Addr)).bind fun a9 =>
c_IITL j1.2 a9.block (a9.off + Int.toNat n6 * 4) fun n10 n11 s12 l13 =>
(run (Et base) 131 [(.agg #[(vI n10), (vI n11), (vT s12), (vL l13.1 l13.2)]), (vI (IntKind.wrap .i64 (n3 - (1 : Int)))), (vI n4)] j1.2).bind fun r14 =>
((some r14.1).bind (getI .i64)).bind fun n15 =>
some (0, [some (vI n3), some (vI n15), some (vA d5), some (vI (IntKind.wrap .i64 (n6 + (1 : Int))))], r14.2)
else none)
else
some (2, [some (vI n4)], j1.2)) : Option (Nat × Slots × AH)) := by kernel_rfl
theorem r131 {base : Nat} {v0_0 : Int} {v0_1 : Int} {v0_2 : ByteArray} {v0_3 : Option Addr} {v0_3n : Nat} {v1 : Int} {v2 : Int} {h : AH} {r : Value × AH} (hx : (nw1 h 39 [(vI v0_0), (vI v0_1), (vT v0_2), (vL v0_3 v0_3n)] fun h1 =>
((if (decide (v1 < (1 : Int))) = true then
some (.inl ([some (vI v1), some (vI v2), some (vP (List.length h)), some (.bool true)], h1))
else
(if (decide (v2 < (1 : Int))) = true then
some (.inl ([some (vI v1), some (vI v2), some (vP (List.length h)), some (.bool true)], h1))
else
c_IITL h1 (List.length h) 0 fun n3 n4 s5 l6 =>
(run (Et base) 173 [(.agg #[(vI n3), (vI n4), (vT s5), (vL l6.1 l6.2)])] h1).bind fun r7 =>
((some r7.1).bind getB).bind fun b8 =>
some (.inl ([some (vI v1), some (vI v2), some (vP (List.length h)), some (.bool (!b8))], r7.2))))).bind fun j2 => joinK j2 fun j2 =>
j_IIAB j2.1 fun n9 n10 d11 b12 =>
(if b12 = true then
some ((vI (-1 : Int)), j2.2)
else
(loopL (B131_0 base) [some (vI n9), some (vI (IntKind.wrap .i64 (n10 - (1 : Int)))), some (vA d11), some (vI (0 : Int))] j2.2).bind fun q13 =>
(if q13.1 = 2 then
((sget q13.2.1 0).bind (getI .i64)).bind fun n14 =>
some ((vI n14), q13.2.2)
else
none))) = some r) : run (Et base) 131 [(.agg #[(vI v0_0), (vI v0_1), (vT v0_2), (vL v0_3 v0_3n)]), (vI v1), (vI v2)] h = some r := run_i (an := a131) Try.func131 (by kernel_rfl) (.trans (by kernel_rfl) hx)
noncomputable def B139_0 (base : Nat) : Body := fun l h => lay s139_0 l fun s => exCode (Et base) (run (Et base)) loopL a139_0 (subC [1, 0, 1, 0, 0] (bodyC Try.f139)) s h (keepK s139_0 e139_0)
theorem B139_0_eq (base : Nat) (v0 : ByteArray) (v3 : Int) (h : AH) : B139_0 base [some (vT v0), some (vI v3)] h =
((if (decide (v3 < (v0.size : Int))) = true then
(if 0 ≤ v3 ∧ v3 < (v0.size : Int) then
(run (Et base) 83 [(.int .i64 (IntKind.wrap .i64 ((v0.data.toList.getD (Int.toNat v3) 0).toNat : Int))), (.int .i64 (97 : Int)), (.int .i64 (122 : Int))] h).bind fun r1 =>
((some r1.1).bind getB).bind fun b2 =>
((if (!b2) = true then
(if (v3 == (0 : Int)) = true then
some (.inl ([some (.string v0), some (.int .i64 v3), some (.bool true)], r1.2))
else
(if 0 ≤ v3 ∧ v3 < (v0.size : Int) then
(run (Et base) 83 [(.int .i64 (IntKind.wrap .i64 ((v0.data.toList.getD (Int.toNat v3) 0).toNat : Int))), (.int .i64 (48 : Int)), (.int .i64 (57 : Int))] r1.2).bind fun r4 =>
((some r4.1).bind getB).bind fun b5 =>
some (.inl ([some (.string v0), some (.int .i64 v3), some (.bool (!b5))], r4.2))
else none))
else
some (.inl ([some (.string v0), some (.int .i64 v3), some (.bool false)], r1.2)))).bind fun j3 => joinK j3 fun j3 =>
((sget j3.1 0).bind getStr).bind fun s6 =>
((sget (j3.1.tail) 0).bind (getI .i64)).bind fun n7 =>
((sget (j3.1.tail.tail) 0).bind getB).bind fun b8 =>
(if b8 = true then
some (1, [some (.bool false)], j3.2)
else
some (0, [some (.string s6), some (.int .i64 (IntKind.wrap .i64 (n7 + (1 : Int))))], j3.2))
else none)
else
some (2, [some (.string v0)], h)) : Option (Nat × Slots × AH)) := by kernel_rfl
theorem r139 {base : Nat} {v0 : ByteArray} {h : AH} {r : Value × AH} (hx : ((loopL (B139_0 base) [some (.string v0), some (.int .i64 (0 : Int))] h).bind fun q1 =>
(if q1.1 = 1 then
((sget q1.2.1 0).bind getB).bind fun b2 =>
some ((.bool b2), q1.2.2)
else
(if q1.1 = 2 then
((sget q1.2.1 0).bind getStr).bind fun s3 =>
(run (Et base) 83 [(.int .i64 (s3.size : Int)), (.int .i64 (1 : Int)), (.int .i64 (12 : Int))] q1.2.2).bind fun r4 =>
((some r4.1).bind getB).bind fun b5 =>
some ((.bool b5), r4.2)
else
none))) = some r) : run (Et base) 139 [(vT v0)] h = some r := run_i (an := a139) Try.func139 (by kernel_rfl) (.trans (by kernel_rfl) hx)
noncomputable def B146_0 (base : Nat) : Body := fun l h => lay s146_0 l fun s => exCode (Et base) (run (Et base)) loopL a146_0 (subC [1, 0, 1, 0, 0] (bodyC Try.f146)) s h (keepK s146_0 e146_0)
theorem B146_0_eq (base : Nat) (v0 : ByteArray) (v3 : Int) (h : AH) : B146_0 base [some (vT v0), some (vI v3)] h =
((if (decide (v3 < (v0.size : Int))) = true then
((if 0 ≤ v3 ∧ v3 < (v0.size : Int) then
(run (Et base) 182 [(.int .u8 ((v0.data.toList.getD (Int.toNat v3) 0).toNat : Int))] h).bind fun r2 =>
((some r2.1).bind getB).bind fun b3 =>
(if (!b3) = true then
(if (v3 == (0 : Int)) = true then
some (.inl ([some (.string v0), some (.int .i64 v3), some (.bool true)], r2.2))
else
(if 0 ≤ v3 ∧ v3 < (v0.size : Int) then
(run (Et base) 183 [(.int .u8 ((v0.data.toList.getD (Int.toNat v3) 0).toNat : Int))] r2.2).bind fun r4 =>
((some r4.1).bind getB).bind fun b5 =>
some (.inl ([some (.string v0), some (.int .i64 v3), some (.bool (!b5))], r4.2))
else none))
else
some (.inl ([some (.string v0), some (.int .i64 v3), some (.bool false)], r2.2)))
else none)).bind fun j1 => joinK j1 fun j1 =>
((sget j1.1 0).bind getStr).bind fun s6 =>
((sget (j1.1.tail) 0).bind (getI .i64)).bind fun n7 =>
((sget (j1.1.tail.tail) 0).bind getB).bind fun b8 =>
(if b8 = true then
some (1, [some (.bool false)], j1.2)
else
some (0, [some (.string s6), some (.int .i64 (IntKind.wrap .i64 (n7 + (1 : Int))))], j1.2))
else
some (2, [some (.string v0)], h)) : Option (Nat × Slots × AH)) := by kernel_rfl
theorem r146 {base : Nat} {v0 : ByteArray} {h : AH} {r : Value × AH} (hx : ((loopL (B146_0 base) [some (.string v0), some (.int .i64 (0 : Int))] h).bind fun q1 =>
(if q1.1 = 1 then
((sget q1.2.1 0).bind getB).bind fun b2 =>
some ((.bool b2), q1.2.2)
else
(if q1.1 = 2 then
((sget q1.2.1 0).bind getStr).bind fun s3 =>
(run (Et base) 87 [(.int .i64 (s3.size : Int)), (.int .i64 (1 : Int)), (.int .i64 (12 : Int))] q1.2.2).bind fun r4 =>
((some r4.1).bind getB).bind fun b5 =>
some ((.bool b5), r4.2)
else
none))) = some r) : run (Et base) 146 [(vT v0)] h = some r := run_i (an := a146) Try.func146 (by kernel_rfl) (.trans (by kernel_rfl) hx)
noncomputable def B154_0 (base : Nat) : Body := fun l h => lay s154_0 l fun s => exCode (Et base) (run (Et base)) loopL a154_0 (subC [1, 1, 1, 1, 0, 1, 0, 0] (bodyC Try.f154)) s h (keepK s154_0 e154_0)
theorem B154_0_eq (base : Nat) (v0 : Option Addr) (v5 : Int) (v6 : Option Addr) (v6n : Nat) (v7 : Int) (h : AH) : B154_0 base [some (.pointer v0), some (vI v5), some (vL v6 v6n), some (vI v7)] h =
((if (decide ((IntKind.wrap .i64 (v7 + (1 : Int))) < v5)) = true then
(run (Et base) 189 [(.pointer v0), (.int .i64 v5)] h).bind fun r1 =>
((some r1.1).bind (getAgg 6)).bind fun l2 =>
((l2[0]?).bind (getI .i64)).bind fun n3 =>
((l2[1]?).bind (getI .i64)).bind fun n4 =>
((l2[2]?).bind (getI .i64)).bind fun n5 =>
((l2[3]?).bind (getI .i64)).bind fun n6 =>
((l2[4]?).bind (getI .i64)).bind fun n7 =>
((l2[5]?).bind getStr).bind fun s8 =>
(some (r1.2 ++ [some ⟨[(.int .i64 n3), (.int .i64 n4), (.int .i64 n5), (.int .i64 n6), (.int .i64 n7), (.string s8)], 139⟩])).bind fun h9 =>
(app base h9 139 6 56 v6 v6n (rawAt h9 (some ⟨(List.length r1.2), 0, none⟩) (1 * 6)) 1).bind fun p10 =>
((some p10.1).bind getS).bind fun l11 =>
some (0, [some (.pointer v0), some (.int .i64 v5), some (.slice l11.1 l11.2 l11.2), some (.int .i64 (IntKind.wrap .i64 (v7 + (1 : Int))))], p10.2)
else
some (2, [some (.pointer v0), some (.int .i64 v5), some (.slice v6 v6n v6n)], h)) : Option (Nat × Slots × AH)) := by kernel_rfl
theorem r154 {base : Nat} {v0 : Option Addr} {h : AH} {r : Value × AH} (hx : ((run (Et base) 155 [(.pointer v0), (vI (2 : Int))] h).bind fun r1 =>
((some r1.1).bind getB).bind fun b2 =>
(if b2 = true then
(run (Et base) 188 [] r1.2).bind fun r3 =>
((some r3.1).bind getS).bind fun l4 =>
(run (Et base) 158 [(.pointer v0), (vI (6 : Int))] r3.2).bind fun r5 =>
((some r5.1).bind (getI .i64)).bind fun n6 =>
(if 0 ≤ n6 ∧ n6 < ((l4.2 : Nat) : Int) then
((l4.1 : Option Addr)).bind fun a7 =>
((cell r5.2 a7.block (a7.off + Int.toNat n6 * 1)).bind getStr).bind fun s8 =>
(run (Et base) 187 [(vT s8)] r5.2).bind fun r9 =>
(getTup 2 r9.1).bind fun l10 =>
l_LB l10 fun l11 b12 =>
some ((vL l11.1 l11.2), r9.2)
else none)
else
(run (Et base) 158 [(.pointer v0), (vI (10 : Int))] r1.2).bind fun r13 =>
((some r13.1).bind (getI .i64)).bind fun n14 =>
nw1 r13.2 139 [] fun h15 =>
(loopL (B154_0 base) [some (.pointer v0), some (vI (IntKind.wrap .i64 ((3 : Int) + n14))), some (vL (some ⟨(List.length r13.2), 0, none⟩) 0), some (vI (0 : Int))] h15).bind fun q16 =>
(if q16.1 = 2 then
j_PIL q16.2.1 fun p17 n18 l19 =>
(run (Et base) 158 [(.pointer p17), (vI n18)] q16.2.2).bind fun r20 =>
((some r20.1).bind (getI .i64)).bind fun n21 =>
nw1 r20.2 139 [(vI (12 : Int)), (vI (0 : Int)), (vI (0 : Int)), (vI (0 : Int)), (vI n21), (vT (⟨#[]⟩ : ByteArray))] fun h22 =>
(app base h22 139 6 56 l19.1 l19.2 (rawAt h22 (some ⟨(List.length r20.2), 0, none⟩) (1 * 6)) 1).bind fun p23 =>
((some p23.1).bind getS).bind fun l24 =>
some ((vL l24.1 l24.2), p23.2)
else
none))) = some r) : run (Et base) 154 [(.pointer v0)] h = some r := run_i (an := a154) Try.func154 (by kernel_rfl) (.trans (by kernel_rfl) hx)
theorem r155 {base : Nat} {v0 : Option Addr} {v1 : Int} {h : AH} {r : Value × AH} (hx : ((run (Et base) 158 [(.pointer v0), (.int .i64 v1)] h).bind fun r1 =>
((some r1.1).bind (getI .i64)).bind fun n2 =>
some ((.bool (n2 == (0 : Int))), r1.2)) = some r) : run (Et base) 155 [(.pointer v0), (vI v1)] h = some r := run_i (an := a155) Try.func155 (by kernel_rfl) (.trans (by kernel_rfl) hx)
noncomputable abbrev qf156 (base : Nat) (v0 : Option Addr) (h : AH) : Option (Value × AH) :=
(run (Et base) 154 [(.pointer v0)] h).bind fun r1 =>
((some r1.1).bind getS).bind fun l2 =>
(run (Et base) 158 [(.pointer v0), (vI ((l2.2 : Nat) : Int))] r1.2).bind fun r3 =>
((some r3.1).bind (getI .i64)).bind fun n4 =>
((run (Et base) 158 [(.pointer v0), (vI (12 : Int))] r3.2).bind fun r6 =>
((some r6.1).bind (getI .i64)).bind fun n7 =>
(if (n7 == (0 : Int)) = true then
(run (Et base) 158 [(.pointer v0), (vI (23 : Int))] r6.2).bind fun r8 =>
((some r8.1).bind (getI .i64)).bind fun n9 =>
(if 0 ≤ n4 ∧ n4 < ((l2.2 : Nat) : Int) then
((l2.1 : Option Addr)).bind fun a10 =>
(wr base r8.2 a10.block ((a10.off + Int.toNat n4 * 6) + 0) [(vI n9)]).bind fun h11 =>
some (.inl ([some (vL l2.1 l2.2)], h11))
else none)
else
(if (n7 == (1 : Int)) = true then
nw1 r6.2 3 [(vI (-1 : Int)), (vI (7 : Int)), (vI (8 : Int))] fun h12 =>
(run (Et base) 93 [(.pointer v0), (vL (some ⟨(List.length r6.2), 0, none⟩) 3)] h12).bind fun r13 =>
((some r13.1).bind (getI .i64)).bind fun n14 =>
(if 0 ≤ n4 ∧ n4 < ((l2.2 : Nat) : Int) then
((l2.1 : Option Addr)).bind fun a15 =>
(wr base r13.2 a15.block ((a15.off + Int.toNat n4 * 6) + 1) [(vI n14)]).bind fun h16 =>
some (.inl ([some (vL l2.1 l2.2)], h16))
else none)
else
(if (n7 == (2 : Int)) = true then
nw1 r6.2 3 [(vI (-1 : Int)), (vI (200 : Int)), (vI (8 : Int))] fun h17 =>
(run (Et base) 93 [(.pointer v0), (vL (some ⟨(List.length r6.2), 0, none⟩) 3)] h17).bind fun r18 =>
((some r18.1).bind (getI .i64)).bind fun n19 =>
(if 0 ≤ n4 ∧ n4 < ((l2.2 : Nat) : Int) then
((l2.1 : Option Addr)).bind fun a20 =>
(wr base r18.2 a20.block ((a20.off + Int.toNat n4 * 6) + 4) [(vI n19)]).bind fun h21 =>
some (.inl ([some (vL l2.1 l2.2)], h21))
else none)
else
(if (n7 == (3 : Int)) = true then
nw1 r6.2 9 [(vT (⟨#[]⟩ : ByteArray)), (vT (⟨#[65]⟩ : ByteArray)), (vT (⟨#[120]⟩ : ByteArray))] fun h22 =>
(run (Et base) 190 [(.pointer v0), (vL (some ⟨(List.length r6.2), 0, none⟩) 3)] h22).bind fun r23 =>
((some r23.1).bind getStr).bind fun s24 =>
(if 0 ≤ n4 ∧ n4 < ((l2.2 : Nat) : Int) then
((l2.1 : Option Addr)).bind fun a25 =>
(wr base r23.2 a25.block ((a25.off + Int.toNat n4 * 6) + 5) [(vT s24)]).bind fun h26 =>
some (.inl ([some (vL l2.1 l2.2)], h26))
else none)
else
(if (n7 == (4 : Int)) = true then
(if 0 ≤ (0 : Int) ∧ (0 : Int) ≤ n4 ∧ n4 ≤ ((l2.2 : Nat) : Int) ∧ okTy base r6.2 l2.1 139 (Int.toNat (0 : Int)) = true then
some (.inl ([some (.slice (shiftA l2.1 (Int.toNat (0 : Int) * 6)) (Int.toNat n4 - Int.toNat (0 : Int)) (Int.toNat n4 - Int.toNat (0 : Int)))], r6.2))
else none)
else
some (.inl ([some (vL l2.1 l2.2)], r6.2)))))))).bind fun j5 => joinK j5 fun j5 =>
((sget j5.1 0).bind getS).bind fun l27 =>
some ((vL l27.1 l27.2), j5.2)
theorem r156 {base : Nat} {v0 : Option Addr} {h : AH} {r : Value × AH} (hx : qf156 base v0 h = some r) : run (Et base) 156 [(.pointer v0)] h = some r := run_i (an := a156) Try.func156 (by kernel_rfl) (.trans (by kernel_rfl) hx)
end Go.Proofs.Ytjmkbglnjklbcaa.Am
