/- What each of these functions comes to on the abstract machine, one equation a function and one a loop.
Conditions: none. -/
import Derived.Test.YtjmkbglnjklbcaaTb
set_option linter.unusedVariables false
set_option maxRecDepth 100000
namespace Go.Proofs.Ytjmkbglnjklbcaa.Am
open Go Go.RowKit
noncomputable def B9_0 (base : Nat) : Body := fun l h => lay s9_0 l fun s => exCode (Et base) (run (Et base)) loopL a9_0 (subC [1, 1, 1, 1, 1, 1, 1, 1, 1, 1, 1, 0, 1, 0, 0] (bodyC Try.f9)) s h (keepK s9_0 e9_0)
theorem B9_0_eq (base : Nat) (v5 : Int) (v8 : Int) (v13 : Int) (v16 : Int) (v19 : Addr) (v20 : Bool) (v21 : Int) (h : AH) : B9_0 base [some (vI v5), some (vI v8), some (vI v13), some (vI v16), some (vA v19), some (.bool v20), some (vI v21)] h =
((if (decide (v21 < v16)) = true then
((cell h v19.block v19.off).bind getS).bind fun l1 =>
(run (Et base) 63 [(.agg #[(vL l1.1 l1.2)]), (vI v8), (vI v21)] h).bind fun r2 =>
(getTup 2 r2.1).bind fun l3 =>
l_IB l3 fun n4 b5 =>
((if (!b5) = true then
some (.inl ([some (vI v5), some (vI v8), some (vI v13), some (vI v16), some (vA v19), some (.bool v20), some (vI v21), some (.bool true)], r2.2))
else
some (.inl ([some (vI v5), some (vI v8), some (vI v13), some (vI v16), some (vA v19), some (.bool v20), some (vI v21), some (.bool (n4 != (0 : Int)))], r2.2)))).bind fun j6 => joinK j6 fun j6 =>
j_IIIIABIB j6.1 fun n7 n8 n9 n10 d11 b12 n13 b14 =>
(if b14 = true then
some (1, [some (.bool false)], j6.2)
else
some (0, [some (vI n7), some (vI n8), some (vI n9), some (vI n10), some (vA d11), some (.bool b12), some (vI (IntKind.wrap .i64 (n13 + (1 : Int))))], j6.2))
else
some (2, [some (vI v5), some (vI v13), some (vA v19), some (.bool v20)], h)) : Option (Nat × Slots × AH)) := by kernel_rfl
noncomputable abbrev qf9 (base : Nat) (v0 : Option Addr) (v0n : Nat) (h : AH) : Option (Value × AH) :=
(run (Et base) 38 [(vL v0 v0n)] h).bind fun r1 =>
((some r1.1).bind getB).bind fun b2 =>
(if b2 = true then
some ((.bool true), r1.2)
else
(run (Et base) 57 [(vL v0 v0n)] r1.2).bind fun r3 =>
gG (some r3.1) 1 fun l4 =>
((l4[0]?).bind getS).bind fun l5 =>
nw1 r3.2 91 [(vL none 0)] fun h6 =>
(wr base h6 (List.length r3.2) 0 [(vL l5.1 l5.2)]).bind fun h7 =>
((cell h7 (List.length r3.2) 0).bind getS).bind fun l8 =>
(run (Et base) 59 [(vL v0 v0n), (vI (2 : Int))] h7).bind fun r9 =>
((some r9.1).bind (getI .i64)).bind fun n10 =>
(gate (sameA h7 r9.2 (some ⟨(List.length r3.2), 0, none⟩) 1)
((run (Et base) 58 [(.agg #[(vL l8.1 l8.2)]), (vI (IntKind.wrap .i64 ((1 : Int) + (Int.tmod n10 (6 : Int)))))] r9.2).bind fun r11 =>
(getTup 3 r11.1).bind fun l12 =>
gG (l12[0]?) 1 fun l13 =>
((l13[0]?).bind getS).bind fun l14 =>
((l12[1]?).bind (getI .i64)).bind fun n15 =>
((l12[2]?).bind (getI .i64)).bind fun n16 =>
(gate (neA (some ⟨(List.length r3.2), 0, none⟩) (List.length r11.2))
(nw1 r11.2 91 [(vL none 0)] fun h17 =>
(wr base h17 (List.length r11.2) 0 [(vL l14.1 l14.2)]).bind fun h18 =>
((cell h18 (List.length r11.2) 0).bind getS).bind fun l19 =>
(run (Et base) 59 [(vL v0 v0n), (vI (3 : Int))] h18).bind fun r20 =>
((some r20.1).bind (getI .i64)).bind fun n21 =>
(gate (sameA h18 r20.2 (some ⟨(List.length r11.2), 0, none⟩) 1)
((run (Et base) 58 [(.agg #[(vL l19.1 l19.2)]), (vI (IntKind.wrap .i64 ((1 : Int) + (Int.tmod n21 (6 : Int)))))] r20.2).bind fun r22 =>
(getTup 3 r22.1).bind fun l23 =>
gG (l23[0]?) 1 fun l24 =>
((l24[0]?).bind getS).bind fun l25 =>
((l23[1]?).bind (getI .i64)).bind fun n26 =>
((l23[2]?).bind (getI .i64)).bind fun n27 =>
(gate (neA (some ⟨(List.length r11.2), 0, none⟩) (List.length r22.2))
(nw1 r22.2 91 [(vL none 0)] fun h28 =>
(wr base h28 (List.length r22.2) 0 [(vL l25.1 l25.2)]).bind fun h29 =>
((cell h29 (List.length r3.2) 0).bind getS).bind fun l30 =>
(run (Et base) 59 [(vL v0 v0n), (vI (2 : Int))] h29).bind fun r31 =>
((some r31.1).bind (getI .i64)).bind fun n32 =>
(gate (sameA h29 r31.2 (some ⟨(List.length r3.2), 0, none⟩) 1)
((run (Et base) 60 [(.agg #[(vL l30.1 l30.2)]), (vI (IntKind.wrap .i64 ((1 : Int) + (Int.tmod n32 (6 : Int)))))] r31.2).bind fun r33 =>
(getTup 3 r33.1).bind fun l34 =>
gG (l34[0]?) 1 fun l35 =>
((l35[0]?).bind getS).bind fun l36 =>
((l34[1]?).bind (getI .i64)).bind fun n37 =>
((l34[2]?).bind (getI .i64)).bind fun n38 =>
(gate (neA (some ⟨(List.length r3.2), 0, none⟩) (List.length r33.2))
(nw1 r33.2 91 [(vL none 0)] fun h39 =>
(wr base h39 (List.length r33.2) 0 [(vL l36.1 l36.2)]).bind fun h40 =>
((if (n16 != n38) = true then
some (.inl ([some (vI n15), some (vI n16), some (vP (List.length r22.2)), some (vI n26), some (vI n38), some (.bool true)], h40))
else
(if (n16 != (0 : Int)) = true then
some (.inl ([some (vI n15), some (vI n16), some (vP (List.length r22.2)), some (vI n26), some (vI n38), some (.bool true)], h40))
else
some (.inl ([some (vI n15), some (vI n16), some (vP (List.length r22.2)), some (vI n26), some (vI n38), some (.bool (n27 != (0 : Int)))], h40))))).bind fun j41 => joinK j41 fun j41 =>
j_IIAIIB j41.1 fun n42 n43 d44 n45 n46 b47 =>
(if b47 = true then
some ((.bool (n43 == n46)), j41.2)
else
((cell j41.2 d44.block d44.off).bind getS).bind fun l48 =>
(run (Et base) 61 [(.agg #[(vL l48.1 l48.2)]), (vI n42)] j41.2).bind fun r49 =>
(getTup 3 r49.1).bind fun l50 =>
l_IBB l50 fun n51 b52 b53 =>
((cell r49.2 d44.block d44.off).bind getS).bind fun l54 =>
(run (Et base) 61 [(.agg #[(vL l54.1 l54.2)]), (vI n45)] r49.2).bind fun r55 =>
(getTup 3 r55.1).bind fun l56 =>
l_IBB l56 fun n57 b58 b59 =>
((if (decide (n42 < n45)) = true then
(if (decide ((IntKind.wrap .i64 ((IntKind.wrap .i64 (n42 + n51)) + (3 : Int))) > n45)) = true then
some (.inl ([some (vI n42), some (vA d44), some (vI n45), some (vI n51), some (vI n57), some (.bool true)], r55.2))
else
(if (decide (n45 < n42)) = true then
(if (decide ((IntKind.wrap .i64 ((IntKind.wrap .i64 (n45 + n57)) + (3 : Int))) > n42)) = true then
some (.inl ([some (vI n42), some (vA d44), some (vI n45), some (vI n51), some (vI n57), some (.bool true)], r55.2))
else
some (.inl ([some (vI n42), some (vA d44), some (vI n45), some (vI n51), some (vI n57), some (.bool (n42 == n45))], r55.2)))
else
some (.inl ([some (vI n42), some (vA d44), some (vI n45), some (vI n51), some (vI n57), some (.bool (n42 == n45))], r55.2))))
else
(if (decide (n45 < n42)) = true then
(if (decide ((IntKind.wrap .i64 ((IntKind.wrap .i64 (n45 + n57)) + (3 : Int))) > n42)) = true then
some (.inl ([some (vI n42), some (vA d44), some (vI n45), some (vI n51), some (vI n57), some (.bool true)], r55.2))
else
some (.inl ([some (vI n42), some (vA d44), some (vI n45), some (vI n51), some (vI n57), some (.bool (n42 == n45))], r55.2)))
else
some (.inl ([some (vI n42), some (vA d44), some (vI n45), some (vI n51), some (vI n57), some (.bool (n42 == n45))], r55.2))))).bind fun j60 => joinK j60 fun j60 =>
j_IAIIIB j60.1 fun n61 d62 n63 n64 n65 b66 =>
(if b66 = true then
some ((.bool false), j60.2)
else
((cell j60.2 d62.block d62.off).bind getS).bind fun l67 =>
(run (Et base) 62 [(.agg #[(vL l67.1 l67.2)]), (vI n61), (vI (IntKind.wrap .i64 (n64 - (1 : Int)))), (vI (77 : Int))] j60.2).bind fun r68 =>
(getTup 2 r68.1).bind fun l69 =>
gG (l69[0]?) 1 fun l70 =>
((l70[0]?).bind getS).bind fun l71 =>
((l69[1]?).bind getB).bind fun b72 =>
nw1 r68.2 91 [(vL none 0)] fun h73 =>
(wr base h73 (List.length r68.2) 0 [(vL l71.1 l71.2)]).bind fun h74 =>
(loopL (B9_0 base) [some (vI n61), some (vI n63), some (vI n64), some (vI n65), some (vP (List.length r68.2)), some (.bool b72), some (vI (0 : Int))] h74).bind fun q75 =>
(if q75.1 = 1 then
((sget q75.2.1 0).bind getB).bind fun b76 =>
some ((.bool b76), q75.2.2)
else
(if q75.1 = 2 then
j_IIAB q75.2.1 fun n77 n78 d79 b80 =>
((cell q75.2.2 d79.block d79.off).bind getS).bind fun l81 =>
(run (Et base) 63 [(.agg #[(vL l81.1 l81.2)]), (vI n77), (vI (IntKind.wrap .i64 (n78 - (1 : Int))))] q75.2.2).bind fun r82 =>
(getTup 2 r82.1).bind fun l83 =>
l_IB l83 fun n84 b85 =>
(if b80 = true then
(if b85 = true then
(if (n84 == (77 : Int)) = true then
((cell r82.2 d79.block d79.off).bind getS).bind fun l86 =>
(run (Et base) 64 [(.agg #[(vL l86.1 l86.2)])] r82.2).bind fun r87 =>
((some r87.1).bind (getI .i64)).bind fun n88 =>
some ((.bool (n88 == (-1 : Int))), r87.2)
else
some ((.bool false), r82.2))
else
some ((.bool false), r82.2))
else
some ((.bool false), r82.2))
else
none)))))))))))))))))
theorem r9 {base : Nat} {v0 : Option Addr} {v0n : Nat} {h : AH} {r : Value × AH} (hx : qf9 base v0 v0n h = some r) : run (Et base) 9 [(vL v0 v0n)] h = some r := run_i (an := a9) Try.func9 (by kernel_rfl) (.trans (by kernel_rfl) hx)
theorem r38 {base : Nat} {v0 : Option Addr} {v0n : Nat} {h : AH} {r : Value × AH} (hx : (some ((.bool (decide (((v0n : Nat) : Int) > (1048576 : Int)))), h)) = some r) : run (Et base) 38 [(vL v0 v0n)] h = some r := run_i (an := a38) Try.func38 (by kernel_rfl) (.trans (by kernel_rfl) hx)
theorem r57 {base : Nat} {v0 : Option Addr} {v0n : Nat} {h : AH} {r : Value × AH} (hx : ((some (h ++ [some ⟨[(.slice none 0 0)], 91⟩])).bind fun h1 =>
(run (Et base) 91 [(.slice v0 v0n v0n)] h1).bind fun r2 =>
((some r2.1).bind getP).bind fun p3 =>
(run (Et base) 117 [(.pointer p3)] r2.2).bind fun r4 =>
((some r4.1).bind (getAgg 1)).bind fun l5 =>
((l5[0]?).bind getS).bind fun l6 =>
(wr base r4.2 (List.length h) 0 [(.slice l6.1 l6.2 l6.2)]).bind fun h7 =>
((cell h7 (List.length h) 0).bind getS).bind fun l8 =>
some ((.agg #[(.slice l8.1 l8.2 l8.2)]), h7)) = some r) : run (Et base) 57 [(vL v0 v0n)] h = some r := run_i (an := a57) Try.func57 (by kernel_rfl) (.trans (by kernel_rfl) hx)
noncomputable def B58_0 (base : Nat) : Body := fun l h => lay s58_0 l fun s => exCode (Et base) (run (Et base)) loopL a58_0 (subC [1, 1, 1, 0, 1, 0, 0] (bodyC Try.f58)) s h (keepK s58_0 e58_0)
theorem B58_0_eq (base : Nat) (v1 : Int) (v2 : Addr) (v4 : Addr) (v7 : Addr) (v26 : Option Addr) (v26n : Nat) (v27 : Int) (v28 : Int) (h : AH) : B58_0 base [some (vI v1), some (vA v2), some (vA v4), some (vA v7), some (vL v26 v26n), some (vI v27), some (vI v28)] h =
((if (decide (v28 < v27)) = true then
(if 0 ≤ v28 ∧ v28 < ((v26n : Nat) : Int) then
((v26 : Option Addr)).bind fun a1 =>
((cell h a1.block (a1.off + Int.toNat v28 * 1)).bind (getI .i64)).bind fun n2 =>
((cell h v2.block v2.off).bind getS).bind fun l3 =>
(run (Et base) 61 [(.agg #[(vL l3.1 l3.2)]), (vI n2)] h).bind fun r4 =>
(getTup 3 r4.1).bind fun l5 =>
l_IBB l5 fun n6 b7 b8 =>
((if b7 = true then
some (.inl ([some (vI v1), some (vA v2), some (vA v4), some (vA v7), some (vI n2), some (vI n6), some (vL v26 v26n), some (vI v27), some (vI v28), some (.bool true)], r4.2))
else
some (.inl ([some (vI v1), some (vA v2), some (vA v4), some (vA v7), some (vI n2), some (vI n6), some (vL v26 v26n), some (vI v27), some (vI v28), some (.bool (decide (n6 < v1)))], r4.2)))).bind fun j9 => joinK j9 fun j9 =>
j_IAAAIILIIB j9.1 fun n10 d11 d12 d13 n14 n15 l16 n17 n18 b19 =>
(if b19 = true then
some (0, [some (vI n10), some (vA d11), some (vA d12), some (vA d13), some (vL l16.1 l16.2), some (vI n17), some (vI (IntKind.wrap .i64 (n18 + (1 : Int))))], j9.2)
else
((if (decide (n15 ≥ (IntKind.wrap .i64 (n10 + (4 : Int))))) = true then
((cell j9.2 d13.block (d13.off + 0)).bind getS).bind fun l21 =>
(run (Et base) 120 [(vL l21.1 l21.2), (vI n14), (vI (IntKind.wrap .i64 (n10 + (3 : Int))))] j9.2).bind fun r22 =>
(getTup 0 r22.1).bind fun _ =>
((cell r22.2 d13.block (d13.off + 0)).bind getS).bind fun l23 =>
(run (Et base) 121 [(vL l23.1 l23.2), (vI (IntKind.wrap .i64 ((IntKind.wrap .i64 (n14 + n10)) + (3 : Int)))), (vI (IntKind.wrap .i64 (n15 - n10)))] r22.2).bind fun r24 =>
(getTup 0 r24.1).bind fun _ =>
some (.inl ([some (vA d12), some (vA d13), some (vI n14)], r24.2))
else
((cell j9.2 d13.block (d13.off + 0)).bind getS).bind fun l25 =>
(run (Et base) 120 [(vL l25.1 l25.2), (vI n14), (vI (IntKind.wrap .i64 (n15 + (3 : Int))))] j9.2).bind fun r26 =>
(getTup 0 r26.1).bind fun _ =>
some (.inl ([some (vA d12), some (vA d13), some (vI n14)], r26.2)))).bind fun j20 => joinK j20 fun j20 =>
j_AAI j20.1 fun d27 d28 n29 =>
((cell j20.2 d28.block d28.off).bind getS).bind fun l30 =>
(wr base j20.2 d27.block d27.off [(vL l30.1 l30.2)]).bind fun h31 =>
some (1, [some (vA d27), some (vI n29), some (vI (0 : Int))], h31))
else none)
else
some (3, [some (vA v4), some (vA v7)], h)) : Option (Nat × Slots × AH)) := by kernel_rfl
theorem r58 {base : Nat} {v0_0 : Option Addr} {v0_0n : Nat} {v1 : Int} {h : AH} {r : Value × AH} (hx : (nw1 h 91 [(vL v0_0 v0_0n)] fun h1 =>
nw1 h1 91 [(vL none 0)] fun h2 =>
((cell h2 (List.length h) 0).bind getS).bind fun l3 =>
(run (Et base) 118 [(.agg #[(vL l3.1 l3.2)])] h2).bind fun r4 =>
gG (some r4.1) 1 fun l5 =>
((l5[0]?).bind getS).bind fun l6 =>
nw1 r4.2 91 [(vL none 0)] fun h7 =>
(wr base h7 (List.length r4.2) 0 [(vL l6.1 l6.2)]).bind fun h8 =>
((cell h8 (List.length h) 0).bind getS).bind fun l9 =>
(run (Et base) 64 [(.agg #[(vL l9.1 l9.2)])] h8).bind fun r10 =>
((some r10.1).bind (getI .i64)).bind fun n11 =>
(if (n11 != (-1 : Int)) = true then
((cell r10.2 (List.length r4.2) 0).bind getS).bind fun l12 =>
(wr base r10.2 (List.length h1) 0 [(vL l12.1 l12.2)]).bind fun h13 =>
((cell h13 (List.length h1) 0).bind getS).bind fun l14 =>
some ((.tuple #[(.agg #[(vL l14.1 l14.2)]), (vI (0 : Int)), (vI (3 : Int))]), h13)
else
(run (Et base) 87 [(vI v1), (vI (1 : Int)), (vI (4000 : Int))] r10.2).bind fun r15 =>
((some r15.1).bind getB).bind fun b16 =>
(if (!b16) = true then
((cell r15.2 (List.length r4.2) 0).bind getS).bind fun l17 =>
(wr base r15.2 (List.length h1) 0 [(vL l17.1 l17.2)]).bind fun h18 =>
((cell h18 (List.length h1) 0).bind getS).bind fun l19 =>
some ((.tuple #[(.agg #[(vL l19.1 l19.2)]), (vI (0 : Int)), (vI (2 : Int))]), h18)
else
((cell r15.2 (List.length h) 0).bind getS).bind fun l20 =>
(run (Et base) 119 [(.agg #[(vL l20.1 l20.2)])] r15.2).bind fun r21 =>
((some r21.1).bind getS).bind fun l22 =>
(loopL (B58_0 base) [some (vI v1), some (vP (List.length h)), some (vP (List.length h1)), some (vP (List.length r4.2)), some (vL l22.1 l22.2), some (vI ((l22.2 : Nat) : Int)), some (vI (0 : Int))] r21.2).bind fun q23 =>
(if q23.1 = 1 then
j_AII q23.2.1 fun d24 n25 n26 =>
((cell q23.2.2 d24.block d24.off).bind getS).bind fun l27 =>
some ((.tuple #[(.agg #[(vL l27.1 l27.2)]), (vI n25), (vI n26)]), q23.2.2)
else
(if q23.1 = 3 then
j_AA q23.2.1 fun d28 d29 =>
((cell q23.2.2 d29.block d29.off).bind getS).bind fun l30 =>
(wr base q23.2.2 d28.block d28.off [(vL l30.1 l30.2)]).bind fun h31 =>
((cell h31 d28.block d28.off).bind getS).bind fun l32 =>
some ((.tuple #[(.agg #[(vL l32.1 l32.2)]), (vI (0 : Int)), (vI (1 : Int))]), h31)
else
none))))) = some r) : run (Et base) 58 [(.agg #[(vL v0_0 v0_0n)]), (vI v1)] h = some r := run_i (an := a58) Try.func58 (by kernel_rfl) (.trans (by kernel_rfl) hx)
theorem r59 {base : Nat} {v0 : Option Addr} {v0n : Nat} {v1 : Int} {h : AH} {r : Value × AH} (hx : ((if (decide (v1 < ((v0n : Nat) : Int))) = true then
(if 0 ≤ v1 ∧ v1 < ((v0n : Nat) : Int) then
((v0 : Option Addr)).bind fun a1 =>
((cell h a1.block (a1.off + Int.toNat v1 * 1)).bind (getI .u8)).bind fun n2 =>
some ((.int .i64 (IntKind.wrap .i64 n2)), h)
else none)
else
some ((.int .i64 (Int.tmod (IntKind.wrap .i64 ((IntKind.wrap .i64 (v1 * (31 : Int))) + (IntKind.wrap .i64 (((v0n : Nat) : Int) * (7 : Int))))) (256 : Int))), h))) = some r) : run (Et base) 59 [(vL v0 v0n), (vI v1)] h = some r := run_i (an := a59) Try.func59 (by kernel_rfl) (.trans (by kernel_rfl) hx)
noncomputable def B60_0 (base : Nat) : Body := fun l h => lay s60_0 l fun s => exCode (Et base) (run (Et base)) loopL a60_0 (subC [1, 1, 1, 1, 0, 1, 0, 0] (bodyC Try.f60)) s h (keepK s60_0 e60_0)
theorem B60_0_eq (base : Nat) (v1 : Int) (v2 : Addr) (v4 : Addr) (v7 : Addr) (v8 : Option Addr) (v8n : Nat) (v9 : Int) (h : AH) : B60_0 base [some (vI v1), some (vA v2), some (vA v4), some (vA v7), some (vL v8 v8n), some (vI v9)] h =
((if (decide (v9 < ((v8n : Nat) : Int))) = true then
(if 0 ≤ v9 ∧ v9 < ((v8n : Nat) : Int) then
((v8 : Option Addr)).bind fun a1 =>
((cell h a1.block (a1.off + Int.toNat v9 * 1)).bind (getI .i64)).bind fun n2 =>
((cell h v2.block v2.off).bind getS).bind fun l3 =>
(run (Et base) 125 [(.agg #[(vL l3.1 l3.2)]), (vI n2)] h).bind fun r4 =>
(getTup 3 r4.1).bind fun l5 =>
l_IBB l5 fun n6 b7 b8 =>
((if b7 = true then
some (.inl ([some (vI v1), some (vA v2), some (vA v4), some (vA v7), some (vL v8 v8n), some (vI v9), some (vI n2), some (vI n6), some (.bool true)], r4.2))
else
some (.inl ([some (vI v1), some (vA v2), some (vA v4), some (vA v7), some (vL v8 v8n), some (vI v9), some (vI n2), some (vI n6), some (.bool (decide (n6 < v1)))], r4.2)))).bind fun j9 => joinK j9 fun j9 =>
j_IAAALIIIB j9.1 fun n10 d11 d12 d13 l14 n15 n16 n17 b18 =>
(if b18 = true then
some (0, [some (vI n10), some (vA d11), some (vA d12), some (vA d13), some (vL l14.1 l14.2), some (vI (IntKind.wrap .i64 (n15 + (1 : Int))))], j9.2)
else
((if (decide ((IntKind.wrap .i64 (n17 - n10)) ≥ (4 : Int))) = true then
((cell j9.2 d13.block (d13.off + 0)).bind getS).bind fun l20 =>
(run (Et base) 126 [(vL l20.1 l20.2), (vI (IntKind.wrap .i64 ((IntKind.wrap .i64 (n16 + n10)) + (3 : Int)))), (vI (IntKind.wrap .i64 ((IntKind.wrap .i64 (n17 - n10)) - (3 : Int)))), (.bool false)] j9.2).bind fun r21 =>
(getTup 0 r21.1).bind fun _ =>
some (.inl ([some (vA d12), some (vA d13), some (vI n16), some (vI n10)], r21.2))
else
some (.inl ([some (vA d12), some (vA d13), some (vI n16), some (vI n17)], j9.2)))).bind fun j19 => joinK j19 fun j19 =>
j_AAII j19.1 fun d22 d23 n24 n25 =>
((cell j19.2 d23.block (d23.off + 0)).bind getS).bind fun l26 =>
(run (Et base) 126 [(vL l26.1 l26.2), (vI n24), (vI n25), (.bool true)] j19.2).bind fun r27 =>
(getTup 0 r27.1).bind fun _ =>
((cell r27.2 d23.block d23.off).bind getS).bind fun l28 =>
(wr base r27.2 d22.block d22.off [(vL l28.1 l28.2)]).bind fun h29 =>
some (1, [some (vA d22), some (vI n24), some (vI (0 : Int))], h29))
else none)
else
some (3, [some (vA v4), some (vA v7)], h)) : Option (Nat × Slots × AH)) := by kernel_rfl
theorem r60 {base : Nat} {v0_0 : Option Addr} {v0_0n : Nat} {v1 : Int} {h : AH} {r : Value × AH} (hx : (nw1 h 91 [(vL v0_0 v0_0n)] fun h1 =>
nw1 h1 91 [(vL none 0)] fun h2 =>
((cell h2 (List.length h) 0).bind getS).bind fun l3 =>
(run (Et base) 122 [(.agg #[(vL l3.1 l3.2)])] h2).bind fun r4 =>
gG (some r4.1) 1 fun l5 =>
((l5[0]?).bind getS).bind fun l6 =>
nw1 r4.2 91 [(vL none 0)] fun h7 =>
(wr base h7 (List.length r4.2) 0 [(vL l6.1 l6.2)]).bind fun h8 =>
((cell h8 (List.length h) 0).bind getS).bind fun l9 =>
(run (Et base) 123 [(.agg #[(vL l9.1 l9.2)])] h8).bind fun r10 =>
((some r10.1).bind (getI .i64)).bind fun n11 =>
(if (n11 != (-1 : Int)) = true then
((cell r10.2 (List.length r4.2) 0).bind getS).bind fun l12 =>
(wr base r10.2 (List.length h1) 0 [(vL l12.1 l12.2)]).bind fun h13 =>
((cell h13 (List.length h1) 0).bind getS).bind fun l14 =>
some ((.tuple #[(.agg #[(vL l14.1 l14.2)]), (vI (0 : Int)), (vI (3 : Int))]), h13)
else
(run (Et base) 83 [(vI v1), (vI (1 : Int)), (vI (4000 : Int))] r10.2).bind fun r15 =>
((some r15.1).bind getB).bind fun b16 =>
(if (!b16) = true then
((cell r15.2 (List.length r4.2) 0).bind getS).bind fun l17 =>
(wr base r15.2 (List.length h1) 0 [(vL l17.1 l17.2)]).bind fun h18 =>
((cell h18 (List.length h1) 0).bind getS).bind fun l19 =>
some ((.tuple #[(.agg #[(vL l19.1 l19.2)]), (vI (0 : Int)), (vI (2 : Int))]), h18)
else
((cell r15.2 (List.length h) 0).bind getS).bind fun l20 =>
(run (Et base) 124 [(.agg #[(vL l20.1 l20.2)])] r15.2).bind fun r21 =>
((some r21.1).bind getS).bind fun l22 =>
(loopL (B60_0 base) [some (vI v1), some (vP (List.length h)), some (vP (List.length h1)), some (vP (List.length r4.2)), some (vL l22.1 l22.2), some (vI (0 : Int))] r21.2).bind fun q23 =>
(if q23.1 = 1 then
j_AII q23.2.1 fun d24 n25 n26 =>
((cell q23.2.2 d24.block d24.off).bind getS).bind fun l27 =>
some ((.tuple #[(.agg #[(vL l27.1 l27.2)]), (vI n25), (vI n26)]), q23.2.2)
else
(if q23.1 = 3 then
j_AA q23.2.1 fun d28 d29 =>
((cell q23.2.2 d29.block d29.off).bind getS).bind fun l30 =>
(wr base q23.2.2 d28.block d28.off [(vL l30.1 l30.2)]).bind fun h31 =>
((cell h31 d28.block d28.off).bind getS).bind fun l32 =>
some ((.tuple #[(.agg #[(vL l32.1 l32.2)]), (vI (0 : Int)), (vI (1 : Int))]), h31)
else
none))))) = some r) : run (Et base) 60 [(.agg #[(vL v0_0 v0_0n)]), (vI v1)] h = some r := run_i (an := a60) Try.func60 (by kernel_rfl) (.trans (by kernel_rfl) hx)
noncomputable def B61_0 (base : Nat) : Body := fun l h => lay s61_0 l fun s => exCode (Et base) (run (Et base)) loopL a61_0 (subC [1, 1, 1, 1, 1, 1, 1, 0, 1, 0, 0] (bodyC Try.f61)) s h (keepK s61_0 e61_0)
theorem B61_0_eq (base : Nat) (v1 : Int) (v2 : Addr) (v7 : Int) (v10 : Int) (h : AH) : B61_0 base [some (vI v1), some (vA v2), some (vI v7), some (vI v10)] h =
((if (decide (v10 < (IntKind.wrap .i64 ((IntKind.wrap .i64 (v1 + (2 : Int))) + v7)))) = true then
((cell h v2.block (v2.off + 0)).bind getS).bind fun l1 =>
(if 0 ≤ v10 ∧ v10 < ((l1.2 : Nat) : Int) then
((l1.1 : Option Addr)).bind fun a2 =>
((cell h a2.block (a2.off + Int.toNat v10 * 1)).bind (getI .i64)).bind fun n3 =>
(run (Et base) 129 [(.int .i64 v10)] h).bind fun r4 =>
((some r4.1).bind (getI .i64)).bind fun n5 =>
(gate (sameA h r4.2 (some ⟨a2.block, (a2.off + Int.toNat v10 * 1), none⟩) 1)
((gate (sameA h r4.2 (some ⟨v2.block, (v2.off + 0), none⟩) 1)
((if (n3 != n5) = true then
some (1, [some (.int .i64 (0 : Int)), some (.bool false), some (.bool false)], r4.2)
else
some (0, [some (.int .i64 v1), some (.pointer (some v2)), some (.int .i64 v7), some (.int .i64 (IntKind.wrap .i64 (v10 + (1 : Int))))], r4.2))))))
else none)
else
some (2, [some (.int .i64 v7)], h)) : Option (Nat × Slots × AH)) := by kernel_rfl
noncomputable abbrev qf61 (base : Nat) (v0_0 : Option Addr) (v0_0n : Nat) (v1 : Int) (h : AH) : Option (Value × AH) :=
nw1 h 91 [(vL v0_0 v0_0n)] fun h1 =>
((cell h1 (List.length h) 0).bind getS).bind fun l2 =>
(run (Et base) 87 [(vI v1), (vI (0 : Int)), (vI (IntKind.wrap .i64 (((l2.2 : Nat) : Int) - (4 : Int))))] h1).bind fun r3 =>
((some r3.1).bind getB).bind fun b4 =>
(if (!b4) = true then
some ((.tuple #[(vI (0 : Int)), (.bool false), (.bool false)]), r3.2)
else
((cell r3.2 (List.length h) 0).bind getS).bind fun l5 =>
(if 0 ≤ (IntKind.wrap .i64 (v1 + (1 : Int))) ∧ (IntKind.wrap .i64 (v1 + (1 : Int))) < ((l5.2 : Nat) : Int) then
((l5.1 : Option Addr)).bind fun a6 =>
((cell r3.2 a6.block (a6.off + Int.toNat (IntKind.wrap .i64 (v1 + (1 : Int))) * 1)).bind (getI .i64)).bind fun n7 =>
((cell r3.2 (List.length h) 0).bind getS).bind fun l8 =>
(run (Et base) 87 [(vI n7), (vI (1 : Int)), (vI (IntKind.wrap .i64 ((IntKind.wrap .i64 (((l8.2 : Nat) : Int) - v1)) - (3 : Int))))] r3.2).bind fun r9 =>
((some r9.1).bind getB).bind fun b10 =>
(if (!b10) = true then
some ((.tuple #[(vI (0 : Int)), (.bool false), (.bool false)]), r9.2)
else
((cell r9.2 (List.length h) 0).bind getS).bind fun l11 =>
(if 0 ≤ v1 ∧ v1 < ((l11.2 : Nat) : Int) then
((l11.1 : Option Addr)).bind fun a12 =>
((cell r9.2 a12.block (a12.off + Int.toNat v1 * 1)).bind (getI .i64)).bind fun n13 =>
((cell r9.2 (List.length h) 0).bind getS).bind fun l14 =>
(if 0 ≤ (IntKind.wrap .i64 ((IntKind.wrap .i64 (v1 + (2 : Int))) + n7)) ∧ (IntKind.wrap .i64 ((IntKind.wrap .i64 (v1 + (2 : Int))) + n7)) < ((l14.2 : Nat) : Int) then
((l14.1 : Option Addr)).bind fun a15 =>
((cell r9.2 a15.block (a15.off + Int.toNat (IntKind.wrap .i64 ((IntKind.wrap .i64 (v1 + (2 : Int))) + n7)) * 1)).bind (getI .i64)).bind fun n16 =>
((run (Et base) 127 [(vI v1), (vI n7), (.bool true)] r9.2).bind fun r18 =>
((some r18.1).bind (getI .i64)).bind fun n19 =>
(if (n13 == n19) = true then
(run (Et base) 128 [(vI v1), (vI n7), (.bool true)] r18.2).bind fun r20 =>
((some r20.1).bind (getI .i64)).bind fun n21 =>
some (.inl ([some (vI v1), some (vP (List.length h)), some (vI n7), some (vI n13), some (vI n16), some (.bool (n16 == n21))], r20.2))
else
some (.inl ([some (vI v1), some (vP (List.length h)), some (vI n7), some (vI n13), some (vI n16), some (.bool false)], r18.2)))).bind fun j17 => joinK j17 fun j17 =>
j_IAIIIB j17.1 fun n22 d23 n24 n25 n26 b27 =>
(if b27 = true then
some ((.tuple #[(vI n24), (.bool true), (.bool true)]), j17.2)
else
((run (Et base) 127 [(vI n22), (vI n24), (.bool false)] j17.2).bind fun r29 =>
((some r29.1).bind (getI .i64)).bind fun n30 =>
(if (n25 != n30) = true then
some (.inl ([some (vI n22), some (vA d23), some (vI n24), some (.bool true)], r29.2))
else
(run (Et base) 128 [(vI n22), (vI n24), (.bool false)] r29.2).bind fun r31 =>
((some r31.1).bind (getI .i64)).bind fun n32 =>
some (.inl ([some (vI n22), some (vA d23), some (vI n24), some (.bool (n26 != n32))], r31.2)))).bind fun j28 => joinK j28 fun j28 =>
j_IAIB j28.1 fun n33 d34 n35 b36 =>
(if b36 = true then
some ((.tuple #[(vI (0 : Int)), (.bool false), (.bool false)]), j28.2)
else
(loopL (B61_0 base) [some (vI n33), some (vA d34), some (vI n35), some (vI (IntKind.wrap .i64 (n33 + (2 : Int))))] j28.2).bind fun q37 =>
(if q37.1 = 1 then
j_IBB q37.2.1 fun n38 b39 b40 =>
some ((.tuple #[(vI n38), (.bool b39), (.bool b40)]), q37.2.2)
else
(if q37.1 = 2 then
((sget q37.2.1 0).bind (getI .i64)).bind fun n41 =>
some ((.tuple #[(vI n41), (.bool false), (.bool true)]), q37.2.2)
else
none))))
else none)
else none))
else none))
theorem r61 {base : Nat} {v0_0 : Option Addr} {v0_0n : Nat} {v1 : Int} {h : AH} {r : Value × AH} (hx : qf61 base v0_0 v0_0n v1 h = some r) : run (Et base) 61 [(.agg #[(vL v0_0 v0_0n)]), (vI v1)] h = some r := run_i (an := a61) Try.func61 (by kernel_rfl) (.trans (by kernel_rfl) hx)
theorem r62 {base : Nat} {v0_0 : Option Addr} {v0_0n : Nat} {v1 : Int} {v2 : Int} {v3 : Int} {h : AH} {r : Value × AH} (hx : (nw1 h 91 [(vL v0_0 v0_0n)] fun h1 =>
nw1 h1 91 [(vL none 0)] fun h2 =>
((cell h2 (List.length h) 0).bind getS).bind fun l3 =>
(run (Et base) 118 [(.agg #[(vL l3.1 l3.2)])] h2).bind fun r4 =>
gG (some r4.1) 1 fun l5 =>
((l5[0]?).bind getS).bind fun l6 =>
nw1 r4.2 91 [(vL none 0)] fun h7 =>
(wr base h7 (List.length r4.2) 0 [(vL l6.1 l6.2)]).bind fun h8 =>
((cell h8 (List.length h) 0).bind getS).bind fun l9 =>
(run (Et base) 130 [(.agg #[(vL l9.1 l9.2)]), (vI v1), (vI v2)] h8).bind fun r10 =>
(getTup 2 r10.1).bind fun l11 =>
l_IB l11 fun n12 b13 =>
((if b13 = true then
((cell r10.2 (List.length r4.2) 0).bind getS).bind fun l15 =>
(if 0 ≤ n12 ∧ n12 < ((l15.2 : Nat) : Int) then
((l15.1 : Option Addr)).bind fun a16 =>
(wr base r10.2 a16.block (a16.off + Int.toNat n12 * 1) [(vI v3)]).bind fun h17 =>
some (.inl ([some (vP (List.length h1)), some (vP (List.length r4.2)), some (.bool b13)], h17))
else none)
else
some (.inl ([some (vP (List.length h1)), some (vP (List.length r4.2)), some (.bool b13)], r10.2)))).bind fun j14 => joinK j14 fun j14 =>
j_AAB j14.1 fun d18 d19 b20 =>
((cell j14.2 d19.block d19.off).bind getS).bind fun l21 =>
(wr base j14.2 d18.block d18.off [(vL l21.1 l21.2)]).bind fun h22 =>
((cell h22 d18.block d18.off).bind getS).bind fun l23 =>
some ((.tuple #[(.agg #[(vL l23.1 l23.2)]), (.bool b20)]), h22)) = some r) : run (Et base) 62 [(.agg #[(vL v0_0 v0_0n)]), (vI v1), (vI v2), (vI v3)] h = some r := run_i (an := a62) Try.func62 (by kernel_rfl) (.trans (by kernel_rfl) hx)
theorem r63 {base : Nat} {v0_0 : Option Addr} {v0_0n : Nat} {v1 : Int} {v2 : Int} {h : AH} {r : Value × AH} (hx : ((some (h ++ [some ⟨[(.slice v0_0 v0_0n v0_0n)], 91⟩])).bind fun h1 =>
((cell h1 (List.length h) 0).bind getS).bind fun l2 =>
(run (Et base) 130 [(.agg #[(.slice l2.1 l2.2 l2.2)]), (.int .i64 v1), (.int .i64 v2)] h1).bind fun r3 =>
(getTup 2 r3.1).bind fun l4 =>
((l4[0]?).bind (getI .i64)).bind fun n5 =>
((l4[1]?).bind getB).bind fun b6 =>
(if (!b6) = true then
some ((.tuple #[(.int .i64 (0 : Int)), (.bool false)]), r3.2)
else
((cell r3.2 (List.length h) 0).bind getS).bind fun l7 =>
(if 0 ≤ n5 ∧ n5 < ((l7.2 : Nat) : Int) then
((l7.1 : Option Addr)).bind fun a8 =>
((cell r3.2 a8.block (a8.off + Int.toNat n5 * 1)).bind (getI .i64)).bind fun n9 =>
some ((.tuple #[(.int .i64 n9), (.bool true)]), r3.2)
else none))) = some r) : run (Et base) 63 [(.agg #[(vL v0_0 v0_0n)]), (vI v1), (vI v2)] h = some r := run_i (an := a63) Try.func63 (by kernel_rfl) (.trans (by kernel_rfl) hx)
noncomputable def B64_0 (base : Nat) : Body := fun l h => lay s64_0 l fun s => exCode (Et base) (run (Et base)) loopL a64_0 (subC [1, 1, 0, 1, 0, 0] (bodyC Try.f64)) s h (keepK s64_0 e64_0)
theorem B64_0_eq (base : Nat) (v1 : Addr) (v3 : Bool) (v4 : Int) (h : AH) : B64_0 base [some (vA v1), some (.bool v3), some (vI v4)] h =
(((cell h v1.block (v1.off + 0)).bind getS).bind fun l1 =>
(if (decide (v4 < ((l1.2 : Nat) : Int))) = true then
((cell h v1.block v1.off).bind getS).bind fun l2 =>
(run (Et base) 61 [(.agg #[(.slice l2.1 l2.2 l2.2)]), (.int .i64 v4)] h).bind fun r3 =>
(getTup 3 r3.1).bind fun l4 =>
((l4[0]?).bind (getI .i64)).bind fun n5 =>
((l4[1]?).bind getB).bind fun b6 =>
((l4[2]?).bind getB).bind fun b7 =>
((if (!b7) = true then
some (.inl ([some (.pointer (some v1)), some (.int .i64 v4), some (.int .i64 n5), some (.bool b6), some (.bool true)], r3.2))
else
(if (!b6) = true then
some (.inl ([some (.pointer (some v1)), some (.int .i64 v4), some (.int .i64 n5), some (.bool b6), some (.bool v3)], r3.2))
else
some (.inl ([some (.pointer (some v1)), some (.int .i64 v4), some (.int .i64 n5), some (.bool b6), some (.bool false)], r3.2))))).bind fun j8 => joinK j8 fun j8 =>
((sget j8.1 0).bind getA).bind fun d9 =>
((sget (j8.1.tail) 0).bind (getI .i64)).bind fun n10 =>
((sget (j8.1.tail.tail) 0).bind (getI .i64)).bind fun n11 =>
((sget (j8.1.tail.tail.tail) 0).bind getB).bind fun b12 =>
((sget (j8.1.tail.tail.tail.tail) 0).bind getB).bind fun b13 =>
(if b13 = true then
some (1, [some (.int .i64 n10)], j8.2)
else
some (0, [some (.pointer (some d9)), some (.bool (!b12)), some (.int .i64 (IntKind.wrap .i64 (n10 + (IntKind.wrap .i64 (n11 + (3 : Int))))))], j8.2))
else
some (2, [], h)) : Option (Nat × Slots × AH)) := by kernel_rfl
theorem r64 {base : Nat} {v0_0 : Option Addr} {v0_0n : Nat} {h : AH} {r : Value × AH} (hx : ((some (h ++ [some ⟨[(.slice v0_0 v0_0n v0_0n)], 91⟩])).bind fun h1 =>
(loopL (B64_0 base) [some (.pointer (some ⟨(List.length h), 0, none⟩)), some (.bool false), some (.int .i64 (0 : Int))] h1).bind fun q2 =>
(if q2.1 = 1 then
((sget q2.2.1 0).bind (getI .i64)).bind fun n3 =>
some ((.int .i64 n3), q2.2.2)
else
(if q2.1 = 2 then
some ((.int .i64 (-1 : Int)), q2.2.2)
else
none))) = some r) : run (Et base) 64 [(.agg #[(vL v0_0 v0_0n)])] h = some r := run_i (an := a64) Try.func64 (by kernel_rfl) (.trans (by kernel_rfl) hx)
theorem r83 {base : Nat} {v0 : Int} {v1 : Int} {v2 : Int} {h : AH} {r : Value × AH} (hx : ((if (decide (v0 ≥ v1)) = true then
some ((.bool (decide (v0 ≤ v2))), h)
else
some ((.bool false), h))) = some r) : run (Et base) 83 [(vI v0), (vI v1), (vI v2)] h = some r := run_i (an := a83) Try.func83 (by kernel_rfl) (.trans (by kernel_rfl) hx)
theorem r87 {base : Nat} {v0 : Int} {v1 : Int} {v2 : Int} {h : AH} {r : Value × AH} (hx : ((if (decide (v0 ≥ v1)) = true then
some ((.bool (decide (v0 ≤ v2))), h)
else
some ((.bool false), h))) = some r) : run (Et base) 87 [(vI v0), (vI v1), (vI v2)] h = some r := run_i (an := a87) Try.func87 (by kernel_rfl) (.trans (by kernel_rfl) hx)
noncomputable def B91_0 (base : Nat) : Body := fun l h => lay s91_0 l fun s => exCode (Et base) (run (Et base)) loopL a91_0 (subC [1, 1, 0, 1, 0, 0] (bodyC Try.f91)) s h (keepK s91_0 e91_0)
theorem B91_0_eq (base : Nat) (v0 : Option Addr) (v0n : Nat) (v3 : Int) (v4 : Int) (h : AH) : B91_0 base [some (vL v0 v0n), some (vI v3), some (vI v4)] h =
(((if (decide (v4 < ((v0n : Nat) : Int))) = true then
some (.inl ([some (.slice v0 v0n v0n), some (.int .i64 v3), some (.int .i64 v4), some (.bool (decide (v4 < (4000 : Int))))], h))
else
some (.inl ([some (.slice v0 v0n v0n), some (.int .i64 v3), some (.int .i64 v4), some (.bool false)], h)))).bind fun j1 => joinK j1 fun j1 =>
((sget j1.1 0).bind getS).bind fun l2 =>
((sget (j1.1.tail) 0).bind (getI .i64)).bind fun n3 =>
((sget (j1.1.tail.tail) 0).bind (getI .i64)).bind fun n4 =>
((sget (j1.1.tail.tail.tail) 0).bind getB).bind fun b5 =>
(if b5 = true then
(if 0 ≤ n4 ∧ n4 < ((l2.2 : Nat) : Int) then
((l2.1 : Option Addr)).bind fun a6 =>
((cell j1.2 a6.block (a6.off + Int.toNat n4 * 1)).bind (getI .u8)).bind fun n7 =>
some (0, [some (.slice l2.1 l2.2 l2.2), some (.int .i64 (Go.bits .and .i64 (IntKind.wrap .i64 ((IntKind.wrap .i64 ((IntKind.wrap .i64 (n3 * (137 : Int))) + (IntKind.wrap .i64 n7))) + (11 : Int))) (1073741823 : Int))), some (.int .i64 (IntKind.wrap .i64 (n4 + (1 : Int))))], j1.2)
else none)
else
some (2, [some (.slice l2.1 l2.2 l2.2), some (.int .i64 n3)], j1.2)) : Option (Nat × Slots × AH)) := by kernel_rfl
theorem r91 {base : Nat} {v0 : Option Addr} {v0n : Nat} {h : AH} {r : Value × AH} (hx : ((loopL (B91_0 base) [some (.slice v0 v0n v0n), some (.int .i64 (IntKind.wrap .i64 ((384384 : Int) + ((v0n : Nat) : Int)))), some (.int .i64 (0 : Int))] h).bind fun q1 =>
(if q1.1 = 2 then
((sget q1.2.1 0).bind getS).bind fun l2 =>
((sget (q1.2.1.tail) 0).bind (getI .i64)).bind fun n3 =>
(some (q1.2.2 ++ [some ⟨[(.slice l2.1 l2.2 l2.2), (.int .i64 (0 : Int)), (.int .i64 n3)], 181⟩])).bind fun h4 =>
some ((.pointer (some ⟨(List.length q1.2.2), 0, none⟩)), h4)
else
none)) = some r) : run (Et base) 91 [(vL v0 v0n)] h = some r := run_i (an := a91) Try.func91 (by kernel_rfl) (.trans (by kernel_rfl) hx)
theorem r93 {base : Nat} {v0 : Option Addr} {v1 : Option Addr} {v1n : Nat} {h : AH} {r : Value × AH} (hx : ((run (Et base) 158 [(.pointer v0), (.int .i64 ((v1n : Nat) : Int))] h).bind fun r1 =>
((some r1.1).bind (getI .i64)).bind fun n2 =>
(if 0 ≤ n2 ∧ n2 < ((v1n : Nat) : Int) then
((v1 : Option Addr)).bind fun a3 =>
((cell r1.2 a3.block (a3.off + Int.toNat n2 * 1)).bind (getI .i64)).bind fun n4 =>
some ((.int .i64 n4), r1.2)
else none)) = some r) : run (Et base) 93 [(.pointer v0), (vL v1 v1n)] h = some r := run_i (an := a93) Try.func93 (by kernel_rfl) (.trans (by kernel_rfl) hx)
theorem r110 {base : Nat} {v0 : Option Addr} {v0n : Nat} {h : AH} {r : Value × AH} (hx : ((app base h 3 1 8 none 0 (rawAt h v0 (v0n * 1)) v0n).bind fun p1 =>
((some p1.1).bind getS).bind fun l2 =>
some ((.slice l2.1 l2.2 l2.2), p1.2)) = some r) : run (Et base) 110 [(vL v0 v0n)] h = some r := run_i (an := a110) Try.func110 (by kernel_rfl) (.trans (by kernel_rfl) hx)
noncomputable def B117_0 (base : Nat) : Body := fun l h => lay s117_0 l fun s => exCode (Et base) (run (Et base)) loopL a117_0 (subC [1, 1, 0, 1, 0, 0] (bodyC Try.f117)) s h (keepK s117_0 e117_0)
theorem B117_0_eq (base : Nat) (v0 : Option Addr) (v2 : Addr) (v3 : Addr) (v4 : Int) (h : AH) : B117_0 base [some (.pointer v0), some (vA v2), some (vA v3), some (vI v4)] h =
((if (decide (v4 > (0 : Int))) = true then
(((cell h v3.block v3.off).bind getS).bind fun l2 =>
(run (Et base) 166 [(.agg #[(vL l2.1 l2.2)])] h).bind fun r3 =>
((some r3.1).bind getS).bind fun l4 =>
((if (decide (((l4.2 : Nat) : Int) > (0 : Int))) = true then
(run (Et base) 155 [(.pointer v0), (vI (3 : Int))] r3.2).bind fun r6 =>
((some r6.1).bind getB).bind fun b7 =>
some (.inl ([some (.pointer v0), some (vA v2), some (vA v3), some (vI v4), some (vL l4.1 l4.2), some (.bool b7)], r6.2))
else
some (.inl ([some (.pointer v0), some (vA v2), some (vA v3), some (vI v4), some (vL l4.1 l4.2), some (.bool false)], r3.2)))).bind fun j5 => joinK j5 fun j5 =>
j_PAAILB j5.1 fun p8 d9 d10 n11 l12 b13 =>
(if b13 = true then
((cell j5.2 d10.block d10.off).bind getS).bind fun l14 =>
(run (Et base) 158 [(.pointer p8), (vI ((l12.2 : Nat) : Int))] j5.2).bind fun r15 =>
((some r15.1).bind (getI .i64)).bind fun n16 =>
(gate (sameA j5.2 r15.2 (some d10) 1)
((if 0 ≤ n16 ∧ n16 < ((l12.2 : Nat) : Int) then
((l12.1 : Option Addr)).bind fun a17 =>
((cell r15.2 a17.block (a17.off + Int.toNat n16 * 1)).bind (getI .i64)).bind fun n18 =>
(run (Et base) 167 [(.agg #[(vL l14.1 l14.2)]), (vI n18)] r15.2).bind fun r19 =>
(getTup 2 r19.1).bind fun l20 =>
gG (l20[0]?) 1 fun l21 =>
((l21[0]?).bind getS).bind fun l22 =>
((l20[1]?).bind (getI .i64)).bind fun n23 =>
(wr base r19.2 d10.block d10.off [(vL l22.1 l22.2)]).bind fun h24 =>
some (.inl ([some (.pointer p8), some (vA d9), some (vA d10), some (vI n11)], h24))
else none)))
else
((cell j5.2 d10.block d10.off).bind getS).bind fun l25 =>
(gate (neA (some d10) (List.length j5.2))
(nw1 j5.2 3 [(vI (1 : Int)), (vI (2 : Int)), (vI (3 : Int)), (vI (5 : Int)), (vI (9 : Int))] fun h26 =>
(run (Et base) 93 [(.pointer p8), (vL (some ⟨(List.length j5.2), 0, none⟩) 5)] h26).bind fun r27 =>
((some r27.1).bind (getI .i64)).bind fun n28 =>
(gate (sameA h26 r27.2 (some d10) 1)
((run (Et base) 60 [(.agg #[(vL l25.1 l25.2)]), (vI n28)] r27.2).bind fun r29 =>
(getTup 3 r29.1).bind fun l30 =>
gG (l30[0]?) 1 fun l31 =>
((l31[0]?).bind getS).bind fun l32 =>
((l30[1]?).bind (getI .i64)).bind fun n33 =>
((l30[2]?).bind (getI .i64)).bind fun n34 =>
(gate (neA (some d10) (List.length r29.2))
(nw1 r29.2 91 [(vL none 0)] fun h35 =>
(wr base h35 (List.length r29.2) 0 [(vL l32.1 l32.2)]).bind fun h36 =>
(if (n34 == (0 : Int)) = true then
((cell h36 (List.length r29.2) 0).bind getS).bind fun l37 =>
(run (Et base) 158 [(.pointer p8), (vI (50 : Int))] h36).bind fun r38 =>
((some r38.1).bind (getI .i64)).bind fun n39 =>
(gate (sameA h36 r38.2 (some ⟨(List.length r29.2), 0, none⟩) 1)
((if 0 ≤ (IntKind.wrap .i64 (n33 + (2 : Int))) ∧ (IntKind.wrap .i64 (n33 + (2 : Int))) < ((l37.2 : Nat) : Int) then
((l37.1 : Option Addr)).bind fun a40 =>
(wr base r38.2 a40.block (a40.off + Int.toNat (IntKind.wrap .i64 (n33 + (2 : Int))) * 1) [(vI n39)]).bind fun h41 =>
((cell h41 (List.length r29.2) 0).bind getS).bind fun l42 =>
(wr base h41 d10.block d10.off [(vL l42.1 l42.2)]).bind fun h43 =>
some (.inl ([some (.pointer p8), some (vA d9), some (vA d10), some (vI n11)], h43))
else none)))
else
some (.inl ([some (.pointer p8), some (vA d9), some (vA d10), some (vI n11)], h36))))))))))).bind fun j1 => joinK j1 fun j1 =>
j_PAAI j1.1 fun p44 d45 d46 n47 =>
some (0, [some (.pointer p44), some (vA d45), some (vA d46), some (vI (IntKind.wrap .i64 (n47 - (1 : Int))))], j1.2)
else
some (2, [some (vA v2), some (vA v3)], h)) : Option (Nat × Slots × AH)) := by kernel_rfl
theorem r117 {base : Nat} {v0 : Option Addr} {h : AH} {r : Value × AH} (hx : ((some (h ++ [some ⟨[(.slice none 0 0)], 91⟩])).bind fun h1 =>
(some (h1 ++ [some ⟨[(.int .i64 (40 : Int)), (.int .i64 (20 : Int)), (.int .i64 (80 : Int)), (.int .i64 (12 : Int))], 3⟩])).bind fun h2 =>
(run (Et base) 93 [(.pointer v0), (.slice (some ⟨(List.length h1), 0, none⟩) 4 4)] h2).bind fun r3 =>
((some r3.1).bind (getI .i64)).bind fun n4 =>
(run (Et base) 165 [(.int .i64 n4)] r3.2).bind fun r5 =>
((some r5.1).bind (getAgg 1)).bind fun l6 =>
((l6[0]?).bind getS).bind fun l7 =>
(some (r5.2 ++ [some ⟨[(.slice none 0 0)], 91⟩])).bind fun h8 =>
(wr base h8 (List.length r5.2) 0 [(.slice l7.1 l7.2 l7.2)]).bind fun h9 =>
(run (Et base) 158 [(.pointer v0), (.int .i64 (10 : Int))] h9).bind fun r10 =>
((some r10.1).bind (getI .i64)).bind fun n11 =>
(loopL (B117_0 base) [some (.pointer v0), some (.pointer (some ⟨(List.length h), 0, none⟩)), some (.pointer (some ⟨(List.length r5.2), 0, none⟩)), some (.int .i64 n11)] r10.2).bind fun q12 =>
(if q12.1 = 2 then
((sget q12.2.1 0).bind getA).bind fun d13 =>
((sget (q12.2.1.tail) 0).bind getA).bind fun d14 =>
((cell q12.2.2 d14.block d14.off).bind getS).bind fun l15 =>
(wr base q12.2.2 d13.block d13.off [(.slice l15.1 l15.2 l15.2)]).bind fun h16 =>
((cell h16 d13.block d13.off).bind getS).bind fun l17 =>
some ((.agg #[(.slice l17.1 l17.2 l17.2)]), h16)
else
none)) = some r) : run (Et base) 117 [(.pointer v0)] h = some r := run_i (an := a117) Try.func117 (by kernel_rfl) (.trans (by kernel_rfl) hx)
theorem r118 {base : Nat} {v0_0 : Option Addr} {v0_0n : Nat} {h : AH} {r : Value × AH} (hx : ((some (h ++ [some ⟨[(.slice v0_0 v0_0n v0_0n)], 91⟩])).bind fun h1 =>
(some (h1 ++ [some ⟨[(.slice none 0 0)], 91⟩])).bind fun h2 =>
((cell h2 (List.length h) 0).bind getS).bind fun l3 =>
(run (Et base) 110 [(.slice l3.1 l3.2 l3.2)] h2).bind fun r4 =>
((some r4.1).bind getS).bind fun l5 =>
(wr base r4.2 (List.length h1) 0 [(.slice l5.1 l5.2 l5.2)]).bind fun h6 =>
((cell h6 (List.length h1) 0).bind getS).bind fun l7 =>
some ((.agg #[(.slice l7.1 l7.2 l7.2)]), h6)) = some r) : run (Et base) 118 [(.agg #[(vL v0_0 v0_0n)])] h = some r := run_i (an := a118) Try.func118 (by kernel_rfl) (.trans (by kernel_rfl) hx)
noncomputable def B119_0 (base : Nat) : Body := fun l h => lay s119_0 l fun s => exCode (Et base) (run (Et base)) loopL a119_0 (subC [1, 1, 1, 0, 0] (bodyC Try.f119)) s h (keepK s119_0 e119_0)
theorem B119_0_eq (base : Nat) (v1 : Addr) (v3 : Option Addr) (v3n : Nat) (v4 : Int) (h : AH) : B119_0 base [some (vA v1), some (vL v3 v3n), some (vI v4)] h =
(((cell h v1.block v1.off).bind getS).bind fun l1 =>
(run (Et base) 61 [(.agg #[(.slice l1.1 l1.2 l1.2)]), (.int .i64 v4)] h).bind fun r2 =>
(getTup 3 r2.1).bind fun l3 =>
((l3[0]?).bind (getI .i64)).bind fun n4 =>
((l3[1]?).bind getB).bind fun b5 =>
((l3[2]?).bind getB).bind fun b6 =>
(if (!b6) = true then
some (1, [some (.slice v3 v3n v3n)], r2.2)
else
(some (r2.2 ++ [some ⟨[(.int .i64 v4)], 3⟩])).bind fun h7 =>
(app base h7 3 1 8 v3 v3n (rawAt h7 (some ⟨(List.length r2.2), 0, none⟩) (1 * 1)) 1).bind fun p8 =>
((some p8.1).bind getS).bind fun l9 =>
some (0, [some (.pointer (some v1)), some (.slice l9.1 l9.2 l9.2), some (.int .i64 (IntKind.wrap .i64 (v4 + (IntKind.wrap .i64 (n4 + (3 : Int))))))], p8.2)) : Option (Nat × Slots × AH)) := by kernel_rfl
theorem r119 {base : Nat} {v0_0 : Option Addr} {v0_0n : Nat} {h : AH} {r : Value × AH} (hx : ((some (h ++ [some ⟨[(.slice v0_0 v0_0n v0_0n)], 91⟩])).bind fun h1 =>
(loopL (B119_0 base) [some (.pointer (some ⟨(List.length h), 0, none⟩)), some (.slice none 0 0), some (.int .i64 (0 : Int))] h1).bind fun q2 =>
(if q2.1 = 1 then
((sget q2.2.1 0).bind getS).bind fun l3 =>
some ((.slice l3.1 l3.2 l3.2), q2.2.2)
else
none)) = some r) : run (Et base) 119 [(.agg #[(vL v0_0 v0_0n)])] h = some r := run_i (an := a119) Try.func119 (by kernel_rfl) (.trans (by kernel_rfl) hx)
noncomputable def B120_0 (base : Nat) : Body := fun l h => lay s120_0 l fun s => exCode (Et base) (run (Et base)) loopL a120_0 (subC [1, 1, 1, 0, 0] (bodyC Try.f120)) s h (keepK s120_0 e120_0)
theorem B120_0_eq (base : Nat) (v0 : Option Addr) (v0n : Nat) (v1 : Int) (v6 : Int) (v7 : Int) (h : AH) : B120_0 base [some (vL v0 v0n), some (vI v1), some (vI v6), some (vI v7)] h =
((if (decide (v7 < (IntKind.wrap .i64 ((IntKind.wrap .i64 (v1 + (2 : Int))) + v6)))) = true then
(if 0 ≤ v7 ∧ v7 < ((v0n : Nat) : Int) then
((v0 : Option Addr)).bind fun a1 =>
(wr base h a1.block (a1.off + Int.toNat v7 * 1) [(.int .i64 (0 : Int))]).bind fun h2 =>
some (0, [some (.slice v0 v0n v0n), some (.int .i64 v1), some (.int .i64 v6), some (.int .i64 (IntKind.wrap .i64 (v7 + (1 : Int))))], h2)
else none)
else
some (2, [], h)) : Option (Nat × Slots × AH)) := by kernel_rfl
theorem r120 {base : Nat} {v0 : Option Addr} {v0n : Nat} {v1 : Int} {v2 : Int} {h : AH} {r : Value × AH} (hx : ((run (Et base) 127 [(.int .i64 v1), (.int .i64 (IntKind.wrap .i64 (v2 - (3 : Int)))), (.bool true)] h).bind fun r1 =>
((some r1.1).bind (getI .i64)).bind fun n2 =>
(run (Et base) 128 [(.int .i64 v1), (.int .i64 (IntKind.wrap .i64 (v2 - (3 : Int)))), (.bool true)] r1.2).bind fun r3 =>
((some r3.1).bind (getI .i64)).bind fun n4 =>
(if 0 ≤ v1 ∧ v1 < ((v0n : Nat) : Int) then
((v0 : Option Addr)).bind fun a5 =>
(wr base r3.2 a5.block (a5.off + Int.toNat v1 * 1) [(.int .i64 n2)]).bind fun h6 =>
(if 0 ≤ (IntKind.wrap .i64 (v1 + (1 : Int))) ∧ (IntKind.wrap .i64 (v1 + (1 : Int))) < ((v0n : Nat) : Int) then
((v0 : Option Addr)).bind fun a7 =>
(wr base h6 a7.block (a7.off + Int.toNat (IntKind.wrap .i64 (v1 + (1 : Int))) * 1) [(.int .i64 (IntKind.wrap .i64 (v2 - (3 : Int))))]).bind fun h8 =>
(if 0 ≤ (IntKind.wrap .i64 ((IntKind.wrap .i64 (v1 + v2)) - (1 : Int))) ∧ (IntKind.wrap .i64 ((IntKind.wrap .i64 (v1 + v2)) - (1 : Int))) < ((v0n : Nat) : Int) then
((v0 : Option Addr)).bind fun a9 =>
(wr base h8 a9.block (a9.off + Int.toNat (IntKind.wrap .i64 ((IntKind.wrap .i64 (v1 + v2)) - (1 : Int))) * 1) [(.int .i64 n4)]).bind fun h10 =>
(loopL (B120_0 base) [some (.slice v0 v0n v0n), some (.int .i64 v1), some (.int .i64 (IntKind.wrap .i64 (v2 - (3 : Int)))), some (.int .i64 (IntKind.wrap .i64 (v1 + (2 : Int))))] h10).bind fun q11 =>
(if q11.1 = 2 then
some ((.tuple #[]), q11.2.2)
else
none)
else none)
else none)
else none)) = some r) : run (Et base) 120 [(vL v0 v0n), (vI v1), (vI v2)] h = some r := run_i (an := a120) Try.func120 (by kernel_rfl) (.trans (by kernel_rfl) hx)
noncomputable def B121_0 (base : Nat) : Body := fun l h => lay s121_0 l fun s => exCode (Et base) (run (Et base)) loopL a121_0 (subC [1, 1, 1, 0, 0] (bodyC Try.f121)) s h (keepK s121_0 e121_0)
theorem B121_0_eq (base : Nat) (v0 : Option Addr) (v0n : Nat) (v1 : Int) (v6 : Int) (v7 : Int) (h : AH) : B121_0 base [some (vL v0 v0n), some (vI v1), some (vI v6), some (vI v7)] h =
((if (decide (v7 < (IntKind.wrap .i64 ((IntKind.wrap .i64 (v1 + (2 : Int))) + v6)))) = true then
(run (Et base) 129 [(.int .i64 v7)] h).bind fun r1 =>
((some r1.1).bind (getI .i64)).bind fun n2 =>
(if 0 ≤ v7 ∧ v7 < ((v0n : Nat) : Int) then
((v0 : Option Addr)).bind fun a3 =>
(wr base r1.2 a3.block (a3.off + Int.toNat v7 * 1) [(.int .i64 n2)]).bind fun h4 =>
some (0, [some (.slice v0 v0n v0n), some (.int .i64 v1), some (.int .i64 v6), some (.int .i64 (IntKind.wrap .i64 (v7 + (1 : Int))))], h4)
else none)
else
some (2, [], h)) : Option (Nat × Slots × AH)) := by kernel_rfl
theorem r121 {base : Nat} {v0 : Option Addr} {v0n : Nat} {v1 : Int} {v2 : Int} {h : AH} {r : Value × AH} (hx : ((run (Et base) 127 [(.int .i64 v1), (.int .i64 (IntKind.wrap .i64 (v2 - (3 : Int)))), (.bool false)] h).bind fun r1 =>
((some r1.1).bind (getI .i64)).bind fun n2 =>
(run (Et base) 128 [(.int .i64 v1), (.int .i64 (IntKind.wrap .i64 (v2 - (3 : Int)))), (.bool false)] r1.2).bind fun r3 =>
((some r3.1).bind (getI .i64)).bind fun n4 =>
(if 0 ≤ v1 ∧ v1 < ((v0n : Nat) : Int) then
((v0 : Option Addr)).bind fun a5 =>
(wr base r3.2 a5.block (a5.off + Int.toNat v1 * 1) [(.int .i64 n2)]).bind fun h6 =>
(if 0 ≤ (IntKind.wrap .i64 (v1 + (1 : Int))) ∧ (IntKind.wrap .i64 (v1 + (1 : Int))) < ((v0n : Nat) : Int) then
((v0 : Option Addr)).bind fun a7 =>
(wr base h6 a7.block (a7.off + Int.toNat (IntKind.wrap .i64 (v1 + (1 : Int))) * 1) [(.int .i64 (IntKind.wrap .i64 (v2 - (3 : Int))))]).bind fun h8 =>
(if 0 ≤ (IntKind.wrap .i64 ((IntKind.wrap .i64 (v1 + v2)) - (1 : Int))) ∧ (IntKind.wrap .i64 ((IntKind.wrap .i64 (v1 + v2)) - (1 : Int))) < ((v0n : Nat) : Int) then
((v0 : Option Addr)).bind fun a9 =>
(wr base h8 a9.block (a9.off + Int.toNat (IntKind.wrap .i64 ((IntKind.wrap .i64 (v1 + v2)) - (1 : Int))) * 1) [(.int .i64 n4)]).bind fun h10 =>
(loopL (B121_0 base) [some (.slice v0 v0n v0n), some (.int .i64 v1), some (.int .i64 (IntKind.wrap .i64 (v2 - (3 : Int)))), some (.int .i64 (IntKind.wrap .i64 (v1 + (2 : Int))))] h10).bind fun q11 =>
(if q11.1 = 2 then
some ((.tuple #[]), q11.2.2)
else
none)
else none)
else none)
else none)) = some r) : run (Et base) 121 [(vL v0 v0n), (vI v1), (vI v2)] h = some r := run_i (an := a121) Try.func121 (by kernel_rfl) (.trans (by kernel_rfl) hx)
theorem r122 {base : Nat} {v0_0 : Option Addr} {v0_0n : Nat} {h : AH} {r : Value × AH} (hx : ((some (h ++ [some ⟨[(.slice v0_0 v0_0n v0_0n)], 91⟩])).bind fun h1 =>
(some (h1 ++ [some ⟨[(.slice none 0 0)], 91⟩])).bind fun h2 =>
(some (h2 ++ [some ⟨[], 3⟩])).bind fun h3 =>
((cell h3 (List.length h) 0).bind getS).bind fun l4 =>
(app base h3 3 1 8 (some ⟨(List.length h2), 0, none⟩) 0 (rawAt h3 l4.1 (l4.2 * 1)) l4.2).bind fun p5 =>
((some p5.1).bind getS).bind fun l6 =>
(wr base p5.2 (List.length h1) 0 [(.slice l6.1 l6.2 l6.2)]).bind fun h7 =>
((cell h7 (List.length h1) 0).bind getS).bind fun l8 =>
some ((.agg #[(.slice l8.1 l8.2 l8.2)]), h7)) = some r) : run (Et base) 122 [(.agg #[(vL v0_0 v0_0n)])] h = some r := run_i (an := a122) Try.func122 (by kernel_rfl) (.trans (by kernel_rfl) hx)
noncomputable def B123_0 (base : Nat) : Body := fun l h => lay s123_0 l fun s => exCode (Et base) (run (Et base)) loopL a123_0 (subC [1, 1, 1, 0, 0, 0] (bodyC Try.f123)) s h (keepK s123_0 e123_0)
theorem B123_0_eq (base : Nat) (v1 : Addr) (v3 : Int) (v4 : Bool) (h : AH) : B123_0 base [some (vA v1), some (vI v3), some (.bool v4)] h =
(((cell h v1.block (v1.off + 0)).bind getS).bind fun l1 =>
(if (decide (v3 < ((l1.2 : Nat) : Int))) = true then
((cell h v1.block v1.off).bind getS).bind fun l2 =>
(run (Et base) 125 [(.agg #[(.slice l2.1 l2.2 l2.2)]), (.int .i64 v3)] h).bind fun r3 =>
(getTup 3 r3.1).bind fun l4 =>
((l4[0]?).bind (getI .i64)).bind fun n5 =>
((l4[1]?).bind getB).bind fun b6 =>
((l4[2]?).bind getB).bind fun b7 =>
((if (!b7) = true then
some (.inl ([some (.pointer (some v1)), some (.int .i64 v3), some (.int .i64 n5), some (.bool b6), some (.bool true)], r3.2))
else
(if v4 = true then
some (.inl ([some (.pointer (some v1)), some (.int .i64 v3), some (.int .i64 n5), some (.bool b6), some (.bool (!b6))], r3.2))
else
some (.inl ([some (.pointer (some v1)), some (.int .i64 v3), some (.int .i64 n5), some (.bool b6), some (.bool false)], r3.2))))).bind fun j8 => joinK j8 fun j8 =>
((sget j8.1 0).bind getA).bind fun d9 =>
((sget (j8.1.tail) 0).bind (getI .i64)).bind fun n10 =>
((sget (j8.1.tail.tail) 0).bind (getI .i64)).bind fun n11 =>
((sget (j8.1.tail.tail.tail) 0).bind getB).bind fun b12 =>
((sget (j8.1.tail.tail.tail.tail) 0).bind getB).bind fun b13 =>
(if b13 = true then
some (1, [some (.int .i64 n10)], j8.2)
else
some (0, [some (.pointer (some d9)), some (.int .i64 (IntKind.wrap .i64 ((IntKind.wrap .i64 (n10 + n11)) + (3 : Int)))), some (.bool (!b12))], j8.2))
else
some (2, [], h)) : Option (Nat × Slots × AH)) := by kernel_rfl
theorem r123 {base : Nat} {v0_0 : Option Addr} {v0_0n : Nat} {h : AH} {r : Value × AH} (hx : ((some (h ++ [some ⟨[(.slice v0_0 v0_0n v0_0n)], 91⟩])).bind fun h1 =>
(loopL (B123_0 base) [some (.pointer (some ⟨(List.length h), 0, none⟩)), some (.int .i64 (0 : Int)), some (.bool false)] h1).bind fun q2 =>
(if q2.1 = 1 then
((sget q2.2.1 0).bind (getI .i64)).bind fun n3 =>
some ((.int .i64 n3), q2.2.2)
else
(if q2.1 = 2 then
some ((.int .i64 (-1 : Int)), q2.2.2)
else
none))) = some r) : run (Et base) 123 [(.agg #[(vL v0_0 v0_0n)])] h = some r := run_i (an := a123) Try.func123 (by kernel_rfl) (.trans (by kernel_rfl) hx)
noncomputable def B124_0 (base : Nat) : Body := fun l h => lay s124_0 l fun s => exCode (Et base) (run (Et base)) loopL a124_0 (subC [1, 1, 1, 0, 0, 0] (bodyC Try.f124)) s h (keepK s124_0 e124_0)
theorem B124_0_eq (base : Nat) (v1 : Addr) (v3 : Option Addr) (v3n : Nat) (v4 : Int) (h : AH) : B124_0 base [some (vA v1), some (vL v3 v3n), some (vI v4)] h =
(((cell h v1.block (v1.off + 0)).bind getS).bind fun l1 =>
(if (decide (v4 < ((l1.2 : Nat) : Int))) = true then
((cell h v1.block v1.off).bind getS).bind fun l2 =>
(run (Et base) 125 [(.agg #[(.slice l2.1 l2.2 l2.2)]), (.int .i64 v4)] h).bind fun r3 =>
(getTup 3 r3.1).bind fun l4 =>
((l4[0]?).bind (getI .i64)).bind fun n5 =>
((l4[1]?).bind getB).bind fun b6 =>
((l4[2]?).bind getB).bind fun b7 =>
(if (!b7) = true then
some (1, [some (.slice v3 v3n v3n)], r3.2)
else
(some (r3.2 ++ [some ⟨[(.int .i64 v4)], 3⟩])).bind fun h8 =>
(app base h8 3 1 8 v3 v3n (rawAt h8 (some ⟨(List.length r3.2), 0, none⟩) (1 * 1)) 1).bind fun p9 =>
((some p9.1).bind getS).bind fun l10 =>
some (0, [some (.pointer (some v1)), some (.slice l10.1 l10.2 l10.2), some (.int .i64 (IntKind.wrap .i64 ((IntKind.wrap .i64 (v4 + n5)) + (3 : Int))))], p9.2))
else
some (2, [some (.slice v3 v3n v3n)], h)) : Option (Nat × Slots × AH)) := by kernel_rfl
theorem r124 {base : Nat} {v0_0 : Option Addr} {v0_0n : Nat} {h : AH} {r : Value × AH} (hx : ((some (h ++ [some ⟨[(.slice v0_0 v0_0n v0_0n)], 91⟩])).bind fun h1 =>
(some (h1 ++ [some ⟨[], 3⟩])).bind fun h2 =>
(loopL (B124_0 base) [some (.pointer (some ⟨(List.length h), 0, none⟩)), some (.slice (some ⟨(List.length h1), 0, none⟩) 0 0), some (.int .i64 (0 : Int))] h2).bind fun q3 =>
(if q3.1 = 1 then
((sget q3.2.1 0).bind getS).bind fun l4 =>
some ((.slice l4.1 l4.2 l4.2), q3.2.2)
else
(if q3.1 = 2 then
((sget q3.2.1 0).bind getS).bind fun l5 =>
some ((.slice l5.1 l5.2 l5.2), q3.2.2)
else
none))) = some r) : run (Et base) 124 [(.agg #[(vL v0_0 v0_0n)])] h = some r := run_i (an := a124) Try.func124 (by kernel_rfl) (.trans (by kernel_rfl) hx)
noncomputable def B125_0 (base : Nat) : Body := fun l h => lay s125_0 l fun s => exCode (Et base) (run (Et base)) loopL a125_0 (subC [1, 1, 1, 1, 1, 1, 0, 1, 0, 0] (bodyC Try.f125)) s h (keepK s125_0 e125_0)
theorem B125_0_eq (base : Nat) (v1 : Int) (v2 : Addr) (v7 : Int) (v8 : Bool) (v9 : Int) (h : AH) : B125_0 base [some (vI v1), some (vA v2), some (vI v7), some (.bool v8), some (vI v9)] h =
(((if (decide (v9 < (IntKind.wrap .i64 ((IntKind.wrap .i64 (v1 + (2 : Int))) + v7)))) = true then
some (.inl ([some (vI v1), some (vA v2), some (vI v7), some (.bool v8), some (vI v9), some (.bool (!v8))], h))
else
some (.inl ([some (vI v1), some (vA v2), some (vI v7), some (.bool v8), some (vI v9), some (.bool false)], h)))).bind fun j1 => joinK j1 fun j1 =>
j_IAIBIB j1.1 fun n2 d3 n4 b5 n6 b7 =>
(if b7 = true then
((cell j1.2 d3.block (d3.off + 0)).bind getS).bind fun l8 =>
(if 0 ≤ n6 ∧ n6 < ((l8.2 : Nat) : Int) then
((l8.1 : Option Addr)).bind fun a9 =>
((cell j1.2 a9.block (a9.off + Int.toNat n6 * 1)).bind (getI .i64)).bind fun n10 =>
(run (Et base) 171 [(vI n6)] j1.2).bind fun r11 =>
((some r11.1).bind (getI .i64)).bind fun n12 =>
(gate (sameA j1.2 r11.2 (some ⟨a9.block, (a9.off + Int.toNat n6 * 1), none⟩) 1)
((gate (sameA j1.2 r11.2 (some ⟨d3.block, (d3.off + 0), none⟩) 1)
((if (n10 != n12) = true then
some (1, [some (vI (0 : Int)), some (.bool false), some (.bool false)], r11.2)
else
some (0, [some (vI n2), some (vA d3), some (vI n4), some (.bool b5), some (vI (IntKind.wrap .i64 (n6 + (1 : Int))))], r11.2))))))
else none)
else
some (2, [some (vI n4), some (.bool b5)], j1.2)) : Option (Nat × Slots × AH)) := by kernel_rfl
noncomputable abbrev qf125 (base : Nat) (v0_0 : Option Addr) (v0_0n : Nat) (v1 : Int) (h : AH) : Option (Value × AH) :=
nw1 h 91 [(vL v0_0 v0_0n)] fun h1 =>
((run (Et base) 168 [(vI v1)] h1).bind fun r3 =>
((some r3.1).bind getB).bind fun b4 =>
(if (!b4) = true then
some (.inl ([some (vI v1), some (vP (List.length h)), some (.bool true)], r3.2))
else
((cell r3.2 (List.length h) 0).bind getS).bind fun l5 =>
some (.inl ([some (vI v1), some (vP (List.length h)), some (.bool (decide (v1 > (IntKind.wrap .i64 (((l5.2 : Nat) : Int) - (4 : Int))))))], r3.2)))).bind fun j2 => joinK j2 fun j2 =>
j_IAB j2.1 fun n6 d7 b8 =>
(if b8 = true then
some ((.tuple #[(vI (0 : Int)), (.bool false), (.bool false)]), j2.2)
else
((cell j2.2 d7.block (d7.off + 0)).bind getS).bind fun l9 =>
(if 0 ≤ (IntKind.wrap .i64 (n6 + (1 : Int))) ∧ (IntKind.wrap .i64 (n6 + (1 : Int))) < ((l9.2 : Nat) : Int) then
((l9.1 : Option Addr)).bind fun a10 =>
((cell j2.2 a10.block (a10.off + Int.toNat (IntKind.wrap .i64 (n6 + (1 : Int))) * 1)).bind (getI .i64)).bind fun n11 =>
((run (Et base) 83 [(vI n11), (vI (1 : Int)), (vI (4000 : Int))] j2.2).bind fun r13 =>
((some r13.1).bind getB).bind fun b14 =>
(if (!b14) = true then
some (.inl ([some (vI n6), some (vA d7), some (vI n11), some (.bool true)], r13.2))
else
((cell r13.2 d7.block (d7.off + 0)).bind getS).bind fun l15 =>
some (.inl ([some (vI n6), some (vA d7), some (vI n11), some (.bool (decide (n11 > (IntKind.wrap .i64 ((IntKind.wrap .i64 (((l15.2 : Nat) : Int) - n6)) - (3 : Int))))))], r13.2)))).bind fun j12 => joinK j12 fun j12 =>
j_IAIB j12.1 fun n16 d17 n18 b19 =>
(if b19 = true then
some ((.tuple #[(vI (0 : Int)), (.bool false), (.bool false)]), j12.2)
else
((cell j12.2 d17.block (d17.off + 0)).bind getS).bind fun l20 =>
(if 0 ≤ n16 ∧ n16 < ((l20.2 : Nat) : Int) then
((l20.1 : Option Addr)).bind fun a21 =>
((cell j12.2 a21.block (a21.off + Int.toNat n16 * 1)).bind (getI .i64)).bind fun n22 =>
(run (Et base) 169 [(vI n16), (vI n18), (.bool true)] j12.2).bind fun r23 =>
((some r23.1).bind (getI .i64)).bind fun n24 =>
(gate (sameA j12.2 r23.2 (some ⟨a21.block, (a21.off + Int.toNat n16 * 1), none⟩) 1)
((gate (sameA j12.2 r23.2 (some ⟨d17.block, (d17.off + 0), none⟩) 1)
(((if (!(n22 == n24)) = true then
((cell r23.2 d17.block (d17.off + 0)).bind getS).bind fun l26 =>
(if 0 ≤ n16 ∧ n16 < ((l26.2 : Nat) : Int) then
((l26.1 : Option Addr)).bind fun a27 =>
((cell r23.2 a27.block (a27.off + Int.toNat n16 * 1)).bind (getI .i64)).bind fun n28 =>
(run (Et base) 169 [(vI n16), (vI n18), (.bool false)] r23.2).bind fun r29 =>
((some r29.1).bind (getI .i64)).bind fun n30 =>
(gate (sameA r23.2 r29.2 (some ⟨a27.block, (a27.off + Int.toNat n16 * 1), none⟩) 1)
((gate (sameA r23.2 r29.2 (some ⟨d17.block, (d17.off + 0), none⟩) 1)
((if (n28 != n30) = true then
some (.inl ([some (vI n16), some (vA d17), some (vI n18), some (.bool (n22 == n24)), some (.bool true)], r29.2))
else
((cell r29.2 d17.block (d17.off + 0)).bind getS).bind fun l31 =>
(if 0 ≤ (IntKind.wrap .i64 ((IntKind.wrap .i64 (n16 + (2 : Int))) + n18)) ∧ (IntKind.wrap .i64 ((IntKind.wrap .i64 (n16 + (2 : Int))) + n18)) < ((l31.2 : Nat) : Int) then
((l31.1 : Option Addr)).bind fun a32 =>
((cell r29.2 a32.block (a32.off + Int.toNat (IntKind.wrap .i64 ((IntKind.wrap .i64 (n16 + (2 : Int))) + n18)) * 1)).bind (getI .i64)).bind fun n33 =>
(run (Et base) 170 [(vI n16), (vI n18), (.bool (n22 == n24))] r29.2).bind fun r34 =>
((some r34.1).bind (getI .i64)).bind fun n35 =>
(gate (sameA r29.2 r34.2 (some ⟨a32.block, (a32.off + Int.toNat (IntKind.wrap .i64 ((IntKind.wrap .i64 (n16 + (2 : Int))) + n18)) * 1), none⟩) 1)
((gate (sameA r29.2 r34.2 (some ⟨d17.block, (d17.off + 0), none⟩) 1)
(some (.inl ([some (vI n16), some (vA d17), some (vI n18), some (.bool (n22 == n24)), some (.bool (n33 != n35))], r34.2))))))
else none))))))
else none)
else
((cell r23.2 d17.block (d17.off + 0)).bind getS).bind fun l36 =>
(if 0 ≤ (IntKind.wrap .i64 ((IntKind.wrap .i64 (n16 + (2 : Int))) + n18)) ∧ (IntKind.wrap .i64 ((IntKind.wrap .i64 (n16 + (2 : Int))) + n18)) < ((l36.2 : Nat) : Int) then
((l36.1 : Option Addr)).bind fun a37 =>
((cell r23.2 a37.block (a37.off + Int.toNat (IntKind.wrap .i64 ((IntKind.wrap .i64 (n16 + (2 : Int))) + n18)) * 1)).bind (getI .i64)).bind fun n38 =>
(run (Et base) 170 [(vI n16), (vI n18), (.bool (n22 == n24))] r23.2).bind fun r39 =>
((some r39.1).bind (getI .i64)).bind fun n40 =>
(gate (sameA r23.2 r39.2 (some ⟨a37.block, (a37.off + Int.toNat (IntKind.wrap .i64 ((IntKind.wrap .i64 (n16 + (2 : Int))) + n18)) * 1), none⟩) 1)
((gate (sameA r23.2 r39.2 (some ⟨d17.block, (d17.off + 0), none⟩) 1)
(some (.inl ([some (vI n16), some (vA d17), some (vI n18), some (.bool (n22 == n24)), some (.bool (n38 != n40))], r39.2))))))
else none))).bind fun j25 => joinK j25 fun j25 =>
j_IAIBB j25.1 fun n41 d42 n43 b44 b45 =>
(if b45 = true then
some ((.tuple #[(vI (0 : Int)), (.bool false), (.bool false)]), j25.2)
else
(loopL (B125_0 base) [some (vI n41), some (vA d42), some (vI n43), some (.bool b44), some (vI (IntKind.wrap .i64 (n41 + (2 : Int))))] j25.2).bind fun q46 =>
(if q46.1 = 1 then
j_IBB q46.2.1 fun n47 b48 b49 =>
some ((.tuple #[(vI n47), (.bool b48), (.bool b49)]), q46.2.2)
else
(if q46.1 = 2 then
j_IB q46.2.1 fun n50 b51 =>
some ((.tuple #[(vI n50), (.bool b51), (.bool true)]), q46.2.2)
else
none)))))))
else none))
else none))
theorem r125 {base : Nat} {v0_0 : Option Addr} {v0_0n : Nat} {v1 : Int} {h : AH} {r : Value × AH} (hx : qf125 base v0_0 v0_0n v1 h = some r) : run (Et base) 125 [(.agg #[(vL v0_0 v0_0n)]), (vI v1)] h = some r := run_i (an := a125) Try.func125 (by kernel_rfl) (.trans (by kernel_rfl) hx)
noncomputable def B126_0 (base : Nat) : Body := fun l h => lay s126_0 l fun s => exCode (Et base) (run (Et base)) loopL a126_0 (subC [1, 1, 0, 1, 0, 0] (bodyC Try.f126)) s h (keepK s126_0 e126_0)
theorem B126_0_eq (base : Nat) (v0 : Option Addr) (v0n : Nat) (v1 : Int) (v2 : Int) (v3 : Bool) (v8 : Int) (h : AH) : B126_0 base [some (vL v0 v0n), some (vI v1), some (vI v2), some (.bool v3), some (vI v8)] h =
((if (decide (v8 < (IntKind.wrap .i64 ((IntKind.wrap .i64 (v1 + (2 : Int))) + v2)))) = true then
((if 0 ≤ v8 ∧ v8 < ((v0n : Nat) : Int) then
((v0 : Option Addr)).bind fun a2 =>
(wr base h a2.block (a2.off + Int.toNat v8 * 1) [(.int .i64 (0 : Int))]).bind fun h3 =>
(if (!v3) = true then
(run (Et base) 171 [(.int .i64 v8)] h3).bind fun r4 =>
((some r4.1).bind (getI .i64)).bind fun n5 =>
(if 0 ≤ v8 ∧ v8 < ((v0n : Nat) : Int) then
((v0 : Option Addr)).bind fun a6 =>
(wr base r4.2 a6.block (a6.off + Int.toNat v8 * 1) [(.int .i64 n5)]).bind fun h7 =>
some (.inl ([some (.slice v0 v0n v0n), some (.int .i64 v1), some (.int .i64 v2), some (.bool v3), some (.int .i64 v8)], h7))
else none)
else
some (.inl ([some (.slice v0 v0n v0n), some (.int .i64 v1), some (.int .i64 v2), some (.bool v3), some (.int .i64 v8)], h3)))
else none)).bind fun j1 => joinK j1 fun j1 =>
((sget j1.1 0).bind getS).bind fun l8 =>
((sget (j1.1.tail) 0).bind (getI .i64)).bind fun n9 =>
((sget (j1.1.tail.tail) 0).bind (getI .i64)).bind fun n10 =>
((sget (j1.1.tail.tail.tail) 0).bind getB).bind fun b11 =>
((sget (j1.1.tail.tail.tail.tail) 0).bind (getI .i64)).bind fun n12 =>
some (0, [some (.slice l8.1 l8.2 l8.2), some (.int .i64 n9), some (.int .i64 n10), some (.bool b11), some (.int .i64 (IntKind.wrap .i64 (n12 + (1 : Int))))], j1.2)
else
some (2, [some (.slice v0 v0n v0n), some (.int .i64 v1), some (.int .i64 v2), some (.bool v3)], h)) : Option (Nat × Slots × AH)) := by kernel_rfl
theorem r126 {base : Nat} {v0 : Option Addr} {v0n : Nat} {v1 : Int} {v2 : Int} {v3 : Bool} {h : AH} {r : Value × AH} (hx : ((run (Et base) 169 [(vI v1), (vI v2), (.bool v3)] h).bind fun r1 =>
((some r1.1).bind (getI .i64)).bind fun n2 =>
(if 0 ≤ v1 ∧ v1 < ((v0n : Nat) : Int) then
((v0 : Option Addr)).bind fun a3 =>
(wr base r1.2 a3.block (a3.off + Int.toNat v1 * 1) [(vI n2)]).bind fun h4 =>
(if 0 ≤ (IntKind.wrap .i64 (v1 + (1 : Int))) ∧ (IntKind.wrap .i64 (v1 + (1 : Int))) < ((v0n : Nat) : Int) then
((v0 : Option Addr)).bind fun a5 =>
(wr base h4 a5.block (a5.off + Int.toNat (IntKind.wrap .i64 (v1 + (1 : Int))) * 1) [(vI v2)]).bind fun h6 =>
(loopL (B126_0 base) [some (vL v0 v0n), some (vI v1), some (vI v2), some (.bool v3), some (vI (IntKind.wrap .i64 (v1 + (2 : Int))))] h6).bind fun q7 =>
(if q7.1 = 2 then
j_LIIB q7.2.1 fun l8 n9 n10 b11 =>
(run (Et base) 170 [(vI n9), (vI n10), (.bool b11)] q7.2.2).bind fun r12 =>
((some r12.1).bind (getI .i64)).bind fun n13 =>
(if 0 ≤ (IntKind.wrap .i64 ((IntKind.wrap .i64 (n9 + (2 : Int))) + n10)) ∧ (IntKind.wrap .i64 ((IntKind.wrap .i64 (n9 + (2 : Int))) + n10)) < ((l8.2 : Nat) : Int) then
((l8.1 : Option Addr)).bind fun a14 =>
(wr base r12.2 a14.block (a14.off + Int.toNat (IntKind.wrap .i64 ((IntKind.wrap .i64 (n9 + (2 : Int))) + n10)) * 1) [(vI n13)]).bind fun h15 =>
some ((.tuple #[]), h15)
else none)
else
none)
else none)
else none)) = some r) : run (Et base) 126 [(vL v0 v0n), (vI v1), (vI v2), (.bool v3)] h = some r := run_i (an := a126) Try.func126 (by kernel_rfl) (.trans (by kernel_rfl) hx)
theorem r127 {base : Nat} {v0 : Int} {v1 : Int} {v2 : Bool} {h : AH} {r : Value × AH} (hx : (((run (Et base) 87 [(.int .i64 v0), (.int .i64 (0 : Int)), (.int .i64 (4000 : Int))] h).bind fun r2 =>
((some r2.1).bind getB).bind fun b3 =>
(if (!b3) = true then
some (.inl ([some (.int .i64 v0), some (.int .i64 v1), some (.bool v2), some (.bool true)], r2.2))
else
(run (Et base) 87 [(.int .i64 v1), (.int .i64 (0 : Int)), (.int .i64 (4000 : Int))] r2.2).bind fun r4 =>
((some r4.1).bind getB).bind fun b5 =>
some (.inl ([some (.int .i64 v0), some (.int .i64 v1), some (.bool v2), some (.bool (!b5))], r4.2)))).bind fun j1 => joinK j1 fun j1 =>
((sget j1.1 0).bind (getI .i64)).bind fun n6 =>
((sget (j1.1.tail) 0).bind (getI .i64)).bind fun n7 =>
((sget (j1.1.tail.tail) 0).bind getB).bind fun b8 =>
((sget (j1.1.tail.tail.tail) 0).bind getB).bind fun b9 =>
(if b9 = true then
some ((.int .i64 (0 : Int)), j1.2)
else
(run (Et base) 172 [(.int .i64 n6), (.int .i64 n7), (.bool b8)] j1.2).bind fun r10 =>
((some r10.1).bind (getI .i64)).bind fun n11 =>
some ((.int .i64 (Int.tmod (IntKind.wrap .i64 ((IntKind.wrap .i64 (n11 * (3 : Int))) + (1000 : Int))) (1000003 : Int))), r10.2))) = some r) : run (Et base) 127 [(vI v0), (vI v1), (.bool v2)] h = some r := run_i (an := a127) Try.func127 (by kernel_rfl) (.trans (by kernel_rfl) hx)
theorem r128 {base : Nat} {v0 : Int} {v1 : Int} {v2 : Bool} {h : AH} {r : Value × AH} (hx : (((run (Et base) 87 [(.int .i64 v0), (.int .i64 (0 : Int)), (.int .i64 (4000 : Int))] h).bind fun r2 =>
((some r2.1).bind getB).bind fun b3 =>
(if (!b3) = true then
some (.inl ([some (.int .i64 v0), some (.int .i64 v1), some (.bool v2), some (.bool true)], r2.2))
else
(run (Et base) 87 [(.int .i64 v1), (.int .i64 (0 : Int)), (.int .i64 (4000 : Int))] r2.2).bind fun r4 =>
((some r4.1).bind getB).bind fun b5 =>
some (.inl ([some (.int .i64 v0), some (.int .i64 v1), some (.bool v2), some (.bool (!b5))], r4.2)))).bind fun j1 => joinK j1 fun j1 =>
((sget j1.1 0).bind (getI .i64)).bind fun n6 =>
((sget (j1.1.tail) 0).bind (getI .i64)).bind fun n7 =>
((sget (j1.1.tail.tail) 0).bind getB).bind fun b8 =>
((sget (j1.1.tail.tail.tail) 0).bind getB).bind fun b9 =>
(if b9 = true then
some ((.int .i64 (0 : Int)), j1.2)
else
(run (Et base) 172 [(.int .i64 n6), (.int .i64 n7), (.bool b8)] j1.2).bind fun r10 =>
((some r10.1).bind (getI .i64)).bind fun n11 =>
some ((.int .i64 (Int.tmod (IntKind.wrap .i64 ((IntKind.wrap .i64 (n11 * (3 : Int))) + (1001 : Int))) (1000003 : Int))), r10.2))) = some r) : run (Et base) 128 [(vI v0), (vI v1), (.bool v2)] h = some r := run_i (an := a128) Try.func128 (by kernel_rfl) (.trans (by kernel_rfl) hx)
theorem r129 {base : Nat} {v0 : Int} {h : AH} {r : Value × AH} (hx : ((run (Et base) 87 [(.int .i64 v0), (.int .i64 (0 : Int)), (.int .i64 (4000 : Int))] h).bind fun r1 =>
((some r1.1).bind getB).bind fun b2 =>
(if (!b2) = true then
some ((.int .i64 (0 : Int)), r1.2)
else
some ((.int .i64 (Int.tmod (IntKind.wrap .i64 ((IntKind.wrap .i64 (v0 * (31 : Int))) + (7777 : Int))) (1000003 : Int))), r1.2))) = some r) : run (Et base) 129 [(vI v0)] h = some r := run_i (an := a129) Try.func129 (by kernel_rfl) (.trans (by kernel_rfl) hx)
theorem r130 {base : Nat} {v0_0 : Option Addr} {v0_0n : Nat} {v1 : Int} {v2 : Int} {h : AH} {r : Value × AH} (hx : ((some (h ++ [some ⟨[(.slice v0_0 v0_0n v0_0n)], 91⟩])).bind fun h1 =>
((cell h1 (List.length h) 0).bind getS).bind fun l2 =>
(run (Et base) 61 [(.agg #[(.slice l2.1 l2.2 l2.2)]), (.int .i64 v1)] h1).bind fun r3 =>
(getTup 3 r3.1).bind fun l4 =>
((l4[0]?).bind (getI .i64)).bind fun n5 =>
((l4[1]?).bind getB).bind fun b6 =>
((l4[2]?).bind getB).bind fun b7 =>
((if (!b7) = true then
some (.inl ([some (.int .i64 v1), some (.int .i64 v2), some (.bool true)], r3.2))
else
(if (!b6) = true then
some (.inl ([some (.int .i64 v1), some (.int .i64 v2), some (.bool true)], r3.2))
else
(run (Et base) 87 [(.int .i64 v2), (.int .i64 (0 : Int)), (.int .i64 (IntKind.wrap .i64 (n5 - (1 : Int))))] r3.2).bind fun r9 =>
((some r9.1).bind getB).bind fun b10 =>
some (.inl ([some (.int .i64 v1), some (.int .i64 v2), some (.bool (!b10))], r9.2))))).bind fun j8 => joinK j8 fun j8 =>
((sget j8.1 0).bind (getI .i64)).bind fun n11 =>
((sget (j8.1.tail) 0).bind (getI .i64)).bind fun n12 =>
((sget (j8.1.tail.tail) 0).bind getB).bind fun b13 =>
(if b13 = true then
some ((.tuple #[(.int .i64 (0 : Int)), (.bool false)]), j8.2)
else
some ((.tuple #[(.int .i64 (IntKind.wrap .i64 ((IntKind.wrap .i64 (n11 + (2 : Int))) + n12))), (.bool true)]), j8.2))) = some r) : run (Et base) 130 [(.agg #[(vL v0_0 v0_0n)]), (vI v1), (vI v2)] h = some r := run_i (an := a130) Try.func130 (by kernel_rfl) (.trans (by kernel_rfl) hx)
theorem r155 {base : Nat} {v0 : Option Addr} {v1 : Int} {h : AH} {r : Value × AH} (hx : ((run (Et base) 158 [(.pointer v0), (.int .i64 v1)] h).bind fun r1 =>
((some r1.1).bind (getI .i64)).bind fun n2 =>
some ((.bool (n2 == (0 : Int))), r1.2)) = some r) : run (Et base) 155 [(.pointer v0), (vI v1)] h = some r := run_i (an := a155) Try.func155 (by kernel_rfl) (.trans (by kernel_rfl) hx)
theorem r158 {base : Nat} {v0 : Option Addr} {v1 : Int} {h : AH} {r : Value × AH} (hx : ((if (decide (v1 ≤ (0 : Int))) = true then
some ((.int .i64 (0 : Int)), h)
else
(if (decide (v1 ≤ (256 : Int))) = true then
(run (Et base) 193 [(.pointer v0)] h).bind fun r1 =>
((some r1.1).bind (getI .i64)).bind fun n2 =>
(if v1 = 0 then none else
some ((.int .i64 (Int.tmod n2 v1)), r1.2))
else
(run (Et base) 193 [(.pointer v0)] h).bind fun r3 =>
((some r3.1).bind (getI .i64)).bind fun n4 =>
(run (Et base) 193 [(.pointer v0)] r3.2).bind fun r5 =>
((some r5.1).bind (getI .i64)).bind fun n6 =>
(run (Et base) 193 [(.pointer v0)] r5.2).bind fun r7 =>
((some r7.1).bind (getI .i64)).bind fun n8 =>
(if v1 = 0 then none else
some ((.int .i64 (Int.tmod (IntKind.wrap .i64 ((IntKind.wrap .i64 ((IntKind.wrap .i64 (n4 * (65536 : Int))) + (IntKind.wrap .i64 (n6 * (256 : Int))))) + n8)) v1)), r7.2))))) = some r) : run (Et base) 158 [(.pointer v0), (vI v1)] h = some r := run_i (an := a158) Try.func158 (by kernel_rfl) (.trans (by kernel_rfl) hx)
theorem r165 {base : Nat} {v0 : Int} {h : AH} {r : Value × AH} (hx : ((some (h ++ [some ⟨[(.slice none 0 0)], 91⟩])).bind fun h1 =>
(run (Et base) 83 [(.int .i64 v0), (.int .i64 (4 : Int)), (.int .i64 (4000 : Int))] h1).bind fun r2 =>
((some r2.1).bind getB).bind fun b3 =>
(if (!b3) = true then
(wr base r2.2 (List.length h) 0 [(.slice none 0 0)]).bind fun h4 =>
((cell h4 (List.length h) 0).bind getS).bind fun l5 =>
some ((.agg #[(.slice l5.1 l5.2 l5.2)]), h4)
else
(if v0 = v0 ∧ 0 ≤ v0 ∧ v0 * 8 ≤ 140737488355328 ∧ v0 ≤ 140737488355328 then
(some (r2.2 ++ [some ⟨rep [(.int .i64 0)] (Int.toNat v0), 3⟩])).bind fun h6 =>
(some (h6 ++ [some ⟨[(.slice none 0 0)], 91⟩])).bind fun h7 =>
(wr base h7 (List.length h6) 0 [(.slice (some ⟨(List.length r2.2), 0, none⟩) (Int.toNat v0) (Int.toNat v0))]).bind fun h8 =>
((cell h8 (List.length h6) 0).bind getS).bind fun l9 =>
(run (Et base) 126 [(.slice l9.1 l9.2 l9.2), (.int .i64 (0 : Int)), (.int .i64 (IntKind.wrap .i64 (v0 - (3 : Int)))), (.bool false)] h8).bind fun r10 =>
(getTup 0 r10.1).bind fun _ =>
((cell r10.2 (List.length h6) 0).bind getS).bind fun l11 =>
(wr base r10.2 (List.length h) 0 [(.slice l11.1 l11.2 l11.2)]).bind fun h12 =>
((cell h12 (List.length h) 0).bind getS).bind fun l13 =>
some ((.agg #[(.slice l13.1 l13.2 l13.2)]), h12)
else none))) = some r) : run (Et base) 165 [(vI v0)] h = some r := run_i (an := a165) Try.func165 (by kernel_rfl) (.trans (by kernel_rfl) hx)
noncomputable def B166_0 (base : Nat) : Body := fun l h => lay s166_0 l fun s => exCode (Et base) (run (Et base)) loopL a166_0 (subC [1, 1, 1, 0, 1, 0, 0] (bodyC Try.f166)) s h (keepK s166_0 e166_0)
theorem B166_0_eq (base : Nat) (v1 : Addr) (v3 : Option Addr) (v3n : Nat) (v4 : Option Addr) (v4n : Nat) (v5 : Int) (h : AH) : B166_0 base [some (vA v1), some (vL v3 v3n), some (vL v4 v4n), some (vI v5)] h =
((if (decide (v5 < ((v4n : Nat) : Int))) = true then
(((cell h v1.block v1.off).bind getS).bind fun l2 =>
(if 0 ≤ v5 ∧ v5 < ((v4n : Nat) : Int) then
((v4 : Option Addr)).bind fun a3 =>
((cell h a3.block (a3.off + Int.toNat v5 * 1)).bind (getI .i64)).bind fun n4 =>
(run (Et base) 125 [(.agg #[(vL l2.1 l2.2)]), (vI n4)] h).bind fun r5 =>
(getTup 3 r5.1).bind fun l6 =>
l_IBB l6 fun n7 b8 b9 =>
(if b8 = true then
(if 0 ≤ v5 ∧ v5 < ((v4n : Nat) : Int) then
((v4 : Option Addr)).bind fun a10 =>
((cell r5.2 a10.block (a10.off + Int.toNat v5 * 1)).bind (getI .i64)).bind fun n11 =>
nw1 r5.2 3 [(vI n11)] fun h12 =>
(app base h12 3 1 8 v3 v3n (rawAt h12 (some ⟨(List.length r5.2), 0, none⟩) (1 * 1)) 1).bind fun p13 =>
((some p13.1).bind getS).bind fun l14 =>
some (.inl ([some (vA v1), some (vL l14.1 l14.2), some (vL v4 v4n), some (vI v5)], p13.2))
else none)
else
some (.inl ([some (vA v1), some (vL v3 v3n), some (vL v4 v4n), some (vI v5)], r5.2)))
else none)).bind fun j1 => joinK j1 fun j1 =>
j_ALLI j1.1 fun d15 l16 l17 n18 =>
some (0, [some (vA d15), some (vL l16.1 l16.2), some (vL l17.1 l17.2), some (vI (IntKind.wrap .i64 (n18 + (1 : Int))))], j1.2)
else
some (2, [some (vL v3 v3n)], h)) : Option (Nat × Slots × AH)) := by kernel_rfl
theorem r166 {base : Nat} {v0_0 : Option Addr} {v0_0n : Nat} {h : AH} {r : Value × AH} (hx : ((some (h ++ [some ⟨[(.slice v0_0 v0_0n v0_0n)], 91⟩])).bind fun h1 =>
(some (h1 ++ [some ⟨[], 3⟩])).bind fun h2 =>
((cell h2 (List.length h) 0).bind getS).bind fun l3 =>
(run (Et base) 124 [(.agg #[(.slice l3.1 l3.2 l3.2)])] h2).bind fun r4 =>
((some r4.1).bind getS).bind fun l5 =>
(loopL (B166_0 base) [some (.pointer (some ⟨(List.length h), 0, none⟩)), some (.slice (some ⟨(List.length h1), 0, none⟩) 0 0), some (.slice l5.1 l5.2 l5.2), some (.int .i64 (0 : Int))] r4.2).bind fun q6 =>
(if q6.1 = 2 then
((sget q6.2.1 0).bind getS).bind fun l7 =>
some ((.slice l7.1 l7.2 l7.2), q6.2.2)
else
none)) = some r) : run (Et base) 166 [(.agg #[(vL v0_0 v0_0n)])] h = some r := run_i (an := a166) Try.func166 (by kernel_rfl) (.trans (by kernel_rfl) hx)
noncomputable def B167_0 (base : Nat) : Body := fun l h => lay s167_0 l fun s => exCode (Et base) (run (Et base)) loopL a167_0 (subC [1, 1, 1, 1, 0, 1, 0, 0] (bodyC Try.f167)) s h (keepK s167_0 e167_0)
theorem B167_0_eq (base : Nat) (v1 : Int) (v2 : Addr) (v4 : Addr) (v6 : Addr) (v7 : Option Addr) (v7n : Nat) (v8 : Int) (h : AH) : B167_0 base [some (vI v1), some (vA v2), some (vA v4), some (vA v6), some (vL v7 v7n), some (vI v8)] h =
((if (decide (v8 < ((v7n : Nat) : Int))) = true then
((cell h v2.block v2.off).bind getS).bind fun l1 =>
(if 0 ≤ v8 ∧ v8 < ((v7n : Nat) : Int) then
((v7 : Option Addr)).bind fun a2 =>
((cell h a2.block (a2.off + Int.toNat v8 * 1)).bind (getI .i64)).bind fun n3 =>
(run (Et base) 125 [(.agg #[(vL l1.1 l1.2)]), (vI n3)] h).bind fun r4 =>
(getTup 3 r4.1).bind fun l5 =>
l_IBB l5 fun n6 b7 b8 =>
((if 0 ≤ v8 ∧ v8 < ((v7n : Nat) : Int) then
((v7 : Option Addr)).bind fun a10 =>
((cell r4.2 a10.block (a10.off + Int.toNat v8 * 1)).bind (getI .i64)).bind fun n11 =>
(if (n11 != v1) = true then
some (.inl ([some (vI v1), some (vA v2), some (vA v4), some (vA v6), some (vL v7 v7n), some (vI v8), some (vI n6), some (.bool true)], r4.2))
else
some (.inl ([some (vI v1), some (vA v2), some (vA v4), some (vA v6), some (vL v7 v7n), some (vI v8), some (vI n6), some (.bool (!b7))], r4.2)))
else none)).bind fun j9 => joinK j9 fun j9 =>
j_IAAALIIB j9.1 fun n12 d13 d14 d15 l16 n17 n18 b19 =>
(if b19 = true then
some (0, [some (vI n12), some (vA d13), some (vA d14), some (vA d15), some (vL l16.1 l16.2), some (vI (IntKind.wrap .i64 (n17 + (1 : Int))))], j9.2)
else
((if (decide (n17 > (0 : Int))) = true then
((cell j9.2 d13.block d13.off).bind getS).bind fun l21 =>
(if 0 ≤ (IntKind.wrap .i64 (n17 - (1 : Int))) ∧ (IntKind.wrap .i64 (n17 - (1 : Int))) < ((l16.2 : Nat) : Int) then
((l16.1 : Option Addr)).bind fun a22 =>
((cell j9.2 a22.block (a22.off + Int.toNat (IntKind.wrap .i64 (n17 - (1 : Int))) * 1)).bind (getI .i64)).bind fun n23 =>
(run (Et base) 125 [(.agg #[(vL l21.1 l21.2)]), (vI n23)] j9.2).bind fun r24 =>
(getTup 3 r24.1).bind fun l25 =>
l_IBB l25 fun n26 b27 b28 =>
(if (!b27) = true then
(if 0 ≤ (IntKind.wrap .i64 (n17 - (1 : Int))) ∧ (IntKind.wrap .i64 (n17 - (1 : Int))) < ((l16.2 : Nat) : Int) then
((l16.1 : Option Addr)).bind fun a29 =>
((cell r24.2 a29.block (a29.off + Int.toNat (IntKind.wrap .i64 (n17 - (1 : Int))) * 1)).bind (getI .i64)).bind fun n30 =>
some (.inl ([some (vA d13), some (vA d14), some (vA d15), some (vL l16.1 l16.2), some (vI n17), some (vI n30), some (vI (IntKind.wrap .i64 ((IntKind.wrap .i64 (n12 + n18)) + (3 : Int))))], r24.2))
else none)
else
some (.inl ([some (vA d13), some (vA d14), some (vA d15), some (vL l16.1 l16.2), some (vI n17), some (vI n12), some (vI (IntKind.wrap .i64 ((IntKind.wrap .i64 (n12 + n18)) + (3 : Int))))], r24.2)))
else none)
else
some (.inl ([some (vA d13), some (vA d14), some (vA d15), some (vL l16.1 l16.2), some (vI n17), some (vI n12), some (vI (IntKind.wrap .i64 ((IntKind.wrap .i64 (n12 + n18)) + (3 : Int))))], j9.2)))).bind fun j20 => joinK j20 fun j20 =>
j_AAALIII j20.1 fun d31 d32 d33 l34 n35 n36 n37 =>
((if (decide ((IntKind.wrap .i64 (n35 + (1 : Int))) < ((l34.2 : Nat) : Int))) = true then
((cell j20.2 d31.block d31.off).bind getS).bind fun l39 =>
(if 0 ≤ (IntKind.wrap .i64 (n35 + (1 : Int))) ∧ (IntKind.wrap .i64 (n35 + (1 : Int))) < ((l34.2 : Nat) : Int) then
((l34.1 : Option Addr)).bind fun a40 =>
((cell j20.2 a40.block (a40.off + Int.toNat (IntKind.wrap .i64 (n35 + (1 : Int))) * 1)).bind (getI .i64)).bind fun n41 =>
(run (Et base) 125 [(.agg #[(vL l39.1 l39.2)]), (vI n41)] j20.2).bind fun r42 =>
(getTup 3 r42.1).bind fun l43 =>
l_IBB l43 fun n44 b45 b46 =>
(if (!b45) = true then
some (.inl ([some (vA d32), some (vA d33), some (vI n36), some (vI (IntKind.wrap .i64 ((IntKind.wrap .i64 (n37 + n44)) + (3 : Int))))], r42.2))
else
some (.inl ([some (vA d32), some (vA d33), some (vI n36), some (vI n37)], r42.2)))
else none)
else
some (.inl ([some (vA d32), some (vA d33), some (vI n36), some (vI n37)], j20.2)))).bind fun j38 => joinK j38 fun j38 =>
j_AAII j38.1 fun d47 d48 n49 n50 =>
((cell j38.2 d48.block (d48.off + 0)).bind getS).bind fun l51 =>
(run (Et base) 126 [(vL l51.1 l51.2), (vI n49), (vI (IntKind.wrap .i64 ((IntKind.wrap .i64 (n50 - n49)) - (3 : Int)))), (.bool false)] j38.2).bind fun r52 =>
(getTup 0 r52.1).bind fun _ =>
((cell r52.2 d48.block d48.off).bind getS).bind fun l53 =>
(wr base r52.2 d47.block d47.off [(vL l53.1 l53.2)]).bind fun h54 =>
some (1, [some (vA d47), some (vI (0 : Int))], h54))
else none)
else
some (2, [some (vA v4), some (vA v6)], h)) : Option (Nat × Slots × AH)) := by kernel_rfl
theorem r167 {base : Nat} {v0_0 : Option Addr} {v0_0n : Nat} {v1 : Int} {h : AH} {r : Value × AH} (hx : (nw1 h 91 [(vL v0_0 v0_0n)] fun h1 =>
nw1 h1 91 [(vL none 0)] fun h2 =>
((cell h2 (List.length h) 0).bind getS).bind fun l3 =>
(run (Et base) 122 [(.agg #[(vL l3.1 l3.2)])] h2).bind fun r4 =>
gG (some r4.1) 1 fun l5 =>
((l5[0]?).bind getS).bind fun l6 =>
nw1 r4.2 91 [(vL none 0)] fun h7 =>
(wr base h7 (List.length r4.2) 0 [(vL l6.1 l6.2)]).bind fun h8 =>
((cell h8 (List.length h) 0).bind getS).bind fun l9 =>
(run (Et base) 123 [(.agg #[(vL l9.1 l9.2)])] h8).bind fun r10 =>
((some r10.1).bind (getI .i64)).bind fun n11 =>
(if (n11 != (-1 : Int)) = true then
((cell r10.2 (List.length r4.2) 0).bind getS).bind fun l12 =>
(wr base r10.2 (List.length h1) 0 [(vL l12.1 l12.2)]).bind fun h13 =>
((cell h13 (List.length h1) 0).bind getS).bind fun l14 =>
some ((.tuple #[(.agg #[(vL l14.1 l14.2)]), (vI (3 : Int))]), h13)
else
((cell r10.2 (List.length h) 0).bind getS).bind fun l15 =>
(run (Et base) 124 [(.agg #[(vL l15.1 l15.2)])] r10.2).bind fun r16 =>
((some r16.1).bind getS).bind fun l17 =>
(loopL (B167_0 base) [some (vI v1), some (vP (List.length h)), some (vP (List.length h1)), some (vP (List.length r4.2)), some (vL l17.1 l17.2), some (vI (0 : Int))] r16.2).bind fun q18 =>
(if q18.1 = 1 then
j_AI q18.2.1 fun d19 n20 =>
((cell q18.2.2 d19.block d19.off).bind getS).bind fun l21 =>
some ((.tuple #[(.agg #[(vL l21.1 l21.2)]), (vI n20)]), q18.2.2)
else
(if q18.1 = 2 then
j_AA q18.2.1 fun d22 d23 =>
((cell q18.2.2 d23.block d23.off).bind getS).bind fun l24 =>
(wr base q18.2.2 d22.block d22.off [(vL l24.1 l24.2)]).bind fun h25 =>
((cell h25 d22.block d22.off).bind getS).bind fun l26 =>
some ((.tuple #[(.agg #[(vL l26.1 l26.2)]), (vI (2 : Int))]), h25)
else
none)))) = some r) : run (Et base) 167 [(.agg #[(vL v0_0 v0_0n)]), (vI v1)] h = some r := run_i (an := a167) Try.func167 (by kernel_rfl) (.trans (by kernel_rfl) hx)
theorem r168 {base : Nat} {v0 : Int} {h : AH} {r : Value × AH} (hx : ((run (Et base) 83 [(.int .i64 v0), (.int .i64 (0 : Int)), (.int .i64 (4000 : Int))] h).bind fun r1 =>
((some r1.1).bind getB).bind fun b2 =>
some ((.bool b2), r1.2)) = some r) : run (Et base) 168 [(vI v0)] h = some r := run_i (an := a168) Try.func168 (by kernel_rfl) (.trans (by kernel_rfl) hx)
theorem r169 {base : Nat} {v0 : Int} {v1 : Int} {v2 : Bool} {h : AH} {r : Value × AH} (hx : (((run (Et base) 168 [(.int .i64 v0)] h).bind fun r2 =>
((some r2.1).bind getB).bind fun b3 =>
(if (!b3) = true then
some (.inl ([some (.int .i64 v0), some (.int .i64 v1), some (.bool v2), some (.bool true)], r2.2))
else
(run (Et base) 168 [(.int .i64 v1)] r2.2).bind fun r4 =>
((some r4.1).bind getB).bind fun b5 =>
some (.inl ([some (.int .i64 v0), some (.int .i64 v1), some (.bool v2), some (.bool (!b5))], r4.2)))).bind fun j1 => joinK j1 fun j1 =>
((sget j1.1 0).bind (getI .i64)).bind fun n6 =>
((sget (j1.1.tail) 0).bind (getI .i64)).bind fun n7 =>
((sget (j1.1.tail.tail) 0).bind getB).bind fun b8 =>
((sget (j1.1.tail.tail.tail) 0).bind getB).bind fun b9 =>
(if b9 = true then
some ((.int .i64 (0 : Int)), j1.2)
else
(run (Et base) 200 [(.int .i64 n6), (.int .i64 n7), (.bool b8)] j1.2).bind fun r10 =>
((some r10.1).bind (getI .i64)).bind fun n11 =>
some ((.int .i64 (Int.tmod (IntKind.wrap .i64 (n11 + (1000 : Int))) (1000003 : Int))), r10.2))) = some r) : run (Et base) 169 [(vI v0), (vI v1), (.bool v2)] h = some r := run_i (an := a169) Try.func169 (by kernel_rfl) (.trans (by kernel_rfl) hx)
theorem r170 {base : Nat} {v0 : Int} {v1 : Int} {v2 : Bool} {h : AH} {r : Value × AH} (hx : (((run (Et base) 168 [(.int .i64 v0)] h).bind fun r2 =>
((some r2.1).bind getB).bind fun b3 =>
(if (!b3) = true then
some (.inl ([some (.int .i64 v0), some (.int .i64 v1), some (.bool v2), some (.bool true)], r2.2))
else
(run (Et base) 168 [(.int .i64 v1)] r2.2).bind fun r4 =>
((some r4.1).bind getB).bind fun b5 =>
some (.inl ([some (.int .i64 v0), some (.int .i64 v1), some (.bool v2), some (.bool (!b5))], r4.2)))).bind fun j1 => joinK j1 fun j1 =>
((sget j1.1 0).bind (getI .i64)).bind fun n6 =>
((sget (j1.1.tail) 0).bind (getI .i64)).bind fun n7 =>
((sget (j1.1.tail.tail) 0).bind getB).bind fun b8 =>
((sget (j1.1.tail.tail.tail) 0).bind getB).bind fun b9 =>
(if b9 = true then
some ((.int .i64 (0 : Int)), j1.2)
else
(run (Et base) 200 [(.int .i64 n6), (.int .i64 n7), (.bool b8)] j1.2).bind fun r10 =>
((some r10.1).bind (getI .i64)).bind fun n11 =>
some ((.int .i64 (Int.tmod (IntKind.wrap .i64 (n11 + (1001 : Int))) (1000003 : Int))), r10.2))) = some r) : run (Et base) 170 [(vI v0), (vI v1), (.bool v2)] h = some r := run_i (an := a170) Try.func170 (by kernel_rfl) (.trans (by kernel_rfl) hx)
theorem r171 {base : Nat} {v0 : Int} {h : AH} {r : Value × AH} (hx : ((run (Et base) 168 [(.int .i64 v0)] h).bind fun r1 =>
((some r1.1).bind getB).bind fun b2 =>
(if (!b2) = true then
some ((.int .i64 (0 : Int)), r1.2)
else
some ((.int .i64 (Int.tmod (IntKind.wrap .i64 ((IntKind.wrap .i64 (v0 * (31 : Int))) + (7777 : Int))) (1000003 : Int))), r1.2))) = some r) : run (Et base) 171 [(vI v0)] h = some r := run_i (an := a171) Try.func171 (by kernel_rfl) (.trans (by kernel_rfl) hx)
theorem r172 {base : Nat} {v0 : Int} {v1 : Int} {v2 : Bool} {h : AH} {r : Value × AH} (hx : ((if v2 = true then
some ((.int .i64 (IntKind.wrap .i64 ((IntKind.wrap .i64 ((IntKind.wrap .i64 (v0 * (7919 : Int))) + (IntKind.wrap .i64 (v1 * (104729 : Int))))) + (2 : Int)))), h)
else
some ((.int .i64 (IntKind.wrap .i64 ((IntKind.wrap .i64 ((IntKind.wrap .i64 (v0 * (7919 : Int))) + (IntKind.wrap .i64 (v1 * (104729 : Int))))) + (1 : Int)))), h))) = some r) : run (Et base) 172 [(vI v0), (vI v1), (.bool v2)] h = some r := run_i (an := a172) Try.func172 (by kernel_rfl) (.trans (by kernel_rfl) hx)
theorem r193 {base : Nat} {v0 : Option Addr} {h : AH} {r : Value × AH} (hx : ((v0).bind fun a1 =>
((cell h a1.block (a1.off + 2)).bind (getI .i64)).bind fun n2 =>
(v0).bind fun a3 =>
(wr base h a3.block (a3.off + 2) [(vI (IntKind.wrap .i64 ((IntKind.wrap .i64 (n2 * (6364136223846793005 : Int))) + (1442695040888963407 : Int))))]).bind fun h4 =>
(v0).bind fun a5 =>
((cell h4 a5.block (a5.off + 2)).bind (getI .i64)).bind fun n6 =>
(v0).bind fun a7 =>
((cell h4 a7.block (a7.off + 2)).bind (getI .i64)).bind fun n8 =>
((v0).bind fun a10 =>
((cell h4 a10.block (a10.off + 1)).bind (getI .i64)).bind fun n11 =>
(v0).bind fun a12 =>
((cell h4 a12.block (a12.off + 0)).bind getS).bind fun l13 =>
(if (decide (n11 < ((l13.2 : Nat) : Int))) = true then
(v0).bind fun a14 =>
((cell h4 a14.block (a14.off + 0)).bind getS).bind fun l15 =>
(v0).bind fun a16 =>
((cell h4 a16.block (a16.off + 1)).bind (getI .i64)).bind fun n17 =>
(if 0 ≤ n17 ∧ n17 < ((l15.2 : Nat) : Int) then
((l15.1 : Option Addr)).bind fun a18 =>
((cell h4 a18.block (a18.off + Int.toNat n17 * 1)).bind (getI .u8)).bind fun n19 =>
(v0).bind fun a20 =>
((cell h4 a20.block (a20.off + 1)).bind (getI .i64)).bind fun n21 =>
(v0).bind fun a22 =>
(wr base h4 a22.block (a22.off + 1) [(vI (IntKind.wrap .i64 (n21 + (1 : Int))))]).bind fun h23 =>
some (.inl ([some (vI (Go.bits .and .i64 (IntKind.wrap .i64 ((Go.bits .and .i64 (Go.bits .xor .i64 (Int.fdiv n6 (2 ^ min ((33 : Int)).toNat 64)) (Int.fdiv n8 (2 ^ min ((47 : Int)).toNat 64))) (255 : Int)) + (IntKind.wrap .i64 n19))) (255 : Int)))], h23))
else none)
else
some (.inl ([some (vI (Go.bits .and .i64 (Go.bits .xor .i64 (Int.fdiv n6 (2 ^ min ((33 : Int)).toNat 64)) (Int.fdiv n8 (2 ^ min ((47 : Int)).toNat 64))) (255 : Int)))], h4)))).bind fun j9 => joinK j9 fun j9 =>
((sget j9.1 0).bind (getI .i64)).bind fun n24 =>
some ((vI n24), j9.2)) = some r) : run (Et base) 193 [(.pointer v0)] h = some r := run_i (an := a193) Try.func193 (by kernel_rfl) (.trans (by kernel_rfl) hx)
theorem r200 {base : Nat} {v0 : Int} {v1 : Int} {v2 : Bool} {h : AH} {r : Value × AH} (hx : (((if v2 = true then
some (.inl ([some (.int .i64 v0), some (.int .i64 v1), some (.int .i64 (2 : Int))], h))
else
some (.inl ([some (.int .i64 v0), some (.int .i64 v1), some (.int .i64 (1 : Int))], h)))).bind fun j1 => joinK j1 fun j1 =>
((sget j1.1 0).bind (getI .i64)).bind fun n2 =>
((sget (j1.1.tail) 0).bind (getI .i64)).bind fun n3 =>
((sget (j1.1.tail.tail) 0).bind (getI .i64)).bind fun n4 =>
some ((.int .i64 (IntKind.wrap .i64 ((IntKind.wrap .i64 ((IntKind.wrap .i64 ((IntKind.wrap .i64 (n2 * (7919 : Int))) + (IntKind.wrap .i64 (n3 * (104729 : Int))))) + n4)) * (3 : Int)))), j1.2)) = some r) : run (Et base) 200 [(vI v0), (vI v1), (.bool v2)] h = some r := run_i (an := a200) Try.func200 (by kernel_rfl) (.trans (by kernel_rfl) hx)
end Go.Proofs.Ytjmkbglnjklbcaa.Am
