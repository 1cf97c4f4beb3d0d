/- What each of these functions comes to on the abstract machine, one equation a function and one a loop.
Conditions: none. -/
import Derived.Test.YtkdenmdijdmnjaaTb
set_option linter.unusedVariables false
set_option maxRecDepth 100000
namespace Go.Proofs.Ytkdenmdijdmnjaa.Am
open Go Go.RowKit
noncomputable def B4_0 (base : Nat) : Body:=fun l h=>lay s4_0 l fun s=>exCode (Et base) (run (Et base)) loopL a4_0 (subC [1,1,1,1,0,1,0,0] (bodyC Try.f4)) s h (keepK s4_0 e4_0)
theorem B4_0_eq (base : Nat) (v3 : Addr) (v4 : Addr) (v5 : Int) (h : AH) : B4_0 base [some (vA v3),some (vA v4),some (vI v5)] h =
(((cell h v3.block (v3.off + 1)).bind getS).bind fun l1=>
(if (decide (v5 < ((l1.2 : Nat) : Int))) = true then
(((cell h v3.block (v3.off + 1)).bind getS).bind fun l3=>
(if 0≤v5∧v5 < ((l3.2 : Nat) : Int) then
((l3.1 : Option Addr)).bind fun a4=>
((cell h a4.block ((a4.off + Int.toNat v5 * 5) + 0)).bind (getI .i64)).bind fun n5=>
((cell h v3.block (v3.off + 2)).bind (getI .i64)).bind fun n6=>
(if (decide (n5 ≥ n6)) = true then
some (.inl ([some (vA v3),some (vA v4),some (vI v5),some (.bool true)],h))
else
(if (decide (v5 > (0 : Int))) = true then
((cell h v3.block (v3.off + 1)).bind getS).bind fun l7=>
(if 0≤(IntKind.wrap .i64 (v5 - (1 : Int)))∧(IntKind.wrap .i64 (v5 - (1 : Int))) < ((l7.2 : Nat) : Int) then
((l7.1 : Option Addr)).bind fun a8=>
((cell h a8.block ((a8.off + Int.toNat (IntKind.wrap .i64 (v5 - (1 : Int))) * 5) + 0)).bind (getI .i64)).bind fun n9=>
((cell h v3.block (v3.off + 1)).bind getS).bind fun l10=>
(if 0≤v5∧v5 < ((l10.2 : Nat) : Int) then
((l10.1 : Option Addr)).bind fun a11=>
((cell h a11.block ((a11.off + Int.toNat v5 * 5) + 0)).bind (getI .i64)).bind fun n12=>
(if (decide (n9 ≥ n12)) = true then
some (.inl ([some (vA v3),some (vA v4),some (vI v5),some (.bool true)],h))
else
((cell h v3.block (v3.off + 0)).bind getS).bind fun l13=>
((cell h v3.block (v3.off + 1)).bind getS).bind fun l14=>
(if 0≤v5∧v5 < ((l14.2 : Nat) : Int) then
((l14.1 : Option Addr)).bind fun a15=>
c_IILLL h a15.block (a15.off + Int.toNat v5 * 5) fun n16 n17 l18 l19 l20=>
(run (Et base) 25 [(vL l13.1 l13.2),(.agg #[(vI n16),(vI n17),(vL l18.1 l18.2),(vL l19.1 l19.2),(vL l20.1 l20.2)])] h).bind fun r21=>
((some r21.1).bind getB).bind fun b22=>
some (.inl ([some (vA v3),some (vA v4),some (vI v5),some (.bool (!b22))],r21.2))
else none))
else none)
else none)
else
((cell h v3.block (v3.off + 0)).bind getS).bind fun l23=>
((cell h v3.block (v3.off + 1)).bind getS).bind fun l24=>
(if 0≤v5∧v5 < ((l24.2 : Nat) : Int) then
((l24.1 : Option Addr)).bind fun a25=>
c_IILLL h a25.block (a25.off + Int.toNat v5 * 5) fun n26 n27 l28 l29 l30=>
(run (Et base) 25 [(vL l23.1 l23.2),(.agg #[(vI n26),(vI n27),(vL l28.1 l28.2),(vL l29.1 l29.2),(vL l30.1 l30.2)])] h).bind fun r31=>
((some r31.1).bind getB).bind fun b32=>
some (.inl ([some (vA v3),some (vA v4),some (vI v5),some (.bool (!b32))],r31.2))
else none)))
else none)).bind fun j2=>joinK j2 fun j2=>
j_AAIB j2.1 fun d33 d34 n35 b36=>
(if b36 = true then
some (1,[some (.bool false)],j2.2)
else
some (0,[some (vA d33),some (vA d34),some (vI (IntKind.wrap .i64 (n35 + (1 : Int))))],j2.2))
else
some (2,[some (vA v3),some (vA v4)],h)) : Option (Nat × Slots × AH)):=by kernel_rfl
theorem r4 {base : Nat} {v0 : Option Addr} {v0n : Nat} {h : AH} {r : Value × AH} (hx : ((run (Et base) 22 [(vL v0 v0n)] h).bind fun r1=>
((some r1.1).bind getB).bind fun b2=>
(if b2 = true then
some ((.bool true),r1.2)
else
(run (Et base) 23 [(vL v0 v0n)] r1.2).bind fun r3=>
gG (some r3.1) 4 fun l4=>
l_LLIL l4 fun l5 l6 n7 l8=>
nw1 r3.2 36 [(vL none 0),(vL none 0),(vI 0),(vL none 0)] fun h9=>
(wr base h9 (List.length r3.2) 0 [(vL l5.1 l5.2),(vL l6.1 l6.2),(vI n7),(vL l8.1 l8.2)]).bind fun h10=>
(run (Et base) 24 [(vL v0 v0n)] h10).bind fun r11=>
gG (some r11.1) 4 fun l12=>
l_LLIL l12 fun l13 l14 n15 l16=>
nw1 r11.2 36 [(vL none 0),(vL none 0),(vI 0),(vL none 0)] fun h17=>
(wr base h17 (List.length r11.2) 0 [(vL l13.1 l13.2),(vL l14.1 l14.2),(vI n15),(vL l16.1 l16.2)]).bind fun h18=>
(loopL (B4_0 base) [some (vP (List.length r3.2)),some (vP (List.length r11.2)),some (vI (0 : Int))] h18).bind fun q19=>
(if q19.1 = 1 then
((sget q19.2.1 0).bind getB).bind fun b20=>
some ((.bool b20),q19.2.2)
else
(if q19.1 = 2 then
j_AA q19.2.1 fun d21 d22=>
c_LLIL q19.2.2 d21.block d21.off fun l23 l24 n25 l26=>
(run (Et base) 26 [(.agg #[(vL l23.1 l23.2),(vL l24.1 l24.2),(vI n25),(vL l26.1 l26.2)])] q19.2.2).bind fun r27=>
((some r27.1).bind getB).bind fun b28=>
(if b28 = true then
c_LLIL r27.2 d22.block d22.off fun l29 l30 n31 l32=>
(run (Et base) 26 [(.agg #[(vL l29.1 l29.2),(vL l30.1 l30.2),(vI n31),(vL l32.1 l32.2)])] r27.2).bind fun r33=>
((some r33.1).bind getB).bind fun b34=>
(gate (sameA r27.2 r33.2 (some d22) 4)
(c_LLIL r33.2 d22.block d22.off fun l35 l36 n37 l38=>
(run (Et base) 27 [(.agg #[(vL l35.1 l35.2),(vL l36.1 l36.2),(vI n37),(vL l38.1 l38.2)])] r33.2).bind fun r39=>
((some r39.1).bind getB).bind fun b40=>
some ((.bool (b34 == b40)),r39.2)))
else
some ((.bool false),r27.2))
else
none)))) = some r) : run (Et base) 4 [(vL v0 v0n)] h = some r:=run_i (an:=a4) Try.func4 (by kernel_rfl) (.trans (by kernel_rfl) hx)
theorem r22 {base : Nat} {v0 : Option Addr} {v0n : Nat} {h : AH} {r : Value × AH} (hx : (some ((.bool (decide (((v0n : Nat) : Int) > (1048576 : Int)))),h)) = some r) : run (Et base) 22 [(vL v0 v0n)] h = some r:=run_i (an:=a22) Try.func22 (by kernel_rfl) (.trans (by kernel_rfl) hx)
theorem r23 {base : Nat} {v0 : Option Addr} {v0n : Nat} {h : AH} {r : Value × AH} (hx : ((some (h++[some ⟨[(.slice none 0 0),(.slice none 0 0),(.int .i64 0),(.slice none 0 0)],36⟩])).bind fun h1=>
(run (Et base) 78 [(.slice v0 v0n v0n)] h1).bind fun r2=>
((some r2.1).bind getP).bind fun p3=>
(run (Et base) 80 [(.slice v0 v0n v0n),(.int .i64 (24 : Int))] r2.2).bind fun r4=>
((some r4.1).bind (getI .i64)).bind fun n5=>
(run (Et base) 79 [(.pointer p3),(.int .i64 (IntKind.wrap .i64 ((6 : Int) + n5)))] r4.2).bind fun r6=>
((some r6.1).bind (getAgg 4)).bind fun l7=>
((l7[0]?).bind getS).bind fun l8=>
((l7[1]?).bind getS).bind fun l9=>
((l7[2]?).bind (getI .i64)).bind fun n10=>
((l7[3]?).bind getS).bind fun l11=>
(wr base r6.2 (List.length h) 0 [(.slice l8.1 l8.2 l8.2),(.slice l9.1 l9.2 l9.2),(.int .i64 n10),(.slice l11.1 l11.2 l11.2)]).bind fun h12=>
((cell h12 (List.length h) 0).bind getS).bind fun l13=>
((cell h12 (List.length h) 1).bind getS).bind fun l14=>
((cell h12 (List.length h) 2).bind (getI .i64)).bind fun n15=>
((cell h12 (List.length h) 3).bind getS).bind fun l16=>
some ((.agg #[(.slice l13.1 l13.2 l13.2),(.slice l14.1 l14.2 l14.2),(.int .i64 n15),(.slice l16.1 l16.2 l16.2)]),h12)) = some r) : run (Et base) 23 [(vL v0 v0n)] h = some r:=run_i (an:=a23) Try.func23 (by kernel_rfl) (.trans (by kernel_rfl) hx)
theorem r24 {base : Nat} {v0 : Option Addr} {v0n : Nat} {h : AH} {r : Value × AH} (hx : ((some (h++[some ⟨[(.slice none 0 0),(.slice none 0 0),(.int .i64 0),(.slice none 0 0)],36⟩])).bind fun h1=>
(run (Et base) 78 [(.slice v0 v0n v0n)] h1).bind fun r2=>
((some r2.1).bind getP).bind fun p3=>
(run (Et base) 80 [(.slice v0 v0n v0n),(.int .i64 (16 : Int))] r2.2).bind fun r4=>
((some r4.1).bind (getI .i64)).bind fun n5=>
(run (Et base) 81 [(.pointer p3),(.int .i64 n5)] r4.2).bind fun r6=>
((some r6.1).bind (getAgg 4)).bind fun l7=>
((l7[0]?).bind getS).bind fun l8=>
((l7[1]?).bind getS).bind fun l9=>
((l7[2]?).bind (getI .i64)).bind fun n10=>
((l7[3]?).bind getS).bind fun l11=>
(wr base r6.2 (List.length h) 0 [(.slice l8.1 l8.2 l8.2),(.slice l9.1 l9.2 l9.2),(.int .i64 n10),(.slice l11.1 l11.2 l11.2)]).bind fun h12=>
((cell h12 (List.length h) 0).bind getS).bind fun l13=>
((cell h12 (List.length h) 1).bind getS).bind fun l14=>
((cell h12 (List.length h) 2).bind (getI .i64)).bind fun n15=>
((cell h12 (List.length h) 3).bind getS).bind fun l16=>
some ((.agg #[(.slice l13.1 l13.2 l13.2),(.slice l14.1 l14.2 l14.2),(.int .i64 n15),(.slice l16.1 l16.2 l16.2)]),h12)) = some r) : run (Et base) 24 [(vL v0 v0n)] h = some r:=run_i (an:=a24) Try.func24 (by kernel_rfl) (.trans (by kernel_rfl) hx)
theorem r25 {base : Nat} {v0 : Option Addr} {v0n : Nat} {v1_0 : Int} {v1_1 : Int} {v1_2 : Option Addr} {v1_2n : Nat} {v1_3 : Option Addr} {v1_3n : Nat} {v1_4 : Option Addr} {v1_4n : Nat} {h : AH} {r : Value × AH} (hx : (nw1 h 54 [(vI v1_0),(vI v1_1),(vL v1_2 v1_2n),(vL v1_3 v1_3n),(vL v1_4 v1_4n)] fun h1=>
(run (Et base) 82 [(vL v0 v0n)] h1).bind fun r2=>
((some r2.1).bind getB).bind fun b3=>
(if b3 = true then
((cell r2.2 (List.length h) 0).bind (getI .i64)).bind fun n4=>
(run (Et base) 83 [(vI n4),(vI (1 : Int)),(vI (99999 : Int))] r2.2).bind fun r5=>
((some r5.1).bind getB).bind fun b6=>
(if b6 = true then
((cell r5.2 (List.length h) 1).bind (getI .i64)).bind fun n7=>
(run (Et base) 83 [(vI n7),(vI (0 : Int)),(vI (IntKind.wrap .i64 (((v0n : Nat) : Int) - (1 : Int))))] r5.2).bind fun r8=>
((some r8.1).bind getB).bind fun b9=>
(if b9 = true then
((cell r8.2 (List.length h) 2).bind getS).bind fun l10=>
(if (((l10.2 : Nat) : Int) == (8 : Int)) = true then
((cell r8.2 (List.length h) 2).bind getS).bind fun l11=>
(run (Et base) 84 [(vL l11.1 l11.2)] r8.2).bind fun r12=>
((some r12.1).bind getB).bind fun b13=>
(if b13 = true then
((cell r12.2 (List.length h) 3).bind getS).bind fun l14=>
(if (decide (((l14.2 : Nat) : Int)≤(30 : Int))) = true then
((cell r12.2 (List.length h) 3).bind getS).bind fun l15=>
(run (Et base) 84 [(vL l15.1 l15.2)] r12.2).bind fun r16=>
((some r16.1).bind getB).bind fun b17=>
(if b17 = true then
((cell r16.2 (List.length h) 4).bind getS).bind fun l18=>
((cell r16.2 (List.length h) 0).bind (getI .i64)).bind fun n19=>
(run (Et base) 85 [(vL l18.1 l18.2),(vI n19)] r16.2).bind fun r20=>
((some r20.1).bind getB).bind fun b21=>
some ((.bool b21),r20.2)
else
some ((.bool false),r16.2))
else
some ((.bool false),r12.2))
else
some ((.bool false),r12.2))
else
some ((.bool false),r8.2))
else
some ((.bool false),r8.2))
else
some ((.bool false),r5.2))
else
some ((.bool false),r2.2))) = some r) : run (Et base) 25 [(vL v0 v0n),(.agg #[(vI v1_0),(vI v1_1),(vL v1_2 v1_2n),(vL v1_3 v1_3n),(vL v1_4 v1_4n)])] h = some r:=run_i (an:=a25) Try.func25 (by kernel_rfl) (.trans (by kernel_rfl) hx)
noncomputable def B26_1 (base : Nat) : Body:=fun l h=>lay s26_1 l fun s=>exCode (Et base) (run (Et base)) loopL a26_1 (subC [1,1,0,1,0,0,1,1,0,0,1,1,1,0,0] (bodyC Try.f26)) s h (keepK s26_1 e26_1)
noncomputable def B26_0 (base : Nat) : Body:=fun l h=>lay s26_0 l fun s=>exCode (Et base) (run (Et base)) loopL a26_0 (subC [1,1,0,1,0,0] (bodyC Try.f26)) s h (keepK s26_0 e26_0)
theorem B26_1_eq (base : Nat) (v1 : Addr) (v4 : Addr) (v31 : Option Addr) (v31n : Nat) (v32 : Int) (v33 : Int) (v67 : Option Addr) (v67n : Nat) (v68 : Int) (v69 : Int) (h : AH) : B26_1 base [some (vA v1),some (vA v4),some (vL v31 v31n),some (vI v32),some (vI v33),some (vL v67 v67n),some (vI v68),some (vI v69)] h =
((if (decide (v69 < v68)) = true then
(if 0≤v69∧v69 < ((v67n : Nat) : Int) then
((v67 : Option Addr)).bind fun a1=>
((cell h a1.block (a1.off + Int.toNat v69 * 1)).bind (getI .i64)).bind fun n2=>
(run (Et base) 87 [(vA v1),(vI n2)] h).bind fun r3=>
((some r3.1).bind (getI .i64)).bind fun n4=>
((if (decide (n4 ≥ (0 : Int))) = true then
((cell r3.2 v1.block (v1.off + 1)).bind getS).bind fun l6=>
(if 0≤n4∧n4 < ((l6.2 : Nat) : Int) then
((l6.1 : Option Addr)).bind fun a7=>
((cell r3.2 a7.block ((a7.off + Int.toNat n4 * 5) + 4)).bind getS).bind fun l8=>
((cell r3.2 v4.block (v4.off + 0)).bind (getI .i64)).bind fun n9=>
(run (Et base) 88 [(vL l8.1 l8.2),(vI n9)] r3.2).bind fun r10=>
((some r10.1).bind getB).bind fun b11=>
some (.inl ([some (vA v1),some (vA v4),some (vL v31 v31n),some (vI v32),some (vI v33),some (vL v67 v67n),some (vI v68),some (vI v69),some (.bool (!b11))],r10.2))
else none)
else
some (.inl ([some (vA v1),some (vA v4),some (vL v31 v31n),some (vI v32),some (vI v33),some (vL v67 v67n),some (vI v68),some (vI v69),some (.bool false)],r3.2)))).bind fun j5=>joinK j5 fun j5=>
j_AALIILIIB j5.1 fun d12 d13 l14 n15 n16 l17 n18 n19 b20=>
(if b20 = true then
some (1,[some (.bool false)],j5.2)
else
some (0,[some (vA d12),some (vA d13),some (vL l14.1 l14.2),some (vI n15),some (vI n16),some (vL l17.1 l17.2),some (vI n18),some (vI (IntKind.wrap .i64 (n19 + (1 : Int))))],j5.2))
else none)
else
some (4,[some (vA v1),some (vL v31 v31n),some (vI v32),some (vI v33)],h)) : Option (Nat × Slots × AH)):=by kernel_rfl
theorem B26_0_eq (base : Nat) (v1 : Addr) (v31 : Option Addr) (v31n : Nat) (v32 : Int) (v33 : Int) (h : AH) : B26_0 base [some (vA v1),some (vL v31 v31n),some (vI v32),some (vI v33)] h =
((if (decide (v33 < v32)) = true then
(if 0≤v33∧v33 < ((v31n : Nat) : Int) then
((v31 : Option Addr)).bind fun a1=>
c_IILLL h a1.block (a1.off + Int.toNat v33 * 5) fun n2 n3 l4 l5 l6=>
nw1 h 54 [(vI 0),(vI 0),(vL none 0),(vL none 0),(vL none 0)] fun h7=>
(wr base h7 (List.length h) 0 [(vI n2),(vI n3),(vL l4.1 l4.2),(vL l5.1 l5.2),(vL l6.1 l6.2)]).bind fun h8=>
(((cell h8 v1.block (v1.off + 0)).bind getS).bind fun l10=>
c_IILLL h8 (List.length h) 0 fun n11 n12 l13 l14 l15=>
(run (Et base) 25 [(vL l10.1 l10.2),(.agg #[(vI n11),(vI n12),(vL l13.1 l13.2),(vL l14.1 l14.2),(vL l15.1 l15.2)])] h8).bind fun r16=>
((some r16.1).bind getB).bind fun b17=>
(if (!b17) = true then
some (.inl ([some (vA v1),some (vP (List.length h)),some (vL v31 v31n),some (vI v32),some (vI v33),some (.bool true)],r16.2))
else
((cell r16.2 (List.length h) 0).bind (getI .i64)).bind fun n18=>
((cell r16.2 v1.block (v1.off + 2)).bind (getI .i64)).bind fun n19=>
(if (decide (n18 ≥ n19)) = true then
some (.inl ([some (vA v1),some (vP (List.length h)),some (vL v31 v31n),some (vI v32),some (vI v33),some (.bool true)],r16.2))
else
(if (decide (v33 > (0 : Int))) = true then
((cell r16.2 v1.block (v1.off + 1)).bind getS).bind fun l20=>
(if 0≤(IntKind.wrap .i64 (v33 - (1 : Int)))∧(IntKind.wrap .i64 (v33 - (1 : Int))) < ((l20.2 : Nat) : Int) then
((l20.1 : Option Addr)).bind fun a21=>
((cell r16.2 a21.block ((a21.off + Int.toNat (IntKind.wrap .i64 (v33 - (1 : Int))) * 5) + 0)).bind (getI .i64)).bind fun n22=>
((cell r16.2 (List.length h) 0).bind (getI .i64)).bind fun n23=>
some (.inl ([some (vA v1),some (vP (List.length h)),some (vL v31 v31n),some (vI v32),some (vI v33),some (.bool (decide (n22 ≥ n23)))],r16.2))
else none)
else
some (.inl ([some (vA v1),some (vP (List.length h)),some (vL v31 v31n),some (vI v32),some (vI v33),some (.bool false)],r16.2)))))).bind fun j9=>joinK j9 fun j9=>
j_AALIIB j9.1 fun d24 d25 l26 n27 n28 b29=>
(if b29 = true then
some (1,[some (.bool false)],j9.2)
else
((cell j9.2 d25.block (d25.off + 4)).bind getS).bind fun l30=>
(loopL (B26_1 base) [some (vA d24),some (vA d25),some (vL l26.1 l26.2),some (vI n27),some (vI n28),some (vL l30.1 l30.2),some (vI ((l30.2 : Nat) : Int)),some (vI (0 : Int))] j9.2).bind fun q31=>
(if q31.1 = 1 then
((sget q31.2.1 0).bind getB).bind fun b32=>
some (1,[some (.bool b32)],q31.2.2)
else
(if q31.1 = 4 then
j_ALII q31.2.1 fun d33 l34 n35 n36=>
some (0,[some (vA d33),some (vL l34.1 l34.2),some (vI n35),some (vI (IntKind.wrap .i64 (n36 + (1 : Int))))],q31.2.2)
else
none)))
else none)
else
some (2,[],h)) : Option (Nat × Slots × AH)):=by kernel_rfl
theorem r26 {base : Nat} {v0_0 : Option Addr} {v0_0n : Nat} {v0_1 : Option Addr} {v0_1n : Nat} {v0_2 : Int} {v0_3 : Option Addr} {v0_3n : Nat} {h : AH} {r : Value × AH} (hx : (nw1 h 36 [(vL v0_0 v0_0n),(vL v0_1 v0_1n),(vI v0_2),(vL v0_3 v0_3n)] fun h1=>
(((cell h1 (List.length h) 0).bind getS).bind fun l3=>
(run (Et base) 82 [(vL l3.1 l3.2)] h1).bind fun r4=>
((some r4.1).bind getB).bind fun b5=>
(if (!b5) = true then
some (.inl ([some (vP (List.length h)),some (.bool true)],r4.2))
else
((cell r4.2 (List.length h) 1).bind getS).bind fun l6=>
(if (decide (((l6.2 : Nat) : Int) > (20 : Int))) = true then
some (.inl ([some (vP (List.length h)),some (.bool true)],r4.2))
else
((cell r4.2 (List.length h) 2).bind (getI .i64)).bind fun n7=>
(run (Et base) 83 [(vI n7),(vI (1 : Int)),(vI (90000 : Int))] r4.2).bind fun r8=>
((some r8.1).bind getB).bind fun b9=>
(if (!b9) = true then
some (.inl ([some (vP (List.length h)),some (.bool true)],r8.2))
else
((cell r8.2 (List.length h) 3).bind getS).bind fun l10=>
(run (Et base) 86 [(vL l10.1 l10.2)] r8.2).bind fun r11=>
((some r11.1).bind getB).bind fun b12=>
some (.inl ([some (vP (List.length h)),some (.bool (!b12))],r11.2)))))).bind fun j2=>joinK j2 fun j2=>
j_AB j2.1 fun d13 b14=>
(if b14 = true then
some ((.bool false),j2.2)
else
((cell j2.2 d13.block (d13.off + 1)).bind getS).bind fun l15=>
(loopL (B26_0 base) [some (vA d13),some (vL l15.1 l15.2),some (vI ((l15.2 : Nat) : Int)),some (vI (0 : Int))] j2.2).bind fun q16=>
(if q16.1 = 1 then
((sget q16.2.1 0).bind getB).bind fun b17=>
some ((.bool b17),q16.2.2)
else
(if q16.1 = 2 then
some ((.bool true),q16.2.2)
else
none)))) = some r) : run (Et base) 26 [(.agg #[(vL v0_0 v0_0n),(vL v0_1 v0_1n),(vI v0_2),(vL v0_3 v0_3n)])] h = some r:=run_i (an:=a26) Try.func26 (by kernel_rfl) (.trans (by kernel_rfl) hx)
noncomputable def B27_0 (base : Nat) : Body:=fun l h=>lay s27_0 l fun s=>exCode (Et base) (run (Et base)) loopL a27_0 (subC [1,1,0,1,0,0] (bodyC Try.f27)) s h (keepK s27_0 e27_0)
theorem B27_0_eq (base : Nat) (v1 : Addr) (v3 : Int) (h : AH) : B27_0 base [some (vA v1),some (vI v3)] h =
(((cell h v1.block (v1.off + 1)).bind getS).bind fun l1=>
(if (decide (v3 < ((l1.2 : Nat) : Int))) = true then
((cell h v1.block (v1.off + 1)).bind getS).bind fun l2=>
(if 0≤v3∧v3 < ((l2.2 : Nat) : Int) then
((l2.1 : Option Addr)).bind fun a3=>
c_IILLL h a3.block (a3.off + Int.toNat v3 * 5) fun n4 n5 l6 l7 l8=>
nw1 h 54 [(vI 0),(vI 0),(vL none 0),(vL none 0),(vL none 0)] fun h9=>
(wr base h9 (List.length h) 0 [(vI n4),(vI n5),(vL l6.1 l6.2),(vL l7.1 l7.2),(vL l8.1 l8.2)]).bind fun h10=>
(((cell h10 v1.block (v1.off + 0)).bind getS).bind fun l12=>
c_IILLL h10 (List.length h) 0 fun n13 n14 l15 l16 l17=>
(run (Et base) 92 [(vL l12.1 l12.2),(.agg #[(vI n13),(vI n14),(vL l15.1 l15.2),(vL l16.1 l16.2),(vL l17.1 l17.2)])] h10).bind fun r18=>
((some r18.1).bind getB).bind fun b19=>
(if (!b19) = true then
some (.inl ([some (vA v1),some (vI v3),some (.bool true)],r18.2))
else
((cell r18.2 (List.length h) 0).bind (getI .i64)).bind fun n20=>
((cell r18.2 v1.block (v1.off + 2)).bind (getI .i64)).bind fun n21=>
(if (decide (n20 ≥ n21)) = true then
some (.inl ([some (vA v1),some (vI v3),some (.bool true)],r18.2))
else
(if (decide (v3 > (0 : Int))) = true then
((cell r18.2 v1.block (v1.off + 1)).bind getS).bind fun l22=>
(if 0≤(IntKind.wrap .i64 (v3 - (1 : Int)))∧(IntKind.wrap .i64 (v3 - (1 : Int))) < ((l22.2 : Nat) : Int) then
((l22.1 : Option Addr)).bind fun a23=>
((cell r18.2 a23.block ((a23.off + Int.toNat (IntKind.wrap .i64 (v3 - (1 : Int))) * 5) + 0)).bind (getI .i64)).bind fun n24=>
((cell r18.2 (List.length h) 0).bind (getI .i64)).bind fun n25=>
(if (decide (n24 ≥ n25)) = true then
some (.inl ([some (vA v1),some (vI v3),some (.bool true)],r18.2))
else
c_LLIL r18.2 v1.block v1.off fun l26 l27 n28 l29=>
(run (Et base) 93 [(.agg #[(vL l26.1 l26.2),(vL l27.1 l27.2),(vI n28),(vL l29.1 l29.2)]),(vI v3)] r18.2).bind fun r30=>
((some r30.1).bind getB).bind fun b31=>
some (.inl ([some (vA v1),some (vI v3),some (.bool (!b31))],r30.2)))
else none)
else
c_LLIL r18.2 v1.block v1.off fun l32 l33 n34 l35=>
(run (Et base) 93 [(.agg #[(vL l32.1 l32.2),(vL l33.1 l33.2),(vI n34),(vL l35.1 l35.2)]),(vI v3)] r18.2).bind fun r36=>
((some r36.1).bind getB).bind fun b37=>
some (.inl ([some (vA v1),some (vI v3),some (.bool (!b37))],r36.2)))))).bind fun j11=>joinK j11 fun j11=>
j_AIB j11.1 fun d38 n39 b40=>
(if b40 = true then
some (1,[some (.bool false)],j11.2)
else
some (0,[some (vA d38),some (vI (IntKind.wrap .i64 (n39 + (1 : Int))))],j11.2))
else none)
else
some (2,[],h)) : Option (Nat × Slots × AH)):=by kernel_rfl
theorem r27 {base : Nat} {v0_0 : Option Addr} {v0_0n : Nat} {v0_1 : Option Addr} {v0_1n : Nat} {v0_2 : Int} {v0_3 : Option Addr} {v0_3n : Nat} {h : AH} {r : Value × AH} (hx : (nw1 h 36 [(vL v0_0 v0_0n),(vL v0_1 v0_1n),(vI v0_2),(vL v0_3 v0_3n)] fun h1=>
(((cell h1 (List.length h) 0).bind getS).bind fun l3=>
(run (Et base) 89 [(vL l3.1 l3.2)] h1).bind fun r4=>
((some r4.1).bind getB).bind fun b5=>
(if (!b5) = true then
some (.inl ([some (vP (List.length h)),some (.bool true)],r4.2))
else
((cell r4.2 (List.length h) 2).bind (getI .i64)).bind fun n6=>
(run (Et base) 90 [(vI n6),(vI (1 : Int)),(vI (90000 : Int))] r4.2).bind fun r7=>
((some r7.1).bind getB).bind fun b8=>
(if (!b8) = true then
some (.inl ([some (vP (List.length h)),some (.bool true)],r7.2))
else
((cell r7.2 (List.length h) 1).bind getS).bind fun l9=>
(if (decide (((l9.2 : Nat) : Int) > (20 : Int))) = true then
some (.inl ([some (vP (List.length h)),some (.bool true)],r7.2))
else
((cell r7.2 (List.length h) 3).bind getS).bind fun l10=>
(run (Et base) 91 [(vL l10.1 l10.2)] r7.2).bind fun r11=>
((some r11.1).bind getB).bind fun b12=>
some (.inl ([some (vP (List.length h)),some (.bool (!b12))],r11.2)))))).bind fun j2=>joinK j2 fun j2=>
j_AB j2.1 fun d13 b14=>
(if b14 = true then
some ((.bool false),j2.2)
else
(loopL (B27_0 base) [some (vA d13),some (vI (0 : Int))] j2.2).bind fun q15=>
(if q15.1 = 1 then
((sget q15.2.1 0).bind getB).bind fun b16=>
some ((.bool b16),q15.2.2)
else
(if q15.1 = 2 then
some ((.bool true),q15.2.2)
else
none)))) = some r) : run (Et base) 27 [(.agg #[(vL v0_0 v0_0n),(vL v0_1 v0_1n),(vI v0_2),(vL v0_3 v0_3n)])] h = some r:=run_i (an:=a27) Try.func27 (by kernel_rfl) (.trans (by kernel_rfl) hx)
theorem r58 {base : Nat} {v0_0 : Int} {v0_1 : Int} {v0_2 : ByteArray} {v0_3 : Option Addr} {v0_3n : Nat} {h : AH} {r : Value × AH} (hx : ((some (h++[some ⟨[(.int .i64 v0_0),(.int .i64 v0_1),(.string v0_2),(.slice v0_3 v0_3n v0_3n)],42⟩])).bind fun h1=>
((cell h1 (List.length h) 0).bind (getI .i64)).bind fun n2=>
((cell h1 (List.length h) 1).bind (getI .i64)).bind fun n3=>
((cell h1 (List.length h) 2).bind getStr).bind fun s4=>
((cell h1 (List.length h) 3).bind getS).bind fun l5=>
(run (Et base) 117 [(.agg #[(.int .i64 n2),(.int .i64 n3),(.string s4),(.slice l5.1 l5.2 l5.2)]),(.int .i64 (6 : Int)),(.int .i64 (100 : Int))] h1).bind fun r6=>
((some r6.1).bind (getI .i64)).bind fun n7=>
some ((.bool (decide (n7 ≥ (0 : Int)))),r6.2)) = some r) : run (Et base) 58 [(.agg #[(vI v0_0),(vI v0_1),(vT v0_2),(vL v0_3 v0_3n)])] h = some r:=run_i (an:=a58) Try.func58 (by kernel_rfl) (.trans (by kernel_rfl) hx)
noncomputable abbrev qf59 (base : Nat) (v0 : Option Addr) (v1 : Int) (v2_0 : Int) (v2_1 : Int) (v2_2 : ByteArray) (v2_3 : Option Addr) (v2_3n : Nat) (h : AH) : Option (Value × AH):=
nw1 h 42 [(vI v2_0),(vI v2_1),(vT v2_2),(vL v2_3 v2_3n)] fun h1=>
(v0).bind fun a2=>
c_LLIL h1 a2.block a2.off fun l3 l4 n5 l6=>
(run (Et base) 118 [(.agg #[(vL l3.1 l3.2),(vL l4.1 l4.2),(vI n5),(vL l6.1 l6.2)]),(vI v1)] h1).bind fun r7=>
((some r7.1).bind (getI .i64)).bind fun n8=>
((if (decide (n8 < (0 : Int))) = true then
some (.inl ([some (.pointer v0),some (vP (List.length h)),some (vI n8),some (.bool true)],r7.2))
else
(v0).bind fun a10=>
((cell r7.2 a10.block (a10.off + 1)).bind getS).bind fun l11=>
(if 0≤n8∧n8 < ((l11.2 : Nat) : Int) then
((l11.1 : Option Addr)).bind fun a12=>
((cell r7.2 a12.block ((a12.off + Int.toNat n8 * 5) + 3)).bind getS).bind fun l13=>
some (.inl ([some (.pointer v0),some (vP (List.length h)),some (vI n8),some (.bool (decide (((l13.2 : Nat) : Int) ≥ (30 : Int))))],r7.2))
else none))).bind fun j9=>joinK j9 fun j9=>
j_PAIB j9.1 fun p14 d15 n16 b17=>
(if b17 = true then
some ((.bool false),j9.2)
else
(p14).bind fun a18=>
((cell j9.2 a18.block (a18.off + 1)).bind getS).bind fun l19=>
(gate (neA (some ⟨a18.block,(a18.off + 1),none⟩) (List.length j9.2))
(nw1 j9.2 42 [] fun h20=>
(p14).bind fun a21=>
(gate (neA (some ⟨a21.block,(a21.off + 1),none⟩) (List.length j9.2))
(((cell h20 a21.block (a21.off + 1)).bind getS).bind fun l22=>
(if 0≤n16∧n16 < ((l22.2 : Nat) : Int) then
((l22.1 : Option Addr)).bind fun a23=>
(gate (neA (some ⟨a23.block,((a23.off + Int.toNat n16 * 5) + 3),none⟩) (List.length j9.2))
(((cell h20 a23.block ((a23.off + Int.toNat n16 * 5) + 3)).bind getS).bind fun l24=>
(app base h20 42 4 56 (some ⟨(List.length j9.2),0,none⟩) 0 (rawAt h20 l24.1 (l24.2 * 4)) l24.2).bind fun p25=>
((some p25.1).bind getS).bind fun l26=>
(gate (sameA h20 p25.2 (some ⟨a18.block,(a18.off + 1),none⟩) 1)
((gate (neA (some d15) (List.length j9.2))
((gate (sameA h20 p25.2 (some d15) 4)
(c_IITL p25.2 d15.block d15.off fun n27 n28 s29 l30=>
(run (Et base) 116 [(.agg #[(vI n27),(vI n28),(vT s29),(vL l30.1 l30.2)])] p25.2).bind fun r31=>
gG (some r31.1) 4 fun l32=>
l_IITL l32 fun n33 n34 s35 l36=>
(gate (sameA p25.2 r31.2 (some ⟨a18.block,(a18.off + 1),none⟩) 1)
((gate (neA (some ⟨a18.block,(a18.off + 1),none⟩) (List.length r31.2))
(nw1 r31.2 42 [(vI n33),(vI n34),(vT s35),(vL l36.1 l36.2)] fun h37=>
(app base h37 42 4 56 l26.1 l26.2 (rawAt h37 (some ⟨(List.length r31.2),0,none⟩) (1 * 4)) 1).bind fun p38=>
((some p38.1).bind getS).bind fun l39=>
(gate (sameA h37 p38.2 (some ⟨a18.block,(a18.off + 1),none⟩) 1)
((if 0≤n16∧n16 < ((l19.2 : Nat) : Int) then
((l19.1 : Option Addr)).bind fun a40=>
(wr base p38.2 a40.block ((a40.off + Int.toNat n16 * 5) + 3) [(vL l39.1 l39.2)]).bind fun h41=>
some ((.bool true),h41)
else none)))))))))))))))
else none))))))
theorem r59 {base : Nat} {v0 : Option Addr} {v1 : Int} {v2_0 : Int} {v2_1 : Int} {v2_2 : ByteArray} {v2_3 : Option Addr} {v2_3n : Nat} {h : AH} {r : Value × AH} (hx : qf59 base v0 v1 v2_0 v2_1 v2_2 v2_3 v2_3n h = some r) : run (Et base) 59 [(.pointer v0),(vI v1),(.agg #[(vI v2_0),(vI v2_1),(vT v2_2),(vL v2_3 v2_3n)])] h = some r:=run_i (an:=a59) Try.func59 (by kernel_rfl) (.trans (by kernel_rfl) hx)
theorem r65 {base : Nat} {v0_0 : Int} {v0_1 : Int} {v0_2 : ByteArray} {v0_3 : Option Addr} {v0_3n : Nat} {h : AH} {r : Value × AH} (hx : ((some (h++[some ⟨[(.int .i64 v0_0),(.int .i64 v0_1),(.string v0_2),(.slice v0_3 v0_3n v0_3n)],42⟩])).bind fun h1=>
((cell h1 (List.length h) 0).bind (getI .i64)).bind fun n2=>
((cell h1 (List.length h) 1).bind (getI .i64)).bind fun n3=>
((cell h1 (List.length h) 2).bind getStr).bind fun s4=>
((cell h1 (List.length h) 3).bind getS).bind fun l5=>
(run (Et base) 124 [(.agg #[(.int .i64 n2),(.int .i64 n3),(.string s4),(.slice l5.1 l5.2 l5.2)]),(.int .i64 (1 : Int)),(.int .i64 (0 : Int))] h1).bind fun r6=>
(getTup 2 r6.1).bind fun l7=>
((l7[0]?).bind (getI .i64)).bind fun n8=>
((l7[1]?).bind getB).bind fun b9=>
some ((.bool b9),r6.2)) = some r) : run (Et base) 65 [(.agg #[(vI v0_0),(vI v0_1),(vT v0_2),(vL v0_3 v0_3n)])] h = some r:=run_i (an:=a65) Try.func65 (by kernel_rfl) (.trans (by kernel_rfl) hx)
noncomputable def B78_0 (base : Nat) : Body:=fun l h=>lay s78_0 l fun s=>exCode (Et base) (run (Et base)) loopL a78_0 (subC [1,1,0,1,0,0] (bodyC Try.f78)) s h (keepK s78_0 e78_0)
theorem B78_0_eq (base : Nat) (v0 : Option Addr) (v0n : Nat) (v3 : Int) (v4 : Int) (h : AH) : B78_0 base [some (vL v0 v0n),some (vI v3),some (vI v4)] h =
(((if (decide (v4 < ((v0n : Nat) : Int))) = true then
some (.inl ([some (.slice v0 v0n v0n),some (.int .i64 v3),some (.int .i64 v4),some (.bool (decide (v4 < (4000 : Int))))],h))
else
some (.inl ([some (.slice v0 v0n v0n),some (.int .i64 v3),some (.int .i64 v4),some (.bool false)],h)))).bind fun j1=>joinK j1 fun j1=>
((sget j1.1 0).bind getS).bind fun l2=>
((sget (j1.1.tail) 0).bind (getI .i64)).bind fun n3=>
((sget (j1.1.tail.tail) 0).bind (getI .i64)).bind fun n4=>
((sget (j1.1.tail.tail.tail) 0).bind getB).bind fun b5=>
(if b5 = true then
(if 0≤n4∧n4 < ((l2.2 : Nat) : Int) then
((l2.1 : Option Addr)).bind fun a6=>
((cell j1.2 a6.block (a6.off + Int.toNat n4 * 1)).bind (getI .u8)).bind fun n7=>
some (0,[some (.slice l2.1 l2.2 l2.2),some (.int .i64 (Go.bits .and .i64 (IntKind.wrap .i64 ((IntKind.wrap .i64 ((IntKind.wrap .i64 (n3 * (137 : Int))) + (IntKind.wrap .i64 n7))) + (11 : Int))) (1073741823 : Int))),some (.int .i64 (IntKind.wrap .i64 (n4 + (1 : Int))))],j1.2)
else none)
else
some (2,[some (.slice l2.1 l2.2 l2.2),some (.int .i64 n3)],j1.2)) : Option (Nat × Slots × AH)):=by kernel_rfl
theorem r78 {base : Nat} {v0 : Option Addr} {v0n : Nat} {h : AH} {r : Value × AH} (hx : ((loopL (B78_0 base) [some (.slice v0 v0n v0n),some (.int .i64 (IntKind.wrap .i64 ((384384 : Int) + ((v0n : Nat) : Int)))),some (.int .i64 (0 : Int))] h).bind fun q1=>
(if q1.1 = 2 then
((sget q1.2.1 0).bind getS).bind fun l2=>
((sget (q1.2.1.tail) 0).bind (getI .i64)).bind fun n3=>
(some (q1.2.2++[some ⟨[(.slice l2.1 l2.2 l2.2),(.int .i64 (0 : Int)),(.int .i64 n3)],154⟩])).bind fun h4=>
some ((.pointer (some ⟨(List.length q1.2.2),0,none⟩)),h4)
else
none)) = some r) : run (Et base) 78 [(vL v0 v0n)] h = some r:=run_i (an:=a78) Try.func78 (by kernel_rfl) (.trans (by kernel_rfl) hx)
noncomputable def B79_0 (base : Nat) : Body:=fun l h=>lay s79_0 l fun s=>exCode (Et base) (run (Et base)) loopL a79_0 (subC [1,1,0,1,0,0] (bodyC Try.f79)) s h (keepK s79_0 e79_0)
theorem B79_0_eq (base : Nat) (v0 : Option Addr) (v4 : Addr) (v5 : Addr) (v7 : Int) (h : AH) : B79_0 base [some (.pointer v0),some (vA v4),some (vA v5),some (vI v7)] h =
((if (decide (v7 > (0 : Int))) = true then
(run (Et base) 134 [(.pointer v0),(.pointer (some v5))] h).bind fun r1=>
(getTup 0 r1.1).bind fun _=>
some (0,[some (.pointer v0),some (.pointer (some v4)),some (.pointer (some v5)),some (.int .i64 (IntKind.wrap .i64 (v7 - (1 : Int))))],r1.2)
else
some (2,[some (.pointer (some v4)),some (.pointer (some v5))],h)) : Option (Nat × Slots × AH)):=by kernel_rfl
theorem r79 {base : Nat} {v0 : Option Addr} {v1 : Int} {h : AH} {r : Value × AH} (hx : (nw1 h 36 [(vL none 0),(vL none 0),(vI 0),(vL none 0)] fun h1=>
(run (Et base) 131 [(.pointer v0)] h1).bind fun r2=>
((some r2.1).bind getS).bind fun l3=>
(run (Et base) 132 [(.pointer v0),(vI (1 : Int))] r2.2).bind fun r4=>
gG (some r4.1) 4 fun l5=>
l_IITL l5 fun n6 n7 s8 l9=>
(run (Et base) 130 [(vL l3.1 l3.2),(.agg #[(vI n6),(vI n7),(vT s8),(vL l9.1 l9.2)])] r4.2).bind fun r10=>
(getTup 2 r10.1).bind fun l11=>
gG (l11[0]?) 4 fun l12=>
l_LLIL l12 fun l13 l14 n15 l16=>
((l11[1]?).bind getB).bind fun b17=>
nw1 r10.2 36 [(vL none 0),(vL none 0),(vI 0),(vL none 0)] fun h18=>
(wr base h18 (List.length r10.2) 0 [(vL l13.1 l13.2),(vL l14.1 l14.2),(vI n15),(vL l16.1 l16.2)]).bind fun h19=>
(run (Et base) 133 [(.pointer v0),(vI v1)] h19).bind fun r20=>
((some r20.1).bind (getI .i64)).bind fun n21=>
(loopL (B79_0 base) [some (.pointer v0),some (vP (List.length h)),some (vP (List.length r10.2)),some (vI n21)] r20.2).bind fun q22=>
(if q22.1 = 2 then
j_AA q22.2.1 fun d23 d24=>
c_LLIL q22.2.2 d24.block d24.off fun l25 l26 n27 l28=>
(wr base q22.2.2 d23.block d23.off [(vL l25.1 l25.2),(vL l26.1 l26.2),(vI n27),(vL l28.1 l28.2)]).bind fun h29=>
c_LLIL h29 d23.block d23.off fun l30 l31 n32 l33=>
some ((.agg #[(vL l30.1 l30.2),(vL l31.1 l31.2),(vI n32),(vL l33.1 l33.2)]),h29)
else
none)) = some r) : run (Et base) 79 [(.pointer v0),(vI v1)] h = some r:=run_i (an:=a79) Try.func79 (by kernel_rfl) (.trans (by kernel_rfl) hx)
theorem r80 {base : Nat} {v0 : Option Addr} {v0n : Nat} {v1 : Int} {h : AH} {r : Value × AH} (hx : ((if (decide ((IntKind.wrap .i64 ((3 : Int) + (IntKind.wrap .i64 (Int.tdiv ((v0n : Nat) : Int) (12 : Int))))) > v1)) = true then
some ((.int .i64 v1),h)
else
some ((.int .i64 (IntKind.wrap .i64 ((3 : Int) + (IntKind.wrap .i64 (Int.tdiv ((v0n : Nat) : Int) (12 : Int)))))),h))) = some r) : run (Et base) 80 [(vL v0 v0n),(vI v1)] h = some r:=run_i (an:=a80) Try.func80 (by kernel_rfl) (.trans (by kernel_rfl) hx)
noncomputable abbrev qf81 (base : Nat) (v0 : Option Addr) (v1 : Int) (h : AH) : Option (Value × AH):=
nw1 h 36 [(vL none 0),(vL none 0),(vI 0),(vL none 0)] fun h1=>
(run (Et base) 79 [(.pointer v0),(vI v1)] h1).bind fun r2=>
gG (some r2.1) 4 fun l3=>
l_LLIL l3 fun l4 l5 n6 l7=>
nw1 r2.2 36 [(vL none 0),(vL none 0),(vI 0),(vL none 0)] fun h8=>
(wr base h8 (List.length r2.2) 0 [(vL l4.1 l4.2),(vL l5.1 l5.2),(vI n6),(vL l7.1 l7.2)]).bind fun h9=>
((run (Et base) 133 [(.pointer v0),(vI (14 : Int))] h9).bind fun r11=>
((some r11.1).bind (getI .i64)).bind fun n12=>
(if (n12 == (0 : Int)) = true then
nw1 r11.2 3 [(vI (0 : Int)),(vI (1 : Int)),(vI (90000 : Int)),(vI (90001 : Int))] fun h13=>
(run (Et base) 135 [(.pointer v0),(vL (some ⟨(List.length r11.2),0,none⟩) 4)] h13).bind fun r14=>
((some r14.1).bind (getI .i64)).bind fun n15=>
(wr base r14.2 (List.length r2.2) 2 [(vI n15)]).bind fun h16=>
some (.inl ([some (vP (List.length h)),some (vP (List.length r2.2))],h16))
else
(if (n12 == (1 : Int)) = true then
(run (Et base) 136 [(.pointer v0)] r11.2).bind fun r17=>
((some r17.1).bind getS).bind fun l18=>
(wr base r17.2 (List.length r2.2) 0 [(vL l18.1 l18.2)]).bind fun h19=>
some (.inl ([some (vP (List.length h)),some (vP (List.length r2.2))],h19))
else
(if (n12 == (2 : Int)) = true then
((cell r11.2 (List.length r2.2) 1).bind getS).bind fun l20=>
(if (decide (((l20.2 : Nat) : Int) > (0 : Int))) = true then
((cell r11.2 (List.length r2.2) 1).bind getS).bind fun l21=>
((cell r11.2 (List.length r2.2) 0).bind getS).bind fun l22=>
(run (Et base) 137 [(.pointer v0),(vL l22.1 l22.2)] r11.2).bind fun r23=>
gG (some r23.1) 5 fun l24=>
l_IILLL l24 fun n25 n26 l27 l28 l29=>
(gate (sameA r11.2 r23.2 (some ⟨(List.length r2.2),1,none⟩) 1)
((if 0≤(0 : Int)∧(0 : Int) < ((l21.2 : Nat) : Int) then
((l21.1 : Option Addr)).bind fun a30=>
(wr base r23.2 a30.block (a30.off + Int.toNat (0 : Int) * 5) [(vI n25),(vI n26),(vL l27.1 l27.2),(vL l28.1 l28.2),(vL l29.1 l29.2)]).bind fun h31=>
some (.inl ([some (vP (List.length h)),some (vP (List.length r2.2))],h31))
else none)))
else
some (.inl ([some (vP (List.length h)),some (vP (List.length r2.2))],r11.2)))
else
(if (n12 == (3 : Int)) = true then
((cell r11.2 (List.length r2.2) 3).bind getS).bind fun l32=>
(run (Et base) 133 [(.pointer v0),(vI (5 : Int))] r11.2).bind fun r33=>
((some r33.1).bind (getI .i64)).bind fun n34=>
(gate (sameA r11.2 r33.2 (some ⟨(List.length r2.2),3,none⟩) 1)
((run (Et base) 133 [(.pointer v0),(vI (3 : Int))] r33.2).bind fun r35=>
((some r35.1).bind (getI .i64)).bind fun n36=>
(gate (sameA r33.2 r35.2 (some ⟨(List.length r2.2),3,none⟩) 1)
((run (Et base) 138 [(.pointer v0)] r35.2).bind fun r37=>
gG (some r37.1) 4 fun l38=>
l_IITL l38 fun n39 n40 s41 l42=>
(gate (sameA r35.2 r37.2 (some ⟨(List.length r2.2),3,none⟩) 1)
((gate (neA (some ⟨(List.length r2.2),3,none⟩) (List.length r37.2))
(nw1 r37.2 140 [(vI n34),(vI n36),(vI n39),(vI n40),(vT s41),(vL l42.1 l42.2)] fun h43=>
(app base h43 140 6 72 l32.1 l32.2 (rawAt h43 (some ⟨(List.length r37.2),0,none⟩) (1 * 6)) 1).bind fun p44=>
((some p44.1).bind getS).bind fun l45=>
(wr base p44.2 (List.length r2.2) 3 [(vL l45.1 l45.2)]).bind fun h46=>
some (.inl ([some (vP (List.length h)),some (vP (List.length r2.2))],h46))))))))))
else
some (.inl ([some (vP (List.length h)),some (vP (List.length r2.2))],r11.2))))))).bind fun j10=>joinK j10 fun j10=>
j_AA j10.1 fun d47 d48=>
c_LLIL j10.2 d48.block d48.off fun l49 l50 n51 l52=>
(wr base j10.2 d47.block d47.off [(vL l49.1 l49.2),(vL l50.1 l50.2),(vI n51),(vL l52.1 l52.2)]).bind fun h53=>
c_LLIL h53 d47.block d47.off fun l54 l55 n56 l57=>
some ((.agg #[(vL l54.1 l54.2),(vL l55.1 l55.2),(vI n56),(vL l57.1 l57.2)]),h53)
theorem r81 {base : Nat} {v0 : Option Addr} {v1 : Int} {h : AH} {r : Value × AH} (hx : qf81 base v0 v1 h = some r) : run (Et base) 81 [(.pointer v0),(vI v1)] h = some r:=run_i (an:=a81) Try.func81 (by kernel_rfl) (.trans (by kernel_rfl) hx)
noncomputable def B82_0 (base : Nat) : Body:=fun l h=>lay s82_0 l fun s=>exCode (Et base) (run (Et base)) loopL a82_0 (subC [1,1,0,1,0,0] (bodyC Try.f82)) s h (keepK s82_0 e82_0)
theorem B82_0_eq (base : Nat) (v0 : Option Addr) (v0n : Nat) (v3 : Int) (v8 : Option Addr) (v8n : Nat) (v9 : Int) (v10 : Int) (h : AH) : B82_0 base [some (vL v0 v0n),some (vI v3),some (vL v8 v8n),some (vI v9),some (vI v10)] h =
((if (decide (v10 < v9)) = true then
(if 0≤v10∧v10 < ((v8n : Nat) : Int) then
((v8 : Option Addr)).bind fun a1=>
c_IIIIIT h a1.block (a1.off + Int.toNat v10 * 6) fun n2 n3 n4 n5 n6 s7=>
nw1 h 143 [(vI 0),(vI 0),(vI 0),(vI 0),(vI 0),(vT ⟨#[]⟩)] fun h8=>
(wr base h8 (List.length h) 0 [(vI n2),(vI n3),(vI n4),(vI n5),(vI n6),(vT s7)]).bind fun h9=>
c_IIIIIT h9 (List.length h) 0 fun n10 n11 n12 n13 n14 s15=>
(run (Et base) 139 [(.agg #[(vI n10),(vI n11),(vI n12),(vI n13),(vI n14),(vT s15)]),(vI v3)] h9).bind fun r16=>
((some r16.1).bind getB).bind fun b17=>
(if (!b17) = true then
some (1,[some (.bool false)],r16.2)
else
some (0,[some (vL v0 v0n),some (vI v3),some (vL v8 v8n),some (vI v9),some (vI (IntKind.wrap .i64 (v10 + (1 : Int))))],r16.2))
else none)
else
some (2,[some (vL v0 v0n),some (vI v3)],h)) : Option (Nat × Slots × AH)):=by kernel_rfl
theorem r82 {base : Nat} {v0 : Option Addr} {v0n : Nat} {h : AH} {r : Value × AH} (hx : ((loopL (B82_0 base) [some (.slice v0 v0n v0n),some (.int .i64 ((v0n : Nat) : Int)),some (.slice v0 v0n v0n),some (.int .i64 ((v0n : Nat) : Int)),some (.int .i64 (0 : Int))] h).bind fun q1=>
(if q1.1 = 1 then
((sget q1.2.1 0).bind getB).bind fun b2=>
some ((.bool b2),q1.2.2)
else
(if q1.1 = 2 then
((sget q1.2.1 0).bind getS).bind fun l3=>
((sget (q1.2.1.tail) 0).bind (getI .i64)).bind fun n4=>
(run (Et base) 83 [(.int .i64 n4),(.int .i64 (1 : Int)),(.int .i64 (200 : Int))] q1.2.2).bind fun r5=>
((some r5.1).bind getB).bind fun b6=>
(if b6 = true then
(if 0≤(IntKind.wrap .i64 (n4 - (1 : Int)))∧(IntKind.wrap .i64 (n4 - (1 : Int))) < ((l3.2 : Nat) : Int) then
((l3.1 : Option Addr)).bind fun a7=>
((cell r5.2 a7.block ((a7.off + Int.toNat (IntKind.wrap .i64 (n4 - (1 : Int))) * 6) + 0)).bind (getI .i64)).bind fun n8=>
(if (n8 == (19 : Int)) = true then
some ((.bool true),r5.2)
else
(if 0≤(IntKind.wrap .i64 (n4 - (1 : Int)))∧(IntKind.wrap .i64 (n4 - (1 : Int))) < ((l3.2 : Nat) : Int) then
((l3.1 : Option Addr)).bind fun a9=>
((cell r5.2 a9.block ((a9.off + Int.toNat (IntKind.wrap .i64 (n4 - (1 : Int))) * 6) + 0)).bind (getI .i64)).bind fun n10=>
some ((.bool (n10 == (12 : Int))),r5.2)
else none))
else none)
else
some ((.bool false),r5.2))
else
none))) = some r) : run (Et base) 82 [(vL v0 v0n)] h = some r:=run_i (an:=a82) Try.func82 (by kernel_rfl) (.trans (by kernel_rfl) hx)
theorem r83 {base : Nat} {v0 : Int} {v1 : Int} {v2 : Int} {h : AH} {r : Value × AH} (hx : ((if (decide (v0 ≥ v1)) = true then
some ((.bool (decide (v0≤v2))),h)
else
some ((.bool false),h))) = some r) : run (Et base) 83 [(vI v0),(vI v1),(vI v2)] h = some r:=run_i (an:=a83) Try.func83 (by kernel_rfl) (.trans (by kernel_rfl) hx)
noncomputable def B84_0 (base : Nat) : Body:=fun l h=>lay s84_0 l fun s=>exCode (Et base) (run (Et base)) loopL a84_0 (subC [1,0,1,0,0] (bodyC Try.f84)) s h (keepK s84_0 e84_0)
theorem B84_0_eq (base : Nat) (v5 : Option Addr) (v5n : Nat) (v6 : Int) (v7 : Int) (h : AH) : B84_0 base [some (vL v5 v5n),some (vI v6),some (vI v7)] h =
((if (decide (v7 < v6)) = true then
(if 0≤v7∧v7 < ((v5n : Nat) : Int) then
((v5 : Option Addr)).bind fun a1=>
((cell h a1.block (a1.off + Int.toNat v7 * 4)).bind (getI .i64)).bind fun n2=>
((cell h a1.block ((a1.off + Int.toNat v7 * 4) + 1)).bind (getI .i64)).bind fun n3=>
((cell h a1.block (((a1.off + Int.toNat v7 * 4) + 1) + 1)).bind getStr).bind fun s4=>
((cell h a1.block ((((a1.off + Int.toNat v7 * 4) + 1) + 1) + 1)).bind getS).bind fun l5=>
(some (h++[some ⟨[(.int .i64 0),(.int .i64 0),(.string ⟨#[]⟩),(.slice none 0 0)],42⟩])).bind fun h6=>
(wr base h6 (List.length h) 0 [(.int .i64 n2),(.int .i64 n3),(.string s4),(.slice l5.1 l5.2 l5.2)]).bind fun h7=>
((cell h7 (List.length h) 0).bind (getI .i64)).bind fun n8=>
((cell h7 (List.length h) 1).bind (getI .i64)).bind fun n9=>
((cell h7 (List.length h) 2).bind getStr).bind fun s10=>
((cell h7 (List.length h) 3).bind getS).bind fun l11=>
(run (Et base) 65 [(.agg #[(.int .i64 n8),(.int .i64 n9),(.string s10),(.slice l11.1 l11.2 l11.2)])] h7).bind fun r12=>
((some r12.1).bind getB).bind fun b13=>
(if (!b13) = true then
some (1,[some (.bool false)],r12.2)
else
some (0,[some (.slice v5 v5n v5n),some (.int .i64 v6),some (.int .i64 (IntKind.wrap .i64 (v7 + (1 : Int))))],r12.2))
else none)
else
some (2,[],h)) : Option (Nat × Slots × AH)):=by kernel_rfl
theorem r84 {base : Nat} {v0 : Option Addr} {v0n : Nat} {h : AH} {r : Value × AH} (hx : ((loopL (B84_0 base) [some (.slice v0 v0n v0n),some (.int .i64 ((v0n : Nat) : Int)),some (.int .i64 (0 : Int))] h).bind fun q1=>
(if q1.1 = 1 then
((sget q1.2.1 0).bind getB).bind fun b2=>
some ((.bool b2),q1.2.2)
else
(if q1.1 = 2 then
some ((.bool true),q1.2.2)
else
none))) = some r) : run (Et base) 84 [(vL v0 v0n)] h = some r:=run_i (an:=a84) Try.func84 (by kernel_rfl) (.trans (by kernel_rfl) hx)
noncomputable def B85_0 (base : Nat) : Body:=fun l h=>lay s85_0 l fun s=>exCode (Et base) (run (Et base)) loopL a85_0 (subC [1,0,1,0,0] (bodyC Try.f85)) s h (keepK s85_0 e85_0)
theorem B85_0_eq (base : Nat) (v0 : Option Addr) (v0n : Nat) (v1 : Int) (v7 : Option Addr) (v7n : Nat) (v8 : Int) (v9 : Int) (h : AH) : B85_0 base [some (vL v0 v0n),some (vI v1),some (vL v7 v7n),some (vI v8),some (vI v9)] h =
((if (decide (v9 < v8)) = true then
(if 0≤v9∧v9 < ((v7n : Nat) : Int) then
((v7 : Option Addr)).bind fun a1=>
((cell h a1.block (a1.off + Int.toNat v9 * 1)).bind (getI .i64)).bind fun n2=>
((run (Et base) 83 [(vI n2),(vI (1 : Int)),(vI (99999 : Int))] h).bind fun r4=>
((some r4.1).bind getB).bind fun b5=>
(if (!b5) = true then
some (.inl ([some (vL v0 v0n),some (vI v1),some (vL v7 v7n),some (vI v8),some (vI v9),some (.bool true)],r4.2))
else
(if (n2 == v1) = true then
some (.inl ([some (vL v0 v0n),some (vI v1),some (vL v7 v7n),some (vI v8),some (vI v9),some (.bool true)],r4.2))
else
(if (decide (v9 > (0 : Int))) = true then
(if 0≤(IntKind.wrap .i64 (v9 - (1 : Int)))∧(IntKind.wrap .i64 (v9 - (1 : Int))) < ((v0n : Nat) : Int) then
((v0 : Option Addr)).bind fun a6=>
((cell r4.2 a6.block (a6.off + Int.toNat (IntKind.wrap .i64 (v9 - (1 : Int))) * 1)).bind (getI .i64)).bind fun n7=>
some (.inl ([some (vL v0 v0n),some (vI v1),some (vL v7 v7n),some (vI v8),some (vI v9),some (.bool (decide (n7 ≥ n2)))],r4.2))
else none)
else
some (.inl ([some (vL v0 v0n),some (vI v1),some (vL v7 v7n),some (vI v8),some (vI v9),some (.bool false)],r4.2)))))).bind fun j3=>joinK j3 fun j3=>
j_LILIIB j3.1 fun l8 n9 l10 n11 n12 b13=>
(if b13 = true then
some (1,[some (.bool false)],j3.2)
else
some (0,[some (vL l8.1 l8.2),some (vI n9),some (vL l10.1 l10.2),some (vI n11),some (vI (IntKind.wrap .i64 (n12 + (1 : Int))))],j3.2))
else none)
else
some (2,[some (vL v0 v0n)],h)) : Option (Nat × Slots × AH)):=by kernel_rfl
theorem r85 {base : Nat} {v0 : Option Addr} {v0n : Nat} {v1 : Int} {h : AH} {r : Value × AH} (hx : ((loopL (B85_0 base) [some (.slice v0 v0n v0n),some (.int .i64 v1),some (.slice v0 v0n v0n),some (.int .i64 ((v0n : Nat) : Int)),some (.int .i64 (0 : Int))] h).bind fun q1=>
(if q1.1 = 1 then
((sget q1.2.1 0).bind getB).bind fun b2=>
some ((.bool b2),q1.2.2)
else
(if q1.1 = 2 then
((sget q1.2.1 0).bind getS).bind fun l3=>
some ((.bool (decide (((l3.2 : Nat) : Int)≤(50 : Int)))),q1.2.2)
else
none))) = some r) : run (Et base) 85 [(vL v0 v0n),(vI v1)] h = some r:=run_i (an:=a85) Try.func85 (by kernel_rfl) (.trans (by kernel_rfl) hx)
noncomputable def B86_0 (base : Nat) : Body:=fun l h=>lay s86_0 l fun s=>exCode (Et base) (run (Et base)) loopL a86_0 (subC [1,0,1,0,0] (bodyC Try.f86)) s h (keepK s86_0 e86_0)
theorem B86_0_eq (base : Nat) (v0 : Option Addr) (v0n : Nat) (v5 : Option Addr) (v5n : Nat) (v6 : Int) (v7 : Int) (h : AH) : B86_0 base [some (vL v0 v0n),some (vL v5 v5n),some (vI v6),some (vI v7)] h =
((if (decide (v7 < v6)) = true then
(if 0≤v7∧v7 < ((v5n : Nat) : Int) then
((v5 : Option Addr)).bind fun a1=>
c_IIIITL h a1.block (a1.off + Int.toNat v7 * 6) fun n2 n3 n4 n5 s6 l7=>
nw1 h 140 [(vI 0),(vI 0),(vI 0),(vI 0),(vT ⟨#[]⟩),(vL none 0)] fun h8=>
(wr base h8 (List.length h) 0 [(vI n2),(vI n3),(vI n4),(vI n5),(vT s6),(vL l7.1 l7.2)]).bind fun h9=>
(((cell h9 (List.length h) 0).bind (getI .i64)).bind fun n11=>
(run (Et base) 83 [(vI n11),(vI (1 : Int)),(vI (3 : Int))] h9).bind fun r12=>
((some r12.1).bind getB).bind fun b13=>
(if (!b13) = true then
some (.inl ([some (vL v0 v0n),some (vL v5 v5n),some (vI v6),some (vI v7),some (.bool true)],r12.2))
else
((cell r12.2 (List.length h) 1).bind (getI .i64)).bind fun n14=>
(run (Et base) 83 [(vI n14),(vI (1 : Int)),(vI (99999 : Int))] r12.2).bind fun r15=>
((some r15.1).bind getB).bind fun b16=>
(if (!b16) = true then
some (.inl ([some (vL v0 v0n),some (vL v5 v5n),some (vI v6),some (vI v7),some (.bool true)],r15.2))
else
c_IITL r15.2 (List.length h) 2 fun n17 n18 s19 l20=>
(run (Et base) 65 [(.agg #[(vI n17),(vI n18),(vT s19),(vL l20.1 l20.2)])] r15.2).bind fun r21=>
((some r21.1).bind getB).bind fun b22=>
some (.inl ([some (vL v0 v0n),some (vL v5 v5n),some (vI v6),some (vI v7),some (.bool (!b22))],r21.2))))).bind fun j10=>joinK j10 fun j10=>
j_LLIIB j10.1 fun l23 l24 n25 n26 b27=>
(if b27 = true then
some (1,[some (.bool false)],j10.2)
else
some (0,[some (vL l23.1 l23.2),some (vL l24.1 l24.2),some (vI n25),some (vI (IntKind.wrap .i64 (n26 + (1 : Int))))],j10.2))
else none)
else
some (2,[some (vL v0 v0n)],h)) : Option (Nat × Slots × AH)):=by kernel_rfl
theorem r86 {base : Nat} {v0 : Option Addr} {v0n : Nat} {h : AH} {r : Value × AH} (hx : ((loopL (B86_0 base) [some (.slice v0 v0n v0n),some (.slice v0 v0n v0n),some (.int .i64 ((v0n : Nat) : Int)),some (.int .i64 (0 : Int))] h).bind fun q1=>
(if q1.1 = 1 then
((sget q1.2.1 0).bind getB).bind fun b2=>
some ((.bool b2),q1.2.2)
else
(if q1.1 = 2 then
((sget q1.2.1 0).bind getS).bind fun l3=>
some ((.bool (decide (((l3.2 : Nat) : Int)≤(500 : Int)))),q1.2.2)
else
none))) = some r) : run (Et base) 86 [(vL v0 v0n)] h = some r:=run_i (an:=a86) Try.func86 (by kernel_rfl) (.trans (by kernel_rfl) hx)
noncomputable def B87_0 (base : Nat) : Body:=fun l h=>lay s87_0 l fun s=>exCode (Et base) (run (Et base)) loopL a87_0 (subC [1,0,1,0,0] (bodyC Try.f87)) s h (keepK s87_0 e87_0)
theorem B87_0_eq (base : Nat) (v1 : Int) (v10 : Option Addr) (v10n : Nat) (v11 : Int) (v12 : Int) (h : AH) : B87_0 base [some (vI v1),some (vL v10 v10n),some (vI v11),some (vI v12)] h =
((if (decide (v12 < v11)) = true then
(if 0≤v12∧v12 < ((v10n : Nat) : Int) then
((v10 : Option Addr)).bind fun a1=>
((cell h a1.block (a1.off + Int.toNat v12 * 5)).bind (getI .i64)).bind fun n2=>
((cell h a1.block ((a1.off + Int.toNat v12 * 5) + 1)).bind (getI .i64)).bind fun n3=>
((cell h a1.block (((a1.off + Int.toNat v12 * 5) + 1) + 1)).bind getS).bind fun l4=>
((cell h a1.block ((((a1.off + Int.toNat v12 * 5) + 1) + 1) + 1)).bind getS).bind fun l5=>
((cell h a1.block (((((a1.off + Int.toNat v12 * 5) + 1) + 1) + 1) + 1)).bind getS).bind fun l6=>
(some (h++[some ⟨[(.int .i64 0),(.int .i64 0),(.slice none 0 0),(.slice none 0 0),(.slice none 0 0)],54⟩])).bind fun h7=>
(wr base h7 (List.length h) 0 [(.int .i64 n2),(.int .i64 n3),(.slice l4.1 l4.2 l4.2),(.slice l5.1 l5.2 l5.2),(.slice l6.1 l6.2 l6.2)]).bind fun h8=>
((cell h8 (List.length h) 0).bind (getI .i64)).bind fun n9=>
(if (n9 == v1) = true then
some (1,[some (.int .i64 v12)],h8)
else
some (0,[some (.int .i64 v1),some (.slice v10 v10n v10n),some (.int .i64 v11),some (.int .i64 (IntKind.wrap .i64 (v12 + (1 : Int))))],h8))
else none)
else
some (2,[],h)) : Option (Nat × Slots × AH)):=by kernel_rfl
theorem r87 {base : Nat} {v0 : Option Addr} {v1 : Int} {h : AH} {r : Value × AH} (hx : ((v0).bind fun a1=>
((cell h a1.block (a1.off + 1)).bind getS).bind fun l2=>
(loopL (B87_0 base) [some (.int .i64 v1),some (.slice l2.1 l2.2 l2.2),some (.int .i64 ((l2.2 : Nat) : Int)),some (.int .i64 (0 : Int))] h).bind fun q3=>
(if q3.1 = 1 then
((sget q3.2.1 0).bind (getI .i64)).bind fun n4=>
some ((.int .i64 n4),q3.2.2)
else
(if q3.1 = 2 then
some ((.int .i64 (-1 : Int)),q3.2.2)
else
none))) = some r) : run (Et base) 87 [(.pointer v0),(vI v1)] h = some r:=run_i (an:=a87) Try.func87 (by kernel_rfl) (.trans (by kernel_rfl) hx)
noncomputable def B88_0 (base : Nat) : Body:=fun l h=>lay s88_0 l fun s=>exCode (Et base) (run (Et base)) loopL a88_0 (subC [1,0,1,0,0] (bodyC Try.f88)) s h (keepK s88_0 e88_0)
theorem B88_0_eq (base : Nat) (v1 : Int) (v7 : Option Addr) (v7n : Nat) (v8 : Int) (v9 : Int) (h : AH) : B88_0 base [some (vI v1),some (vL v7 v7n),some (vI v8),some (vI v9)] h =
((if (decide (v9 < v8)) = true then
(if 0≤v9∧v9 < ((v7n : Nat) : Int) then
((v7 : Option Addr)).bind fun a1=>
((cell h a1.block (a1.off + Int.toNat v9 * 1)).bind (getI .i64)).bind fun n2=>
(if (n2 == v1) = true then
some (1,[some (.bool true)],h)
else
some (0,[some (.int .i64 v1),some (.slice v7 v7n v7n),some (.int .i64 v8),some (.int .i64 (IntKind.wrap .i64 (v9 + (1 : Int))))],h))
else none)
else
some (2,[],h)) : Option (Nat × Slots × AH)):=by kernel_rfl
theorem r88 {base : Nat} {v0 : Option Addr} {v0n : Nat} {v1 : Int} {h : AH} {r : Value × AH} (hx : ((loopL (B88_0 base) [some (.int .i64 v1),some (.slice v0 v0n v0n),some (.int .i64 ((v0n : Nat) : Int)),some (.int .i64 (0 : Int))] h).bind fun q1=>
(if q1.1 = 1 then
((sget q1.2.1 0).bind getB).bind fun b2=>
some ((.bool b2),q1.2.2)
else
(if q1.1 = 2 then
some ((.bool false),q1.2.2)
else
none))) = some r) : run (Et base) 88 [(vL v0 v0n),(vI v1)] h = some r:=run_i (an:=a88) Try.func88 (by kernel_rfl) (.trans (by kernel_rfl) hx)
noncomputable def B89_0 (base : Nat) : Body:=fun l h=>lay s89_0 l fun s=>exCode (Et base) (run (Et base)) loopL a89_0 (subC [1,1,1,0,1,0,0] (bodyC Try.f89)) s h (keepK s89_0 e89_0)
theorem B89_0_eq (base : Nat) (v0 : Option Addr) (v0n : Nat) (v3 : Int) (v4 : Int) (h : AH) : B89_0 base [some (vL v0 v0n),some (vI v3),some (vI v4)] h =
((if (decide (v4 < v3)) = true then
(if 0≤v4∧v4 < ((v0n : Nat) : Int) then
((v0 : Option Addr)).bind fun a1=>
((cell h a1.block (a1.off + Int.toNat v4 * 6)).bind (getI .i64)).bind fun n2=>
((cell h a1.block ((a1.off + Int.toNat v4 * 6) + 1)).bind (getI .i64)).bind fun n3=>
((cell h a1.block (((a1.off + Int.toNat v4 * 6) + 1) + 1)).bind (getI .i64)).bind fun n4=>
((cell h a1.block ((((a1.off + Int.toNat v4 * 6) + 1) + 1) + 1)).bind (getI .i64)).bind fun n5=>
((cell h a1.block (((((a1.off + Int.toNat v4 * 6) + 1) + 1) + 1) + 1)).bind (getI .i64)).bind fun n6=>
((cell h a1.block ((((((a1.off + Int.toNat v4 * 6) + 1) + 1) + 1) + 1) + 1)).bind getStr).bind fun s7=>
(run (Et base) 140 [(.agg #[(.int .i64 n2),(.int .i64 n3),(.int .i64 n4),(.int .i64 n5),(.int .i64 n6),(.string s7)]),(.int .i64 v3)] h).bind fun r8=>
((some r8.1).bind getB).bind fun b9=>
(if (!b9) = true then
some (1,[some (.bool false)],r8.2)
else
some (0,[some (.slice v0 v0n v0n),some (.int .i64 v3),some (.int .i64 (IntKind.wrap .i64 (v4 + (1 : Int))))],r8.2))
else none)
else
some (2,[],h)) : Option (Nat × Slots × AH)):=by kernel_rfl
theorem r89 {base : Nat} {v0 : Option Addr} {v0n : Nat} {h : AH} {r : Value × AH} (hx : (((run (Et base) 90 [(vI ((v0n : Nat) : Int)),(vI (1 : Int)),(vI (200 : Int))] h).bind fun r2=>
((some r2.1).bind getB).bind fun b3=>
(if (!b3) = true then
some (.inl ([some (vL v0 v0n),some (vI ((v0n : Nat) : Int)),some (.bool true)],r2.2))
else
(if 0≤(IntKind.wrap .i64 (((v0n : Nat) : Int) - (1 : Int)))∧(IntKind.wrap .i64 (((v0n : Nat) : Int) - (1 : Int))) < ((v0n : Nat) : Int) then
((v0 : Option Addr)).bind fun a4=>
((cell r2.2 a4.block ((a4.off + Int.toNat (IntKind.wrap .i64 (((v0n : Nat) : Int) - (1 : Int))) * 6) + 0)).bind (getI .i64)).bind fun n5=>
(if (n5 != (19 : Int)) = true then
(if 0≤(IntKind.wrap .i64 (((v0n : Nat) : Int) - (1 : Int)))∧(IntKind.wrap .i64 (((v0n : Nat) : Int) - (1 : Int))) < ((v0n : Nat) : Int) then
((v0 : Option Addr)).bind fun a6=>
((cell r2.2 a6.block ((a6.off + Int.toNat (IntKind.wrap .i64 (((v0n : Nat) : Int) - (1 : Int))) * 6) + 0)).bind (getI .i64)).bind fun n7=>
some (.inl ([some (vL v0 v0n),some (vI ((v0n : Nat) : Int)),some (.bool (n7 != (12 : Int)))],r2.2))
else none)
else
some (.inl ([some (vL v0 v0n),some (vI ((v0n : Nat) : Int)),some (.bool false)],r2.2)))
else none))).bind fun j1=>joinK j1 fun j1=>
j_LIB j1.1 fun l8 n9 b10=>
(if b10 = true then
some ((.bool false),j1.2)
else
(loopL (B89_0 base) [some (vL l8.1 l8.2),some (vI n9),some (vI (0 : Int))] j1.2).bind fun q11=>
(if q11.1 = 1 then
((sget q11.2.1 0).bind getB).bind fun b12=>
some ((.bool b12),q11.2.2)
else
(if q11.1 = 2 then
some ((.bool true),q11.2.2)
else
none)))) = some r) : run (Et base) 89 [(vL v0 v0n)] h = some r:=run_i (an:=a89) Try.func89 (by kernel_rfl) (.trans (by kernel_rfl) hx)
theorem r90 {base : Nat} {v0 : Int} {v1 : Int} {v2 : Int} {h : AH} {r : Value × AH} (hx : ((if (decide (v0 ≥ v1)) = true then
some ((.bool (decide (v0≤v2))),h)
else
some ((.bool false),h))) = some r) : run (Et base) 90 [(vI v0),(vI v1),(vI v2)] h = some r:=run_i (an:=a90) Try.func90 (by kernel_rfl) (.trans (by kernel_rfl) hx)
noncomputable def B91_0 (base : Nat) : Body:=fun l h=>lay s91_0 l fun s=>exCode (Et base) (run (Et base)) loopL a91_0 (subC [1,0,1,0,0] (bodyC Try.f91)) s h (keepK s91_0 e91_0)
theorem B91_0_eq (base : Nat) (v0 : Option Addr) (v0n : Nat) (v3 : Int) (h : AH) : B91_0 base [some (vL v0 v0n),some (vI v3)] h =
((if (decide (v3 < ((v0n : Nat) : Int))) = true then
((if 0≤v3∧v3 < ((v0n : Nat) : Int) then
((v0 : Option Addr)).bind fun a2=>
((cell h a2.block ((a2.off + Int.toNat v3 * 6) + 0)).bind (getI .i64)).bind fun n3=>
(run (Et base) 90 [(vI n3),(vI (1 : Int)),(vI (3 : Int))] h).bind fun r4=>
((some r4.1).bind getB).bind fun b5=>
(if (!b5) = true then
some (.inl ([some (vL v0 v0n),some (vI v3),some (.bool true)],r4.2))
else
(if 0≤v3∧v3 < ((v0n : Nat) : Int) then
((v0 : Option Addr)).bind fun a6=>
((cell r4.2 a6.block ((a6.off + Int.toNat v3 * 6) + 1)).bind (getI .i64)).bind fun n7=>
(run (Et base) 90 [(vI n7),(vI (1 : Int)),(vI (99999 : Int))] r4.2).bind fun r8=>
((some r8.1).bind getB).bind fun b9=>
(if (!b9) = true then
some (.inl ([some (vL v0 v0n),some (vI v3),some (.bool true)],r8.2))
else
(if 0≤v3∧v3 < ((v0n : Nat) : Int) then
((v0 : Option Addr)).bind fun a10=>
c_IITL r8.2 a10.block ((a10.off + Int.toNat v3 * 6) + 2) fun n11 n12 s13 l14=>
(run (Et base) 58 [(.agg #[(vI n11),(vI n12),(vT s13),(vL l14.1 l14.2)])] r8.2).bind fun r15=>
((some r15.1).bind getB).bind fun b16=>
some (.inl ([some (vL v0 v0n),some (vI v3),some (.bool (!b16))],r15.2))
else none))
else none))
else none)).bind fun j1=>joinK j1 fun j1=>
j_LIB j1.1 fun l17 n18 b19=>
(if b19 = true then
some (1,[some (.bool false)],j1.2)
else
some (0,[some (vL l17.1 l17.2),some (vI (IntKind.wrap .i64 (n18 + (1 : Int))))],j1.2))
else
some (2,[some (vL v0 v0n)],h)) : Option (Nat × Slots × AH)):=by kernel_rfl
theorem r91 {base : Nat} {v0 : Option Addr} {v0n : Nat} {h : AH} {r : Value × AH} (hx : ((loopL (B91_0 base) [some (.slice v0 v0n v0n),some (.int .i64 (0 : Int))] h).bind fun q1=>
(if q1.1 = 1 then
((sget q1.2.1 0).bind getB).bind fun b2=>
some ((.bool b2),q1.2.2)
else
(if q1.1 = 2 then
((sget q1.2.1 0).bind getS).bind fun l3=>
some ((.bool (decide (((l3.2 : Nat) : Int)≤(500 : Int)))),q1.2.2)
else
none))) = some r) : run (Et base) 91 [(vL v0 v0n)] h = some r:=run_i (an:=a91) Try.func91 (by kernel_rfl) (.trans (by kernel_rfl) hx)
theorem r92 {base : Nat} {v0 : Option Addr} {v0n : Nat} {v1_0 : Int} {v1_1 : Int} {v1_2 : Option Addr} {v1_2n : Nat} {v1_3 : Option Addr} {v1_3n : Nat} {v1_4 : Option Addr} {v1_4n : Nat} {h : AH} {r : Value × AH} (hx : (nw1 h 54 [(vI v1_0),(vI v1_1),(vL v1_2 v1_2n),(vL v1_3 v1_3n),(vL v1_4 v1_4n)] fun h1=>
((run (Et base) 89 [(vL v0 v0n)] h1).bind fun r3=>
((some r3.1).bind getB).bind fun b4=>
(if (!b4) = true then
some (.inl ([some (vP (List.length h)),some (.bool true)],r3.2))
else
((cell r3.2 (List.length h) 0).bind (getI .i64)).bind fun n5=>
(run (Et base) 90 [(vI n5),(vI (1 : Int)),(vI (99999 : Int))] r3.2).bind fun r6=>
((some r6.1).bind getB).bind fun b7=>
(if (!b7) = true then
some (.inl ([some (vP (List.length h)),some (.bool true)],r6.2))
else
((cell r6.2 (List.length h) 1).bind (getI .i64)).bind fun n8=>
(run (Et base) 90 [(vI n8),(vI (0 : Int)),(vI (IntKind.wrap .i64 (((v0n : Nat) : Int) - (1 : Int))))] r6.2).bind fun r9=>
((some r9.1).bind getB).bind fun b10=>
(if (!b10) = true then
some (.inl ([some (vP (List.length h)),some (.bool true)],r9.2))
else
((cell r9.2 (List.length h) 2).bind getS).bind fun l11=>
(if (((l11.2 : Nat) : Int) != (8 : Int)) = true then
some (.inl ([some (vP (List.length h)),some (.bool true)],r9.2))
else
((cell r9.2 (List.length h) 3).bind getS).bind fun l12=>
some (.inl ([some (vP (List.length h)),some (.bool (decide (((l12.2 : Nat) : Int) > (30 : Int))))],r9.2))))))).bind fun j2=>joinK j2 fun j2=>
j_AB j2.1 fun d13 b14=>
(if b14 = true then
some ((.bool false),j2.2)
else
((cell j2.2 d13.block (d13.off + 2)).bind getS).bind fun l15=>
(run (Et base) 141 [(vL l15.1 l15.2)] j2.2).bind fun r16=>
((some r16.1).bind getB).bind fun b17=>
(if b17 = true then
((cell r16.2 d13.block (d13.off + 3)).bind getS).bind fun l18=>
(run (Et base) 141 [(vL l18.1 l18.2)] r16.2).bind fun r19=>
((some r19.1).bind getB).bind fun b20=>
(if b20 = true then
((cell r19.2 d13.block (d13.off + 4)).bind getS).bind fun l21=>
((cell r19.2 d13.block (d13.off + 0)).bind (getI .i64)).bind fun n22=>
(run (Et base) 142 [(vL l21.1 l21.2),(vI n22)] r19.2).bind fun r23=>
((some r23.1).bind getB).bind fun b24=>
some ((.bool b24),r23.2)
else
some ((.bool false),r19.2))
else
some ((.bool false),r16.2)))) = some r) : run (Et base) 92 [(vL v0 v0n),(.agg #[(vI v1_0),(vI v1_1),(vL v1_2 v1_2n),(vL v1_3 v1_3n),(vL v1_4 v1_4n)])] h = some r:=run_i (an:=a92) Try.func92 (by kernel_rfl) (.trans (by kernel_rfl) hx)
noncomputable def B93_0 (base : Nat) : Body:=fun l h=>lay s93_0 l fun s=>exCode (Et base) (run (Et base)) loopL a93_0 (subC [1,1,0,1,0,0] (bodyC Try.f93)) s h (keepK s93_0 e93_0)
theorem B93_0_eq (base : Nat) (v2 : Addr) (v5 : Addr) (v6 : Int) (h : AH) : B93_0 base [some (vA v2),some (vA v5),some (vI v6)] h =
(((cell h v5.block (v5.off + 4)).bind getS).bind fun l1=>
(if (decide (v6 < ((l1.2 : Nat) : Int))) = true then
c_LLIL h v2.block v2.off fun l2 l3 n4 l5=>
((cell h v5.block (v5.off + 4)).bind getS).bind fun l6=>
(if 0≤v6∧v6 < ((l6.2 : Nat) : Int) then
((l6.1 : Option Addr)).bind fun a7=>
((cell h a7.block (a7.off + Int.toNat v6 * 1)).bind (getI .i64)).bind fun n8=>
(run (Et base) 118 [(.agg #[(vL l2.1 l2.2),(vL l3.1 l3.2),(vI n4),(vL l5.1 l5.2)]),(vI n8)] h).bind fun r9=>
((some r9.1).bind (getI .i64)).bind fun n10=>
((if (decide (n10 ≥ (0 : Int))) = true then
((cell r9.2 v2.block (v2.off + 1)).bind getS).bind fun l12=>
(if 0≤n10∧n10 < ((l12.2 : Nat) : Int) then
((l12.1 : Option Addr)).bind fun a13=>
((cell r9.2 a13.block ((a13.off + Int.toNat n10 * 5) + 4)).bind getS).bind fun l14=>
((cell r9.2 v5.block (v5.off + 0)).bind (getI .i64)).bind fun n15=>
(run (Et base) 143 [(vL l14.1 l14.2),(vI n15)] r9.2).bind fun r16=>
((some r16.1).bind getB).bind fun b17=>
some (.inl ([some (vA v2),some (vA v5),some (vI v6),some (.bool (!b17))],r16.2))
else none)
else
some (.inl ([some (vA v2),some (vA v5),some (vI v6),some (.bool false)],r9.2)))).bind fun j11=>joinK j11 fun j11=>
j_AAIB j11.1 fun d18 d19 n20 b21=>
(if b21 = true then
some (1,[some (.bool false)],j11.2)
else
some (0,[some (vA d18),some (vA d19),some (vI (IntKind.wrap .i64 (n20 + (1 : Int))))],j11.2))
else none)
else
some (2,[],h)) : Option (Nat × Slots × AH)):=by kernel_rfl
theorem r93 {base : Nat} {v0_0 : Option Addr} {v0_0n : Nat} {v0_1 : Option Addr} {v0_1n : Nat} {v0_2 : Int} {v0_3 : Option Addr} {v0_3n : Nat} {v1 : Int} {h : AH} {r : Value × AH} (hx : ((some (h++[some ⟨[(.slice v0_0 v0_0n v0_0n),(.slice v0_1 v0_1n v0_1n),(.int .i64 v0_2),(.slice v0_3 v0_3n v0_3n)],36⟩])).bind fun h1=>
((cell h1 (List.length h) 1).bind getS).bind fun l2=>
(if 0≤v1∧v1 < ((l2.2 : Nat) : Int) then
((l2.1 : Option Addr)).bind fun a3=>
((cell h1 a3.block (a3.off + Int.toNat v1 * 5)).bind (getI .i64)).bind fun n4=>
((cell h1 a3.block ((a3.off + Int.toNat v1 * 5) + 1)).bind (getI .i64)).bind fun n5=>
((cell h1 a3.block (((a3.off + Int.toNat v1 * 5) + 1) + 1)).bind getS).bind fun l6=>
((cell h1 a3.block ((((a3.off + Int.toNat v1 * 5) + 1) + 1) + 1)).bind getS).bind fun l7=>
((cell h1 a3.block (((((a3.off + Int.toNat v1 * 5) + 1) + 1) + 1) + 1)).bind getS).bind fun l8=>
(some (h1++[some ⟨[(.int .i64 0),(.int .i64 0),(.slice none 0 0),(.slice none 0 0),(.slice none 0 0)],54⟩])).bind fun h9=>
(wr base h9 (List.length h1) 0 [(.int .i64 n4),(.int .i64 n5),(.slice l6.1 l6.2 l6.2),(.slice l7.1 l7.2 l7.2),(.slice l8.1 l8.2 l8.2)]).bind fun h10=>
(loopL (B93_0 base) [some (.pointer (some ⟨(List.length h),0,none⟩)),some (.pointer (some ⟨(List.length h1),0,none⟩)),some (.int .i64 (0 : Int))] h10).bind fun q11=>
(if q11.1 = 1 then
((sget q11.2.1 0).bind getB).bind fun b12=>
some ((.bool b12),q11.2.2)
else
(if q11.1 = 2 then
some ((.bool true),q11.2.2)
else
none))
else none)) = some r) : run (Et base) 93 [(.agg #[(vL v0_0 v0_0n),(vL v0_1 v0_1n),(vI v0_2),(vL v0_3 v0_3n)]),(vI v1)] h = some r:=run_i (an:=a93) Try.func93 (by kernel_rfl) (.trans (by kernel_rfl) hx)
theorem r115 {base : Nat} {v0_0 : Int} {v0_1 : Int} {v0_2 : Option Addr} {v0_2n : Nat} {v0_3 : Option Addr} {v0_3n : Nat} {v0_4 : Option Addr} {v0_4n : Nat} {h : AH} {r : Value × AH} (hx : (nw1 h 54 [(vI v0_0),(vI v0_1),(vL v0_2 v0_2n),(vL v0_3 v0_3n),(vL v0_4 v0_4n)] fun h1=>
nw1 h1 54 [(vI 0),(vI 0),(vL none 0),(vL none 0),(vL none 0)] fun h2=>
c_IIL h2 (List.length h) 0 fun n3 n4 l5=>
(run (Et base) 163 [(vL l5.1 l5.2)] h2).bind fun r6=>
((some r6.1).bind getS).bind fun l7=>
(gate (sameA h2 r6.2 (some ⟨(List.length h),1,none⟩) 1)
((gate (sameA h2 r6.2 (some ⟨(List.length h),0,none⟩) 1)
((gate (sameA h2 r6.2 (some ⟨(List.length h),3,none⟩) 1)
(((cell r6.2 (List.length h) 3).bind getS).bind fun l8=>
(run (Et base) 163 [(vL l8.1 l8.2)] r6.2).bind fun r9=>
((some r9.1).bind getS).bind fun l10=>
(gate (sameA r6.2 r9.2 (some ⟨(List.length h),1,none⟩) 1)
((gate (sameA r6.2 r9.2 (some ⟨(List.length h),0,none⟩) 1)
((gate (neA (some ⟨(List.length h),3,none⟩) (List.length r9.2))
((gate (neA (some ⟨(List.length h),2,none⟩) (List.length r9.2))
((gate (neA (some ⟨(List.length h),1,none⟩) (List.length r9.2))
((gate (neA (some ⟨(List.length h),0,none⟩) (List.length r9.2))
(nw1 r9.2 3 [] fun h11=>
(gate (neA (some ⟨(List.length h),4,none⟩) (List.length r9.2))
((gate (sameA r6.2 h11 (some ⟨(List.length h),4,none⟩) 1)
((gate (sameA h2 h11 (some ⟨(List.length h),4,none⟩) 1)
(((cell h11 (List.length h) 4).bind getS).bind fun l12=>
(app base h11 3 1 8 (some ⟨(List.length r9.2),0,none⟩) 0 (rawAt h11 l12.1 (l12.2 * 1)) l12.2).bind fun p13=>
((some p13.1).bind getS).bind fun l14=>
(gate (sameA h11 p13.2 (some ⟨(List.length h),1,none⟩) 1)
((gate (sameA h11 p13.2 (some ⟨(List.length h),0,none⟩) 1)
((wr base p13.2 (List.length h1) 0 [(vI n3),(vI n4),(vL l7.1 l7.2),(vL l10.1 l10.2),(vL l14.1 l14.2)]).bind fun h15=>
c_IILLL h15 (List.length h1) 0 fun n16 n17 l18 l19 l20=>
some ((.agg #[(vI n16),(vI n17),(vL l18.1 l18.2),(vL l19.1 l19.2),(vL l20.1 l20.2)]),h15)))))))))))))))))))))))))))))) = some r) : run (Et base) 115 [(.agg #[(vI v0_0),(vI v0_1),(vL v0_2 v0_2n),(vL v0_3 v0_3n),(vL v0_4 v0_4n)])] h = some r:=run_i (an:=a115) Try.func115 (by kernel_rfl) (.trans (by kernel_rfl) hx)
noncomputable def B116_0 (base : Nat) : Body:=fun l h=>lay s116_0 l fun s=>exCode (Et base) (run (Et base)) loopL a116_0 (subC [1,1,1,0,1,0,0] (bodyC Try.f116)) s h (keepK s116_0 e116_0)
theorem B116_0_eq (base : Nat) (v1 : Addr) (v2 : Addr) (v3 : Addr) (v4 : Int) (h : AH) : B116_0 base [some (vA v1),some (vA v2),some (vA v3),some (vI v4)] h =
(((cell h v1.block (v1.off + 3)).bind getS).bind fun l1=>
(if (decide (v4 < ((l1.2 : Nat) : Int))) = true then
((cell h v3.block (v3.off + 3)).bind getS).bind fun l2=>
((cell h v1.block (v1.off + 3)).bind getS).bind fun l3=>
(if 0≤v4∧v4 < ((l3.2 : Nat) : Int) then
((l3.1 : Option Addr)).bind fun a4=>
c_IITL h a4.block (a4.off + Int.toNat v4 * 4) fun n5 n6 s7 l8=>
(run (Et base) 116 [(.agg #[(vI n5),(vI n6),(vT s7),(vL l8.1 l8.2)])] h).bind fun r9=>
gG (some r9.1) 4 fun l10=>
l_IITL l10 fun n11 n12 s13 l14=>
(gate (sameA h r9.2 (some ⟨v3.block,(v3.off + 3),none⟩) 1)
((gate (neA (some ⟨v3.block,(v3.off + 3),none⟩) (List.length r9.2))
(nw1 r9.2 42 [(vI n11),(vI n12),(vT s13),(vL l14.1 l14.2)] fun h15=>
(app base h15 42 4 56 l2.1 l2.2 (rawAt h15 (some ⟨(List.length r9.2),0,none⟩) (1 * 4)) 1).bind fun p16=>
((some p16.1).bind getS).bind fun l17=>
(wr base p16.2 v3.block (v3.off + 3) [(vL l17.1 l17.2)]).bind fun h18=>
some (0,[some (vA v1),some (vA v2),some (vA v3),some (vI (IntKind.wrap .i64 (v4 + (1 : Int))))],h18)))))
else none)
else
some (2,[some (vA v2),some (vA v3)],h)) : Option (Nat × Slots × AH)):=by kernel_rfl
theorem r116 {base : Nat} {v0_0 : Int} {v0_1 : Int} {v0_2 : ByteArray} {v0_3 : Option Addr} {v0_3n : Nat} {h : AH} {r : Value × AH} (hx : (nw1 h 42 [(vI v0_0),(vI v0_1),(vT v0_2),(vL v0_3 v0_3n)] fun h1=>
nw1 h1 42 [(vI 0),(vI 0),(vT ⟨#[]⟩),(vL none 0)] fun h2=>
c_IITL h2 (List.length h) 0 fun n3 n4 s5 l6=>
nw1 h2 42 [(vI 0),(vI 0),(vT ⟨#[]⟩),(vL none 0)] fun h7=>
(wr base h7 (List.length h2) 0 [(vI n3),(vI n4),(vT s5),(vL l6.1 l6.2)]).bind fun h8=>
nw1 h8 42 [] fun h9=>
(wr base h9 (List.length h2) 3 [(vL (some ⟨(List.length h8),0,none⟩) 0)]).bind fun h10=>
(loopL (B116_0 base) [some (vP (List.length h)),some (vP (List.length h1)),some (vP (List.length h2)),some (vI (0 : Int))] h10).bind fun q11=>
(if q11.1 = 2 then
j_AA q11.2.1 fun d12 d13=>
c_IITL q11.2.2 d13.block d13.off fun n14 n15 s16 l17=>
(wr base q11.2.2 d12.block d12.off [(vI n14),(vI n15),(vT s16),(vL l17.1 l17.2)]).bind fun h18=>
c_IITL h18 d12.block d12.off fun n19 n20 s21 l22=>
some ((.agg #[(vI n19),(vI n20),(vT s21),(vL l22.1 l22.2)]),h18)
else
none)) = some r) : run (Et base) 116 [(.agg #[(vI v0_0),(vI v0_1),(vT v0_2),(vL v0_3 v0_3n)])] h = some r:=run_i (an:=a116) Try.func116 (by kernel_rfl) (.trans (by kernel_rfl) hx)
noncomputable def B117_0 (base : Nat) : Body:=fun l h=>lay s117_0 l fun s=>exCode (Et base) (run (Et base)) loopL a117_0 (subC [1,1,1,0,1,0,0] (bodyC Try.f117)) s h (keepK s117_0 e117_0)
theorem B117_0_eq (base : Nat) (v1 : Int) (v2 : Int) (v3 : Addr) (v7 : Int) (h : AH) : B117_0 base [some (vI v1),some (vI v2),some (vA v3),some (vI v7)] h =
((((cell h v3.block (v3.off + 3)).bind getS).bind fun l2=>
(if (decide (v7 < ((l2.2 : Nat) : Int))) = true then
some (.inl ([some (vI v1),some (vI v2),some (vA v3),some (vI v7),some (.bool (decide (v2 ≥ (0 : Int))))],h))
else
some (.inl ([some (vI v1),some (vI v2),some (vA v3),some (vI v7),some (.bool false)],h)))).bind fun j1=>joinK j1 fun j1=>
j_IIAIB j1.1 fun n3 n4 d5 n6 b7=>
(if b7 = true then
((cell j1.2 d5.block (d5.off + 3)).bind getS).bind fun l8=>
(if 0≤n6∧n6 < ((l8.2 : Nat) : Int) then
((l8.1 : Option Addr)).bind fun a9=>
c_IITL j1.2 a9.block (a9.off + Int.toNat n6 * 4) fun n10 n11 s12 l13=>
(run (Et base) 117 [(.agg #[(vI n10),(vI n11),(vT s12),(vL l13.1 l13.2)]),(vI (IntKind.wrap .i64 (n3 - (1 : Int)))),(vI n4)] j1.2).bind fun r14=>
((some r14.1).bind (getI .i64)).bind fun n15=>
some (0,[some (vI n3),some (vI n15),some (vA d5),some (vI (IntKind.wrap .i64 (n6 + (1 : Int))))],r14.2)
else none)
else
some (2,[some (vI n4)],j1.2)) : Option (Nat × Slots × AH)):=by kernel_rfl
theorem r117 {base : Nat} {v0_0 : Int} {v0_1 : Int} {v0_2 : ByteArray} {v0_3 : Option Addr} {v0_3n : Nat} {v1 : Int} {v2 : Int} {h : AH} {r : Value × AH} (hx : (nw1 h 42 [(vI v0_0),(vI v0_1),(vT v0_2),(vL v0_3 v0_3n)] fun h1=>
((if (decide (v1 < (1 : Int))) = true then
some (.inl ([some (vI v1),some (vI v2),some (vP (List.length h)),some (.bool true)],h1))
else
(if (decide (v2 < (1 : Int))) = true then
some (.inl ([some (vI v1),some (vI v2),some (vP (List.length h)),some (.bool true)],h1))
else
c_IITL h1 (List.length h) 0 fun n3 n4 s5 l6=>
(run (Et base) 164 [(.agg #[(vI n3),(vI n4),(vT s5),(vL l6.1 l6.2)])] h1).bind fun r7=>
((some r7.1).bind getB).bind fun b8=>
some (.inl ([some (vI v1),some (vI v2),some (vP (List.length h)),some (.bool (!b8))],r7.2))))).bind fun j2=>joinK j2 fun j2=>
j_IIAB j2.1 fun n9 n10 d11 b12=>
(if b12 = true then
some ((vI (-1 : Int)),j2.2)
else
(loopL (B117_0 base) [some (vI n9),some (vI (IntKind.wrap .i64 (n10 - (1 : Int)))),some (vA d11),some (vI (0 : Int))] j2.2).bind fun q13=>
(if q13.1 = 2 then
((sget q13.2.1 0).bind (getI .i64)).bind fun n14=>
some ((vI n14),q13.2.2)
else
none))) = some r) : run (Et base) 117 [(.agg #[(vI v0_0),(vI v0_1),(vT v0_2),(vL v0_3 v0_3n)]),(vI v1),(vI v2)] h = some r:=run_i (an:=a117) Try.func117 (by kernel_rfl) (.trans (by kernel_rfl) hx)
noncomputable def B118_0 (base : Nat) : Body:=fun l h=>lay s118_0 l fun s=>exCode (Et base) (run (Et base)) loopL a118_0 (subC [1,0,1,0,0] (bodyC Try.f118)) s h (keepK s118_0 e118_0)
theorem B118_0_eq (base : Nat) (v1 : Int) (v2 : Addr) (v5 : Int) (h : AH) : B118_0 base [some (vI v1),some (vA v2),some (vI v5)] h =
(((cell h v2.block (v2.off + 1)).bind getS).bind fun l1=>
(if (decide (v5 < ((l1.2 : Nat) : Int))) = true then
((cell h v2.block (v2.off + 1)).bind getS).bind fun l2=>
(if 0≤v5∧v5 < ((l2.2 : Nat) : Int) then
((l2.1 : Option Addr)).bind fun a3=>
((cell h a3.block ((a3.off + Int.toNat v5 * 5) + 0)).bind (getI .i64)).bind fun n4=>
(if (n4 == v1) = true then
some (1,[some (.int .i64 v5)],h)
else
some (0,[some (.int .i64 v1),some (.pointer (some v2)),some (.int .i64 (IntKind.wrap .i64 (v5 + (1 : Int))))],h))
else none)
else
some (2,[],h)) : Option (Nat × Slots × AH)):=by kernel_rfl
theorem r118 {base : Nat} {v0_0 : Option Addr} {v0_0n : Nat} {v0_1 : Option Addr} {v0_1n : Nat} {v0_2 : Int} {v0_3 : Option Addr} {v0_3n : Nat} {v1 : Int} {h : AH} {r : Value × AH} (hx : ((some (h++[some ⟨[(.slice v0_0 v0_0n v0_0n),(.slice v0_1 v0_1n v0_1n),(.int .i64 v0_2),(.slice v0_3 v0_3n v0_3n)],36⟩])).bind fun h1=>
(loopL (B118_0 base) [some (.int .i64 v1),some (.pointer (some ⟨(List.length h),0,none⟩)),some (.int .i64 (0 : Int))] h1).bind fun q2=>
(if q2.1 = 1 then
((sget q2.2.1 0).bind (getI .i64)).bind fun n3=>
some ((.int .i64 n3),q2.2.2)
else
(if q2.1 = 2 then
some ((.int .i64 (-1 : Int)),q2.2.2)
else
none))) = some r) : run (Et base) 118 [(.agg #[(vL v0_0 v0_0n),(vL v0_1 v0_1n),(vI v0_2),(vL v0_3 v0_3n)]),(vI v1)] h = some r:=run_i (an:=a118) Try.func118 (by kernel_rfl) (.trans (by kernel_rfl) hx)
noncomputable def B124_0 (base : Nat) : Body:=fun l h=>lay s124_0 l fun s=>exCode (Et base) (run (Et base)) loopL a124_0 (subC [1,1,1,0,1,0,0] (bodyC Try.f124)) s h (keepK s124_0 e124_0)
theorem B124_0_eq (base : Nat) (v1 : Int) (v2 : Int) (v27 : Option Addr) (v27n : Nat) (v28 : Int) (v29 : Int) (h : AH) : B124_0 base [some (vI v1),some (vI v2),some (vL v27 v27n),some (vI v28),some (vI v29)] h =
((if (decide (v29 < v28)) = true then
(if 0≤v29∧v29 < ((v27n : Nat) : Int) then
((v27 : Option Addr)).bind fun a1=>
c_IITL h a1.block (a1.off + Int.toNat v29 * 4) fun n2 n3 s4 l5=>
nw1 h 42 [(vI 0),(vI 0),(vT ⟨#[]⟩),(vL none 0)] fun h6=>
(wr base h6 (List.length h) 0 [(vI n2),(vI n3),(vT s4),(vL l5.1 l5.2)]).bind fun h7=>
c_IITL h7 (List.length h) 0 fun n8 n9 s10 l11=>
(run (Et base) 124 [(.agg #[(vI n8),(vI n9),(vT s10),(vL l11.1 l11.2)]),(vI (IntKind.wrap .i64 (v1 + (1 : Int)))),(vI v2)] h7).bind fun r12=>
(getTup 2 r12.1).bind fun l13=>
l_IB l13 fun n14 b15=>
(if (!b15) = true then
some (1,[some (vI n14),some (.bool false)],r12.2)
else
some (0,[some (vI v1),some (vI n14),some (vL v27 v27n),some (vI v28),some (vI (IntKind.wrap .i64 (v29 + (1 : Int))))],r12.2))
else none)
else
some (2,[some (vI v2)],h)) : Option (Nat × Slots × AH)):=by kernel_rfl
theorem r124 {base : Nat} {v0_0 : Int} {v0_1 : Int} {v0_2 : ByteArray} {v0_3 : Option Addr} {v0_3n : Nat} {v1 : Int} {v2 : Int} {h : AH} {r : Value × AH} (hx : (nw1 h 42 [(vI v0_0),(vI v0_1),(vT v0_2),(vL v0_3 v0_3n)] fun h1=>
((if (decide (v1 > (6 : Int))) = true then
some (.inl ([some (vI v1),some (vI (IntKind.wrap .i64 (v2 + (1 : Int)))),some (vP (List.length h)),some (.bool true)],h1))
else
(if (decide ((IntKind.wrap .i64 (v2 + (1 : Int))) > (100 : Int))) = true then
some (.inl ([some (vI v1),some (vI (IntKind.wrap .i64 (v2 + (1 : Int)))),some (vP (List.length h)),some (.bool true)],h1))
else
c_IITL h1 (List.length h) 0 fun n3 n4 s5 l6=>
(run (Et base) 166 [(.agg #[(vI n3),(vI n4),(vT s5),(vL l6.1 l6.2)])] h1).bind fun r7=>
((some r7.1).bind getB).bind fun b8=>
some (.inl ([some (vI v1),some (vI (IntKind.wrap .i64 (v2 + (1 : Int)))),some (vP (List.length h)),some (.bool (!b8))],r7.2))))).bind fun j2=>joinK j2 fun j2=>
j_IIAB j2.1 fun n9 n10 d11 b12=>
(if b12 = true then
some ((.tuple #[(vI n10),(.bool false)]),j2.2)
else
((cell j2.2 d11.block (d11.off + 3)).bind getS).bind fun l13=>
(loopL (B124_0 base) [some (vI n9),some (vI n10),some (vL l13.1 l13.2),some (vI ((l13.2 : Nat) : Int)),some (vI (0 : Int))] j2.2).bind fun q14=>
(if q14.1 = 1 then
j_IB q14.2.1 fun n15 b16=>
some ((.tuple #[(vI n15),(.bool b16)]),q14.2.2)
else
(if q14.1 = 2 then
((sget q14.2.1 0).bind (getI .i64)).bind fun n17=>
some ((.tuple #[(vI n17),(.bool true)]),q14.2.2)
else
none)))) = some r) : run (Et base) 124 [(.agg #[(vI v0_0),(vI v0_1),(vT v0_2),(vL v0_3 v0_3n)]),(vI v1),(vI v2)] h = some r:=run_i (an:=a124) Try.func124 (by kernel_rfl) (.trans (by kernel_rfl) hx)
noncomputable abbrev qf130 (base : Nat) (v0 : Option Addr) (v0n : Nat) (v1_0 : Int) (v1_1 : Int) (v1_2 : ByteArray) (v1_3 : Option Addr) (v1_3n : Nat) (h : AH) : Option (Value × AH):=
nw1 h 42 [(vI v1_0),(vI v1_1),(vT v1_2),(vL v1_3 v1_3n)] fun h1=>
nw1 h1 36 [(vL none 0),(vL none 0),(vI 0),(vL none 0)] fun h2=>
nw1 h2 143 [] fun h3=>
(app base h3 143 6 56 (some ⟨(List.length h2),0,none⟩) 0 (rawAt h3 v0 (v0n * 6)) v0n).bind fun p4=>
((some p4.1).bind getS).bind fun l5=>
(gate (neA (some ⟨(List.length h),0,none⟩) (List.length h2))
((gate (sameA h3 p4.2 (some ⟨(List.length h),0,none⟩) 4)
(c_IITL p4.2 (List.length h) 0 fun n6 n7 s8 l9=>
(run (Et base) 167 [(vI (1 : Int)),(vI (0 : Int)),(.agg #[(vI n6),(vI n7),(vT s8),(vL l9.1 l9.2)])] p4.2).bind fun r10=>
gG (some r10.1) 5 fun l11=>
l_IILLL l11 fun n12 n13 l14 l15 l16=>
nw1 r10.2 54 [(vI n12),(vI n13),(vL l14.1 l14.2),(vL l15.1 l15.2),(vL l16.1 l16.2)] fun h17=>
(gate (neA (some ⟨(List.length h),0,none⟩) (List.length h17))
(nw1 h17 36 [(vL none 0),(vL none 0),(vI 0),(vL none 0)] fun h18=>
(wr base h18 (List.length h17) 0 [(vL l5.1 l5.2),(vL (some ⟨(List.length r10.2),0,none⟩) 1),(vI (2 : Int)),(vL none 0)]).bind fun h19=>
((cell h19 (List.length h17) 3).bind getS).bind fun l20=>
c_IITL h19 (List.length h) 0 fun n21 n22 s23 l24=>
(run (Et base) 168 [(vL l20.1 l20.2),(vI (1 : Int)),(vI (1 : Int)),(.agg #[(vI n21),(vI n22),(vT s23),(vL l24.1 l24.2)])] h19).bind fun r25=>
((some r25.1).bind getS).bind fun l26=>
(wr base r25.2 (List.length h17) 3 [(vL l26.1 l26.2)]).bind fun h27=>
c_LLIL h27 (List.length h17) 0 fun l28 l29 n30 l31=>
(run (Et base) 27 [(.agg #[(vL l28.1 l28.2),(vL l29.1 l29.2),(vI n30),(vL l31.1 l31.2)])] h27).bind fun r32=>
((some r32.1).bind getB).bind fun b33=>
(if (!b33) = true then
(wr base r32.2 (List.length h1) 0 [(vL none 0),(vL none 0),(vI (0 : Int)),(vL none 0)]).bind fun h34=>
c_LLIL h34 (List.length h1) 0 fun l35 l36 n37 l38=>
some ((.tuple #[(.agg #[(vL l35.1 l35.2),(vL l36.1 l36.2),(vI n37),(vL l38.1 l38.2)]),(.bool false)]),h34)
else
c_LLIL r32.2 (List.length h17) 0 fun l39 l40 n41 l42=>
(wr base r32.2 (List.length h1) 0 [(vL l39.1 l39.2),(vL l40.1 l40.2),(vI n41),(vL l42.1 l42.2)]).bind fun h43=>
c_LLIL h43 (List.length h1) 0 fun l44 l45 n46 l47=>
some ((.tuple #[(.agg #[(vL l44.1 l44.2),(vL l45.1 l45.2),(vI n46),(vL l47.1 l47.2)]),(.bool true)]),h43))))))))
theorem r130 {base : Nat} {v0 : Option Addr} {v0n : Nat} {v1_0 : Int} {v1_1 : Int} {v1_2 : ByteArray} {v1_3 : Option Addr} {v1_3n : Nat} {h : AH} {r : Value × AH} (hx : qf130 base v0 v0n v1_0 v1_1 v1_2 v1_3 v1_3n h = some r) : run (Et base) 130 [(vL v0 v0n),(.agg #[(vI v1_0),(vI v1_1),(vT v1_2),(vL v1_3 v1_3n)])] h = some r:=run_i (an:=a130) Try.func130 (by kernel_rfl) (.trans (by kernel_rfl) hx)
noncomputable def B131_0 (base : Nat) : Body:=fun l h=>lay s131_0 l fun s=>exCode (Et base) (run (Et base)) loopL a131_0 (subC [1,1,1,1,0,1,0,0] (bodyC Try.f131)) s h (keepK s131_0 e131_0)
theorem B131_0_eq (base : Nat) (v0 : Option Addr) (v5 : Int) (v6 : Option Addr) (v6n : Nat) (v7 : Int) (h : AH) : B131_0 base [some (.pointer v0),some (vI v5),some (vL v6 v6n),some (vI v7)] h =
((if (decide ((IntKind.wrap .i64 (v7 + (1 : Int))) < v5)) = true then
(run (Et base) 171 [(.pointer v0),(.int .i64 v5)] h).bind fun r1=>
((some r1.1).bind (getAgg 6)).bind fun l2=>
((l2[0]?).bind (getI .i64)).bind fun n3=>
((l2[1]?).bind (getI .i64)).bind fun n4=>
((l2[2]?).bind (getI .i64)).bind fun n5=>
((l2[3]?).bind (getI .i64)).bind fun n6=>
((l2[4]?).bind (getI .i64)).bind fun n7=>
((l2[5]?).bind getStr).bind fun s8=>
(some (r1.2++[some ⟨[(.int .i64 n3),(.int .i64 n4),(.int .i64 n5),(.int .i64 n6),(.int .i64 n7),(.string s8)],143⟩])).bind fun h9=>
(app base h9 143 6 56 v6 v6n (rawAt h9 (some ⟨(List.length r1.2),0,none⟩) (1 * 6)) 1).bind fun p10=>
((some p10.1).bind getS).bind fun l11=>
some (0,[some (.pointer v0),some (.int .i64 v5),some (.slice l11.1 l11.2 l11.2),some (.int .i64 (IntKind.wrap .i64 (v7 + (1 : Int))))],p10.2)
else
some (2,[some (.pointer v0),some (.int .i64 v5),some (.slice v6 v6n v6n)],h)) : Option (Nat × Slots × AH)):=by kernel_rfl
theorem r131 {base : Nat} {v0 : Option Addr} {h : AH} {r : Value × AH} (hx : ((run (Et base) 156 [(.pointer v0),(vI (2 : Int))] h).bind fun r1=>
((some r1.1).bind getB).bind fun b2=>
(if b2 = true then
(run (Et base) 170 [] r1.2).bind fun r3=>
((some r3.1).bind getS).bind fun l4=>
(run (Et base) 133 [(.pointer v0),(vI (6 : Int))] r3.2).bind fun r5=>
((some r5.1).bind (getI .i64)).bind fun n6=>
(if 0≤n6∧n6 < ((l4.2 : Nat) : Int) then
((l4.1 : Option Addr)).bind fun a7=>
((cell r5.2 a7.block (a7.off + Int.toNat n6 * 1)).bind getStr).bind fun s8=>
(run (Et base) 169 [(vT s8)] r5.2).bind fun r9=>
(getTup 2 r9.1).bind fun l10=>
l_LB l10 fun l11 b12=>
some ((vL l11.1 l11.2),r9.2)
else none)
else
(run (Et base) 133 [(.pointer v0),(vI (10 : Int))] r1.2).bind fun r13=>
((some r13.1).bind (getI .i64)).bind fun n14=>
nw1 r13.2 143 [] fun h15=>
(loopL (B131_0 base) [some (.pointer v0),some (vI (IntKind.wrap .i64 ((3 : Int) + n14))),some (vL (some ⟨(List.length r13.2),0,none⟩) 0),some (vI (0 : Int))] h15).bind fun q16=>
(if q16.1 = 2 then
j_PIL q16.2.1 fun p17 n18 l19=>
(run (Et base) 133 [(.pointer p17),(vI n18)] q16.2.2).bind fun r20=>
((some r20.1).bind (getI .i64)).bind fun n21=>
nw1 r20.2 143 [(vI (12 : Int)),(vI (0 : Int)),(vI (0 : Int)),(vI (0 : Int)),(vI n21),(vT (⟨#[]⟩ : ByteArray))] fun h22=>
(app base h22 143 6 56 l19.1 l19.2 (rawAt h22 (some ⟨(List.length r20.2),0,none⟩) (1 * 6)) 1).bind fun p23=>
((some p23.1).bind getS).bind fun l24=>
some ((vL l24.1 l24.2),p23.2)
else
none))) = some r) : run (Et base) 131 [(.pointer v0)] h = some r:=run_i (an:=a131) Try.func131 (by kernel_rfl) (.trans (by kernel_rfl) hx)
noncomputable def B132_0 (base : Nat) : Body:=fun l h=>lay s132_0 l fun s=>exCode (Et base) (run (Et base)) loopL a132_0 (subC [1,1,1,0,1,0,0] (bodyC Try.f132)) s h (keepK s132_0 e132_0)
theorem B132_0_eq (base : Nat) (v0 : Option Addr) (v1 : Int) (v4 : Addr) (v5 : Addr) (v6 : Int) (h : AH) : B132_0 base [some (.pointer v0),some (vI v1),some (vA v4),some (vA v5),some (vI v6)] h =
(((if (decide (v6 > (0 : Int))) = true then
some (.inl ([some (.pointer v0),some (vI v1),some (vA v4),some (vA v5),some (vI v6),some (.bool (decide (v1 > (0 : Int))))],h))
else
some (.inl ([some (.pointer v0),some (vI v1),some (vA v4),some (vA v5),some (vI v6),some (.bool false)],h)))).bind fun j1=>joinK j1 fun j1=>
j_PIAAIB j1.1 fun p2 n3 d4 d5 n6 b7=>
(if b7 = true then
((cell j1.2 d5.block (d5.off + 3)).bind getS).bind fun l8=>
(run (Et base) 132 [(.pointer p2),(vI (IntKind.wrap .i64 (n3 - (1 : Int))))] j1.2).bind fun r9=>
gG (some r9.1) 4 fun l10=>
l_IITL l10 fun n11 n12 s13 l14=>
(gate (sameA j1.2 r9.2 (some ⟨d5.block,(d5.off + 3),none⟩) 1)
((gate (neA (some ⟨d5.block,(d5.off + 3),none⟩) (List.length r9.2))
(nw1 r9.2 42 [(vI n11),(vI n12),(vT s13),(vL l14.1 l14.2)] fun h15=>
(app base h15 42 4 56 l8.1 l8.2 (rawAt h15 (some ⟨(List.length r9.2),0,none⟩) (1 * 4)) 1).bind fun p16=>
((some p16.1).bind getS).bind fun l17=>
(wr base p16.2 d5.block (d5.off + 3) [(vL l17.1 l17.2)]).bind fun h18=>
some (0,[some (.pointer p2),some (vI n3),some (vA d4),some (vA d5),some (vI (IntKind.wrap .i64 (n6 - (1 : Int))))],h18)))))
else
some (3,[some (vA d4),some (vA d5)],j1.2)) : Option (Nat × Slots × AH)):=by kernel_rfl
noncomputable abbrev qf132 (base : Nat) (v0 : Option Addr) (v1 : Int) (h : AH) : Option (Value × AH):=
nw1 h 42 [(vI 0),(vI 0),(vT ⟨#[]⟩),(vL none 0)] fun h1=>
(run (Et base) 133 [(.pointer v0),(vI (9 : Int))] h1).bind fun r2=>
((some r2.1).bind (getI .i64)).bind fun n3=>
((if (n3 == (0 : Int)) = true then
some (.inl ([some (.pointer v0),some (vI v1),some (vP (List.length h)),some (vI n3),some (.bool (n3 == (0 : Int)))],r2.2))
else
(if (n3 == (1 : Int)) = true then
some (.inl ([some (.pointer v0),some (vI v1),some (vP (List.length h)),some (vI n3),some (.bool (n3 == (1 : Int)))],r2.2))
else
some (.inl ([some (.pointer v0),some (vI v1),some (vP (List.length h)),some (vI n3),some (.bool (n3 == (2 : Int)))],r2.2))))).bind fun j4=>joinK j4 fun j4=>
j_PIAIB j4.1 fun p5 n6 d7 n8 b9=>
(if b9 = true then
(run (Et base) 133 [(.pointer p5),(vI (100 : Int))] j4.2).bind fun r10=>
((some r10.1).bind (getI .i64)).bind fun n11=>
nw1 r10.2 3 [(vI (0 : Int)),(vI (1 : Int)),(vI (-1 : Int)),(vI (7 : Int)),(vI (1000000 : Int)),(vI (-1000000 : Int)),(vI n11)] fun h12=>
(run (Et base) 135 [(.pointer p5),(vL (some ⟨(List.length r10.2),0,none⟩) 7)] h12).bind fun r13=>
((some r13.1).bind (getI .i64)).bind fun n14=>
(wr base r13.2 d7.block d7.off [(vI (1 : Int)),(vI n14),(vT (⟨#[]⟩ : ByteArray)),(vL none 0)]).bind fun h15=>
c_IITL h15 d7.block d7.off fun n16 n17 s18 l19=>
some ((.agg #[(vI n16),(vI n17),(vT s18),(vL l19.1 l19.2)]),h15)
else
((if (n8 == (3 : Int)) = true then
some (.inl ([some (.pointer p5),some (vI n6),some (vA d7),some (vI n8),some (.bool (n8 == (3 : Int)))],j4.2))
else
some (.inl ([some (.pointer p5),some (vI n6),some (vA d7),some (vI n8),some (.bool (n8 == (4 : Int)))],j4.2)))).bind fun j20=>joinK j20 fun j20=>
j_PIAIB j20.1 fun p21 n22 d23 n24 b25=>
(if b25 = true then
nw1 j20.2 9 [(vT (⟨#[111,107]⟩ : ByteArray)),(vT (⟨#[97]⟩ : ByteArray)),(vT (⟨#[115,116,111,112]⟩ : ByteArray)),(vT (⟨#[104,105,50]⟩ : ByteArray))] fun h26=>
(run (Et base) 172 [(.pointer p21),(vL (some ⟨(List.length j20.2),0,none⟩) 4)] h26).bind fun r27=>
((some r27.1).bind getStr).bind fun s28=>
(wr base r27.2 d23.block d23.off [(vI (2 : Int)),(vI (0 : Int)),(vT s28),(vL none 0)]).bind fun h29=>
c_IITL h29 d23.block d23.off fun n30 n31 s32 l33=>
some ((.agg #[(vI n30),(vI n31),(vT s32),(vL l33.1 l33.2)]),h29)
else
(if (n24 == (5 : Int)) = true then
(run (Et base) 133 [(.pointer p21),(vI (4 : Int))] j20.2).bind fun r34=>
((some r34.1).bind (getI .i64)).bind fun n35=>
(wr base r34.2 d23.block d23.off [(vI (3 : Int)),(vI n35),(vT (⟨#[]⟩ : ByteArray)),(vL none 0)]).bind fun h36=>
c_IITL h36 d23.block d23.off fun n37 n38 s39 l40=>
some ((.agg #[(vI n37),(vI n38),(vT s39),(vL l40.1 l40.2)]),h36)
else
(if (n24 == (6 : Int)) = true then
nw1 j20.2 9 [(vT (⟨#[]⟩ : ByteArray)),(vT (⟨#[120]⟩ : ByteArray)),(vT (⟨#[0,255]⟩ : ByteArray)),(vT (⟨#[104,101,108,108,111]⟩ : ByteArray))] fun h41=>
(run (Et base) 172 [(.pointer p21),(vL (some ⟨(List.length j20.2),0,none⟩) 4)] h41).bind fun r42=>
((some r42.1).bind getStr).bind fun s43=>
(wr base r42.2 d23.block d23.off [(vI (6 : Int)),(vI (0 : Int)),(vT s43),(vL none 0)]).bind fun h44=>
c_IITL h44 d23.block d23.off fun n45 n46 s47 l48=>
some ((.agg #[(vI n45),(vI n46),(vT s47),(vL l48.1 l48.2)]),h44)
else
nw1 j20.2 3 [(vI (4 : Int)),(vI (5 : Int))] fun h49=>
(run (Et base) 135 [(.pointer p21),(vL (some ⟨(List.length j20.2),0,none⟩) 2)] h49).bind fun r50=>
((some r50.1).bind (getI .i64)).bind fun n51=>
nw1 r50.2 42 [(vI 0),(vI 0),(vT ⟨#[]⟩),(vL none 0)] fun h52=>
(wr base h52 (List.length r50.2) 0 [(vI n51),(vI (0 : Int)),(vT (⟨#[]⟩ : ByteArray)),(vL none 0)]).bind fun h53=>
(run (Et base) 133 [(.pointer p21),(vI (4 : Int))] h53).bind fun r54=>
((some r54.1).bind (getI .i64)).bind fun n55=>
(loopL (B132_0 base) [some (.pointer p21),some (vI n22),some (vA d23),some (vP (List.length r50.2)),some (vI n55)] r54.2).bind fun q56=>
(if q56.1 = 3 then
j_AA q56.2.1 fun d57 d58=>
c_IITL q56.2.2 d58.block d58.off fun n59 n60 s61 l62=>
(wr base q56.2.2 d57.block d57.off [(vI n59),(vI n60),(vT s61),(vL l62.1 l62.2)]).bind fun h63=>
c_IITL h63 d57.block d57.off fun n64 n65 s66 l67=>
some ((.agg #[(vI n64),(vI n65),(vT s66),(vL l67.1 l67.2)]),h63)
else
none)))))
theorem r132 {base : Nat} {v0 : Option Addr} {v1 : Int} {h : AH} {r : Value × AH} (hx : qf132 base v0 v1 h = some r) : run (Et base) 132 [(.pointer v0),(vI v1)] h = some r:=run_i (an:=a132) Try.func132 (by kernel_rfl) (.trans (by kernel_rfl) hx)
theorem r133 {base : Nat} {v0 : Option Addr} {v1 : Int} {h : AH} {r : Value × AH} (hx : ((if (decide (v1≤(0 : Int))) = true then
some ((.int .i64 (0 : Int)),h)
else
(if (decide (v1≤(256 : Int))) = true then
(run (Et base) 173 [(.pointer v0)] h).bind fun r1=>
((some r1.1).bind (getI .i64)).bind fun n2=>
(if v1 = 0 then none else
some ((.int .i64 (Int.tmod n2 v1)),r1.2))
else
(run (Et base) 173 [(.pointer v0)] h).bind fun r3=>
((some r3.1).bind (getI .i64)).bind fun n4=>
(run (Et base) 173 [(.pointer v0)] r3.2).bind fun r5=>
((some r5.1).bind (getI .i64)).bind fun n6=>
(run (Et base) 173 [(.pointer v0)] r5.2).bind fun r7=>
((some r7.1).bind (getI .i64)).bind fun n8=>
(if v1 = 0 then none else
some ((.int .i64 (Int.tmod (IntKind.wrap .i64 ((IntKind.wrap .i64 ((IntKind.wrap .i64 (n4 * (65536 : Int))) + (IntKind.wrap .i64 (n6 * (256 : Int))))) + n8)) v1)),r7.2))))) = some r) : run (Et base) 133 [(.pointer v0),(vI v1)] h = some r:=run_i (an:=a133) Try.func133 (by kernel_rfl) (.trans (by kernel_rfl) hx)
end Go.Proofs.Ytkdenmdijdmnjaa.Am
