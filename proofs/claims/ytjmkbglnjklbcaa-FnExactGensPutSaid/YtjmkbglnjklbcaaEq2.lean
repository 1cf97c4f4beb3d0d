/- What each of these functions comes to on the abstract machine, one equation a function and one a loop.
Conditions: none. -/
import Derived.Test.YtjmkbglnjklbcaaTb
set_option linter.unusedVariables false
set_option maxRecDepth 100000
namespace Go.Proofs.Ytjmkbglnjklbcaa.Am
open Go Go.RowKit
noncomputable def B134_0 (base : Nat) : Body := fun l h => lay s134_0 l fun s => exCode (Et base) (run (Et base)) loopL a134_0 (subC [1, 1, 1, 1, 1, 1, 0, 1, 0, 0] (bodyC Try.f134)) s h (keepK s134_0 e134_0)
theorem B134_0_eq (base : Nat) (v0 : Option Addr) (v1 : Option Addr) (v5 : Addr) (v8 : Int) (v9 : Int) (v10 : Bool) (v11 : Int) (h : AH) : B134_0 base [some (.pointer v0), some (.pointer v1), some (vA v5), some (vI v8), some (vI v9), some (.bool v10), some (vI v11)] h =
((if (decide (v11 < v8)) = true then
(((cell h v5.block (v5.off + 3)).bind getS).bind fun l2 =>
(if 0 ≤ v11 ∧ v11 < ((l2.2 : Nat) : Int) then
((l2.1 : Option Addr)).bind fun a3 =>
c_IITL h a3.block (a3.off + Int.toNat v11 * 4) fun n4 n5 s6 l7 =>
(run (Et base) 72 [(.pointer v0), (.pointer v1), (.agg #[(vI n4), (vI n5), (vT s6), (vL l7.1 l7.2)])] h).bind fun r8 =>
(getTup 2 r8.1).bind fun l9 =>
l_IB l9 fun n10 b11 =>
(v0).bind fun a12 =>
((cell r8.2 a12.block a12.off).bind getS).bind fun l13 =>
(if 0 ≤ (IntKind.wrap .i64 (v9 + (IntKind.wrap .i64 ((2 : Int) * v11)))) ∧ (IntKind.wrap .i64 (v9 + (IntKind.wrap .i64 ((2 : Int) * v11)))) < ((l13.2 : Nat) : Int) then
((l13.1 : Option Addr)).bind fun a14 =>
(wr base r8.2 a14.block (a14.off + Int.toNat (IntKind.wrap .i64 (v9 + (IntKind.wrap .i64 ((2 : Int) * v11)))) * 1) [(vI n10)]).bind fun h15 =>
(v0).bind fun a16 =>
((cell h15 a16.block a16.off).bind getS).bind fun l17 =>
(run (Et base) 132 [(vI (5 : Int)), (vI (IntKind.wrap .i64 ((IntKind.wrap .i64 (v9 + (IntKind.wrap .i64 ((2 : Int) * v11)))) + (2 : Int))))] h15).bind fun r18 =>
((some r18.1).bind (getI .i64)).bind fun n19 =>
(gate (sameA h15 r18.2 (some a16) 1)
((if 0 ≤ (IntKind.wrap .i64 ((IntKind.wrap .i64 (v9 + (IntKind.wrap .i64 ((2 : Int) * v11)))) + (1 : Int))) ∧ (IntKind.wrap .i64 ((IntKind.wrap .i64 (v9 + (IntKind.wrap .i64 ((2 : Int) * v11)))) + (1 : Int))) < ((l17.2 : Nat) : Int) then
((l17.1 : Option Addr)).bind fun a20 =>
(wr base r18.2 a20.block (a20.off + Int.toNat (IntKind.wrap .i64 ((IntKind.wrap .i64 (v9 + (IntKind.wrap .i64 ((2 : Int) * v11)))) + (1 : Int))) * 1) [(vI n19)]).bind fun h21 =>
(if v10 = true then
some (.inl ([some (.pointer v0), some (.pointer v1), some (vA v5), some (vI v8), some (vI v9), some (.bool b11), some (vI v11)], h21))
else
some (.inl ([some (.pointer v0), some (.pointer v1), some (vA v5), some (vI v8), some (vI v9), some (.bool false), some (vI v11)], h21)))
else none)))
else none)
else none)).bind fun j1 => joinK j1 fun j1 =>
j_PPAIIBI j1.1 fun p22 p23 d24 n25 n26 b27 n28 =>
some (0, [some (.pointer p22), some (.pointer p23), some (vA d24), some (vI n25), some (vI n26), some (.bool b27), some (vI (IntKind.wrap .i64 (n28 + (1 : Int))))], j1.2)
else
some (2, [some (.pointer v0), some (vI v8), some (vI v9), some (.bool v10)], h)) : Option (Nat × Slots × AH)) := by kernel_rfl
theorem r134 {base : Nat} {v0 : Option Addr} {v1 : Option Addr} {v2_0 : Int} {v2_1 : Int} {v2_2 : ByteArray} {v2_3 : Option Addr} {v2_3n : Nat} {h : AH} {r : Value × AH} (hx : (nw1 h 39 [(vI v2_0), (vI v2_1), (vT v2_2), (vL v2_3 v2_3n)] fun h1 =>
((cell h1 (List.length h) 3).bind getS).bind fun l2 =>
(if (((l2.2 : Nat) : Int) == (0 : Int)) = true then
(run (Et base) 132 [(vI (3 : Int)), (vI (0 : Int))] h1).bind fun r3 =>
((some r3.1).bind (getI .i64)).bind fun n4 =>
some ((.tuple #[(vI n4), (.bool true)]), r3.2)
else
(v0).bind fun a5 =>
((cell h1 a5.block a5.off).bind getS).bind fun l6 =>
(v0).bind fun a7 =>
((cell h1 a7.block a7.off).bind getS).bind fun l8 =>
(if 0 ≤ (IntKind.wrap .i64 ((2 : Int) * ((l2.2 : Nat) : Int))) ∧ (IntKind.wrap .i64 ((2 : Int) * ((l2.2 : Nat) : Int))) ≤ 140737488355328 then
(app base h1 3 1 8 l8.1 l8.2 (some (rep [(vI 0)] (Int.toNat (IntKind.wrap .i64 ((2 : Int) * ((l2.2 : Nat) : Int)))))) (Int.toNat (IntKind.wrap .i64 ((2 : Int) * ((l2.2 : Nat) : Int))))).bind fun p9 =>
((some p9.1).bind getS).bind fun l10 =>
(v0).bind fun a11 =>
(wr base p9.2 a11.block a11.off [(vL l10.1 l10.2)]).bind fun h12 =>
(loopL (B134_0 base) [some (.pointer v0), some (.pointer v1), some (vP (List.length h)), some (vI ((l2.2 : Nat) : Int)), some (vI ((l6.2 : Nat) : Int)), some (.bool true), some (vI (0 : Int))] h12).bind fun q13 =>
(if q13.1 = 2 then
j_PIIB q13.2.1 fun p14 n15 n16 b17 =>
(p14).bind fun a18 =>
((cell q13.2.2 a18.block a18.off).bind getS).bind fun l19 =>
(run (Et base) 132 [(vI (3 : Int)), (vI (0 : Int))] q13.2.2).bind fun r20 =>
((some r20.1).bind (getI .i64)).bind fun n21 =>
(gate (sameA q13.2.2 r20.2 (some a18) 1)
((if 0 ≤ (IntKind.wrap .i64 ((IntKind.wrap .i64 (n16 + (IntKind.wrap .i64 ((2 : Int) * n15)))) - (1 : Int))) ∧ (IntKind.wrap .i64 ((IntKind.wrap .i64 (n16 + (IntKind.wrap .i64 ((2 : Int) * n15)))) - (1 : Int))) < ((l19.2 : Nat) : Int) then
((l19.1 : Option Addr)).bind fun a22 =>
(wr base r20.2 a22.block (a22.off + Int.toNat (IntKind.wrap .i64 ((IntKind.wrap .i64 (n16 + (IntKind.wrap .i64 ((2 : Int) * n15)))) - (1 : Int))) * 1) [(vI n21)]).bind fun h23 =>
(run (Et base) 132 [(vI (5 : Int)), (vI n16)] h23).bind fun r24 =>
((some r24.1).bind (getI .i64)).bind fun n25 =>
some ((.tuple #[(vI n25), (.bool b17)]), r24.2)
else none)))
else
none)
else none))) = some r) : run (Et base) 134 [(.pointer v0), (.pointer v1), (.agg #[(vI v2_0), (vI v2_1), (vT v2_2), (vL v2_3 v2_3n)])] h = some r := run_i (an := a134) Try.func134 (by kernel_rfl) (.trans (by kernel_rfl) hx)
noncomputable def B135_0 (base : Nat) : Body := fun l h => lay s135_0 l fun s => exCode (Et base) (run (Et base)) loopL a135_0 (subC [1, 1, 1, 0, 1, 0, 0] (bodyC Try.f135)) s h (keepK s135_0 e135_0)
theorem B135_0_eq (base : Nat) (v3 : Int) (v27 : Option Addr) (v27n : Nat) (v28 : Int) (v29 : Int) (h : AH) : B135_0 base [some (vI v3), some (vL v27 v27n), some (vI v28), some (vI v29)] h =
((if (decide (v29 < v28)) = true then
(if 0 ≤ v29 ∧ v29 < ((v27n : Nat) : Int) then
((v27 : Option Addr)).bind fun a1 =>
((cell h a1.block (a1.off + Int.toNat v29 * 4)).bind (getI .i64)).bind fun n2 =>
((cell h a1.block ((a1.off + Int.toNat v29 * 4) + 1)).bind (getI .i64)).bind fun n3 =>
((cell h a1.block (((a1.off + Int.toNat v29 * 4) + 1) + 1)).bind getStr).bind fun s4 =>
((cell h a1.block ((((a1.off + Int.toNat v29 * 4) + 1) + 1) + 1)).bind getS).bind fun l5 =>
(some (h ++ [some ⟨[(.int .i64 0), (.int .i64 0), (.string ⟨#[]⟩), (.slice none 0 0)], 39⟩])).bind fun h6 =>
(wr base h6 (List.length h) 0 [(.int .i64 n2), (.int .i64 n3), (.string s4), (.slice l5.1 l5.2 l5.2)]).bind fun h7 =>
((cell h7 (List.length h) 0).bind (getI .i64)).bind fun n8 =>
((cell h7 (List.length h) 1).bind (getI .i64)).bind fun n9 =>
((cell h7 (List.length h) 2).bind getStr).bind fun s10 =>
((cell h7 (List.length h) 3).bind getS).bind fun l11 =>
(run (Et base) 135 [(.agg #[(.int .i64 n8), (.int .i64 n9), (.string s10), (.slice l11.1 l11.2 l11.2)])] h7).bind fun r12 =>
((some r12.1).bind (getI .i64)).bind fun n13 =>
some (0, [some (.int .i64 (IntKind.wrap .i64 (v3 + n13))), some (.slice v27 v27n v27n), some (.int .i64 v28), some (.int .i64 (IntKind.wrap .i64 (v29 + (1 : Int))))], r12.2)
else none)
else
some (3, [some (.int .i64 v3)], h)) : Option (Nat × Slots × AH)) := by kernel_rfl
theorem r135 {base : Nat} {v0_0 : Int} {v0_1 : Int} {v0_2 : ByteArray} {v0_3 : Option Addr} {v0_3n : Nat} {h : AH} {r : Value × AH} (hx : ((some (h ++ [some ⟨[(.int .i64 v0_0), (.int .i64 v0_1), (.string v0_2), (.slice v0_3 v0_3n v0_3n)], 39⟩])).bind fun h1 =>
(((cell h1 (List.length h) 0).bind (getI .i64)).bind fun n3 =>
(if (n3 == (6 : Int)) = true then
((cell h1 (List.length h) 2).bind getStr).bind fun s4 =>
(some ((.int .i64 (IntKind.wrap .i64 ((1 : Int) + (s4.size : Int)))), h1)).map .inr
else
(if (n3 == (4 : Int)) = true then
((cell h1 (List.length h) 3).bind getS).bind fun l5 =>
some (.inl ([some (.pointer (some ⟨(List.length h), 0, none⟩)), some (.int .i64 (IntKind.wrap .i64 ((1 : Int) + ((l5.2 : Nat) : Int))))], h1))
else
(if (n3 == (5 : Int)) = true then
((cell h1 (List.length h) 3).bind getS).bind fun l6 =>
some (.inl ([some (.pointer (some ⟨(List.length h), 0, none⟩)), some (.int .i64 (IntKind.wrap .i64 ((2 : Int) * ((l6.2 : Nat) : Int))))], h1))
else
(some ((.int .i64 (0 : Int)), h1)).map .inr)))).bind fun j2 => joinK j2 fun j2 =>
((sget j2.1 0).bind getA).bind fun d7 =>
((sget (j2.1.tail) 0).bind (getI .i64)).bind fun n8 =>
((cell j2.2 d7.block (d7.off + 3)).bind getS).bind fun l9 =>
(loopL (B135_0 base) [some (.int .i64 n8), some (.slice l9.1 l9.2 l9.2), some (.int .i64 ((l9.2 : Nat) : Int)), some (.int .i64 (0 : Int))] j2.2).bind fun q10 =>
(if q10.1 = 3 then
((sget q10.2.1 0).bind (getI .i64)).bind fun n11 =>
some ((.int .i64 n11), q10.2.2)
else
none)) = some r) : run (Et base) 135 [(.agg #[(vI v0_0), (vI v0_1), (vT v0_2), (vL v0_3 v0_3n)])] h = some r := run_i (an := a135) Try.func135 (by kernel_rfl) (.trans (by kernel_rfl) hx)
noncomputable def B136_1 (base : Nat) : Body := fun l h => lay s136_1 l fun s => exCode (Et base) (run (Et base)) loopL a136_1 (subC [1, 0, 1, 0, 1, 1, 1, 1, 1, 1, 1, 1, 1, 0, 1, 1, 0, 1, 0, 0] (bodyC Try.f136)) s h (keepK s136_1 e136_1)
noncomputable def B136_0 (base : Nat) : Body := fun l h => lay s136_0 l fun s => exCode (Et base) (run (Et base)) loopL a136_0 (subC [1, 0, 1, 0, 1, 1, 1, 1, 1, 1, 1, 0, 1, 1, 0, 1, 0, 0] (bodyC Try.f136)) s h (keepK s136_0 e136_0)
theorem B136_1_eq (base : Nat) (v0 : Option Addr) (v9 : Int) (v118 : Option Addr) (v118n : Nat) (v119 : Int) (v120 : Int) (h : AH) : B136_1 base [some (.pointer v0), some (vI v9), some (vL v118 v118n), some (vI v119), some (vI v120)] h =
((if (decide (v120 < v119)) = true then
(if 0 ≤ v120 ∧ v120 < ((v118n : Nat) : Int) then
((v118 : Option Addr)).bind fun a1 =>
c_IITL h a1.block (a1.off + Int.toNat v120 * 4) fun n2 n3 s4 l5 =>
nw1 h 39 [(vI 0), (vI 0), (vT ⟨#[]⟩), (vL none 0)] fun h6 =>
(wr base h6 (List.length h) 0 [(vI n2), (vI n3), (vT s4), (vL l5.1 l5.2)]).bind fun h7 =>
c_IITL h7 (List.length h) 0 fun n8 n9 s10 l11 =>
(run (Et base) 136 [(.pointer v0), (.agg #[(vI n8), (vI n9), (vT s10), (vL l11.1 l11.2)])] h7).bind fun r12 =>
((some r12.1).bind (getI .i64)).bind fun n13 =>
(v0).bind fun a14 =>
((cell r12.2 a14.block (a14.off + 0)).bind getS).bind fun l15 =>
(if 0 ≤ (IntKind.wrap .i64 ((IntKind.wrap .i64 (v9 + (1 : Int))) + v120)) ∧ (IntKind.wrap .i64 ((IntKind.wrap .i64 (v9 + (1 : Int))) + v120)) < ((l15.2 : Nat) : Int) then
((l15.1 : Option Addr)).bind fun a16 =>
(wr base r12.2 a16.block (a16.off + Int.toNat (IntKind.wrap .i64 ((IntKind.wrap .i64 (v9 + (1 : Int))) + v120)) * 1) [(vI n13)]).bind fun h17 =>
some (0, [some (.pointer v0), some (vI v9), some (vL v118 v118n), some (vI v119), some (vI (IntKind.wrap .i64 (v120 + (1 : Int))))], h17)
else none)
else none)
else
some (5, [some (.pointer v0), some (vI v9)], h)) : Option (Nat × Slots × AH)) := by kernel_rfl
theorem B136_0_eq (base : Nat) (v0 : Option Addr) (v3 : Addr) (v7 : Int) (v8 : Int) (h : AH) : B136_0 base [some (.pointer v0), some (vA v3), some (vI v7), some (vI v8)] h =
(((cell h v3.block (v3.off + 2)).bind getStr).bind fun s1 =>
(if (decide (v8 < (s1.size : Int))) = true then
(v0).bind fun a2 =>
((cell h a2.block (a2.off + 0)).bind getS).bind fun l3 =>
((cell h v3.block (v3.off + 2)).bind getStr).bind fun s4 =>
(if 0 ≤ v8 ∧ v8 < (s4.size : Int) then
(if 0 ≤ (IntKind.wrap .i64 ((IntKind.wrap .i64 (v7 + (1 : Int))) + v8)) ∧ (IntKind.wrap .i64 ((IntKind.wrap .i64 (v7 + (1 : Int))) + v8)) < ((l3.2 : Nat) : Int) then
((l3.1 : Option Addr)).bind fun a5 =>
(wr base h a5.block (a5.off + Int.toNat (IntKind.wrap .i64 ((IntKind.wrap .i64 (v7 + (1 : Int))) + v8)) * 1) [(.int .i64 (IntKind.wrap .i64 ((s4.data.toList.getD (Int.toNat v8) 0).toNat : Int)))]).bind fun h6 =>
some (0, [some (.pointer v0), some (.pointer (some v3)), some (.int .i64 v7), some (.int .i64 (IntKind.wrap .i64 (v8 + (1 : Int))))], h6)
else none)
else none)
else
some (3, [some (.pointer v0), some (.int .i64 v7)], h)) : Option (Nat × Slots × AH)) := by kernel_rfl
noncomputable abbrev qf136 (base : Nat) (v0 : Option Addr) (v1_0 : Int) (v1_1 : Int) (v1_2 : ByteArray) (v1_3 : Option Addr) (v1_3n : Nat) (h : AH) : Option (Value × AH) :=
nw1 h 39 [(vI v1_0), (vI v1_1), (vT v1_2), (vL v1_3 v1_3n)] fun h1 =>
((cell h1 (List.length h) 0).bind (getI .i64)).bind fun n2 =>
(if (n2 == (1 : Int)) = true then
((cell h1 (List.length h) 1).bind (getI .i64)).bind fun n3 =>
(run (Et base) 174 [(vI (0 : Int)), (vI (IntKind.wrap .i64 (n3 + (1000000 : Int))))] h1).bind fun r4 =>
((some r4.1).bind (getI .i64)).bind fun n5 =>
some ((vI n5), r4.2)
else
(if (n2 == (2 : Int)) = true then
(v0).bind fun a6 =>
((cell h1 a6.block (a6.off + 2)).bind getS).bind fun l7 =>
((cell h1 (List.length h) 2).bind getStr).bind fun s8 =>
(run (Et base) 175 [(vL l7.1 l7.2), (vT s8)] h1).bind fun r9 =>
(getTup 2 r9.1).bind fun l10 =>
l_LI l10 fun l11 n12 =>
(v0).bind fun a13 =>
(wr base r9.2 a13.block (a13.off + 2) [(vL l11.1 l11.2)]).bind fun h14 =>
((v0).bind fun a16 =>
((cell h14 a16.block (a16.off + 3)).bind getB).bind fun b17 =>
(if b17 = true then
(v0).bind fun a18 =>
(wr base h14 a18.block (a18.off + 3) [(.bool true)]).bind fun h19 =>
some (.inl ([some (vI n12)], h19))
else
(v0).bind fun a20 =>
(wr base h14 a20.block (a20.off + 3) [(.bool (decide (n12 < (0 : Int))))]).bind fun h21 =>
some (.inl ([some (vI n12)], h21)))).bind fun j15 => joinK j15 fun j15 =>
((sget j15.1 0).bind (getI .i64)).bind fun n22 =>
(run (Et base) 174 [(vI (1 : Int)), (vI n22)] j15.2).bind fun r23 =>
((some r23.1).bind (getI .i64)).bind fun n24 =>
some ((vI n24), r23.2)
else
(if (n2 == (3 : Int)) = true then
((cell h1 (List.length h) 1).bind (getI .i64)).bind fun n25 =>
(run (Et base) 174 [(vI (2 : Int)), (vI n25)] h1).bind fun r26 =>
((some r26.1).bind (getI .i64)).bind fun n27 =>
some ((vI n27), r26.2)
else
(if (n2 == (6 : Int)) = true then
((cell h1 (List.length h) 2).bind getStr).bind fun s28 =>
(run (Et base) 176 [(.pointer v0), (vI (IntKind.wrap .i64 ((1 : Int) + (s28.size : Int))))] h1).bind fun r29 =>
((some r29.1).bind (getI .i64)).bind fun n30 =>
(v0).bind fun a31 =>
((cell r29.2 a31.block (a31.off + 0)).bind getS).bind fun l32 =>
((cell r29.2 (List.length h) 2).bind getStr).bind fun s33 =>
(if 0 ≤ n30 ∧ n30 < ((l32.2 : Nat) : Int) then
((l32.1 : Option Addr)).bind fun a34 =>
(wr base r29.2 a34.block (a34.off + Int.toNat n30 * 1) [(vI (s33.size : Int))]).bind fun h35 =>
(loopL (B136_0 base) [some (.pointer v0), some (vP (List.length h)), some (vI n30), some (vI (0 : Int))] h35).bind fun q36 =>
(if q36.1 = 3 then
j_PI q36.2.1 fun p37 n38 =>
(p37).bind fun a39 =>
((cell q36.2.2 a39.block (a39.off + 1)).bind (getI .i64)).bind fun n40 =>
(run (Et base) 174 [(vI (6 : Int)), (vI (IntKind.wrap .i64 (n40 + n38)))] q36.2.2).bind fun r41 =>
((some r41.1).bind (getI .i64)).bind fun n42 =>
some ((vI n42), r41.2)
else
none)
else none)
else
(if (n2 == (4 : Int)) = true then
((cell h1 (List.length h) 3).bind getS).bind fun l43 =>
(run (Et base) 176 [(.pointer v0), (vI (IntKind.wrap .i64 ((1 : Int) + ((l43.2 : Nat) : Int))))] h1).bind fun r44 =>
((some r44.1).bind (getI .i64)).bind fun n45 =>
(v0).bind fun a46 =>
((cell r44.2 a46.block (a46.off + 0)).bind getS).bind fun l47 =>
((cell r44.2 (List.length h) 3).bind getS).bind fun l48 =>
(if 0 ≤ n45 ∧ n45 < ((l47.2 : Nat) : Int) then
((l47.1 : Option Addr)).bind fun a49 =>
(wr base r44.2 a49.block (a49.off + Int.toNat n45 * 1) [(vI ((l48.2 : Nat) : Int))]).bind fun h50 =>
((cell h50 (List.length h) 3).bind getS).bind fun l51 =>
(loopL (B136_1 base) [some (.pointer v0), some (vI n45), some (vL l51.1 l51.2), some (vI ((l51.2 : Nat) : Int)), some (vI (0 : Int))] h50).bind fun q52 =>
(if q52.1 = 5 then
j_PI q52.2.1 fun p53 n54 =>
(p53).bind fun a55 =>
((cell q52.2.2 a55.block (a55.off + 1)).bind (getI .i64)).bind fun n56 =>
(run (Et base) 174 [(vI (4 : Int)), (vI (IntKind.wrap .i64 (n56 + n54)))] q52.2.2).bind fun r57 =>
((some r57.1).bind (getI .i64)).bind fun n58 =>
some ((vI n58), r57.2)
else
none)
else none)
else
((cell h1 (List.length h) 3).bind getS).bind fun l59 =>
(run (Et base) 177 [(.pointer v0), (vL l59.1 l59.2)] h1).bind fun r60 =>
((some r60.1).bind (getI .i64)).bind fun n61 =>
some ((vI n61), r60.2))))))
theorem r136 {base : Nat} {v0 : Option Addr} {v1_0 : Int} {v1_1 : Int} {v1_2 : ByteArray} {v1_3 : Option Addr} {v1_3n : Nat} {h : AH} {r : Value × AH} (hx : qf136 base v0 v1_0 v1_1 v1_2 v1_3 v1_3n h = some r) : run (Et base) 136 [(.pointer v0), (.agg #[(vI v1_0), (vI v1_1), (vT v1_2), (vL v1_3 v1_3n)])] h = some r := run_i (an := a136) Try.func136 (by kernel_rfl) (.trans (by kernel_rfl) hx)
noncomputable def B137_2 (base : Nat) : Body := fun l h => lay s137_2 l fun s => exCode (Et base) (run (Et base)) loopL a137_2 (subC [1, 1, 0, 1, 1, 1, 1, 1, 0, 1, 0, 0] (bodyC Try.f137)) s h (keepK s137_2 e137_2)
noncomputable def B137_1 (base : Nat) : Body := fun l h => lay s137_1 l fun s => exCode (Et base) (run (Et base)) loopL a137_1 (subC [1, 1, 0, 1, 1, 1, 0, 1, 1, 0, 0] (bodyC Try.f137)) s h (keepK s137_1 e137_1)
noncomputable def B137_0 (base : Nat) : Body := fun l h => lay s137_0 l fun s => exCode (Et base) (run (Et base)) loopL a137_0 (subC [1, 1, 0, 1, 0, 1, 0, 0] (bodyC Try.f137)) s h (keepK s137_0 e137_0)
theorem B137_2_eq (base : Nat) (v0 : Option Addr) (v0n : Nat) (v1 : Option Addr) (v1n : Nat) (v3 : Int) (v8 : Int) (v11 : Int) (h : AH) : B137_2 base [some (vL v0 v0n), some (vL v1 v1n), some (vI v3), some (vI v8), some (vI v11)] h =
((if (decide (v11 < (IntKind.wrap .i64 (v8 + (2 : Int))))) = true then
(if 0 ≤ v11 ∧ v11 < ((v0n : Nat) : Int) then
((v0 : Option Addr)).bind fun a1 =>
((cell h a1.block (a1.off + Int.toNat v11 * 1)).bind (getI .i64)).bind fun n2 =>
(run (Et base) 138 [(.int .i64 n2), (.int .i64 v3)] h).bind fun r3 =>
((some r3.1).bind (getI .i64)).bind fun n4 =>
(if 0 ≤ v11 ∧ v11 < ((v1n : Nat) : Int) then
((v1 : Option Addr)).bind fun a5 =>
(wr base r3.2 a5.block (a5.off + Int.toNat v11 * 1) [(.int .i64 n4)]).bind fun h6 =>
(if 0 ≤ v11 ∧ v11 < ((v0n : Nat) : Int) then
((v0 : Option Addr)).bind fun a7 =>
((cell h6 a7.block (a7.off + Int.toNat v11 * 1)).bind (getI .i64)).bind fun n8 =>
(run (Et base) 137 [(.slice v0 v0n v0n), (.slice v1 v1n v1n), (.int .i64 n8), (.int .i64 v3)] h6).bind fun r9 =>
(getTup 0 r9.1).bind fun _ =>
some (0, [some (.slice v0 v0n v0n), some (.slice v1 v1n v1n), some (.int .i64 v3), some (.int .i64 v8), some (.int .i64 (IntKind.wrap .i64 (v11 + (1 : Int))))], r9.2)
else none)
else none)
else none)
else
some (7, [], h)) : Option (Nat × Slots × AH)) := by kernel_rfl
theorem B137_1_eq (base : Nat) (v0 : Option Addr) (v0n : Nat) (v1 : Option Addr) (v1n : Nat) (v3 : Int) (v8 : Int) (v10 : Int) (h : AH) : B137_1 base [some (vL v0 v0n), some (vL v1 v1n), some (vI v3), some (vI v8), some (vI v10)] h =
((if 0 ≤ v8 ∧ v8 < ((v0n : Nat) : Int) then
((v0 : Option Addr)).bind fun a1 =>
((cell h a1.block (a1.off + Int.toNat v8 * 1)).bind (getI .i64)).bind fun n2 =>
(if (decide (v10 ≤ (IntKind.wrap .i64 (v8 + n2)))) = true then
(if 0 ≤ v10 ∧ v10 < ((v0n : Nat) : Int) then
((v0 : Option Addr)).bind fun a3 =>
((cell h a3.block (a3.off + Int.toNat v10 * 1)).bind (getI .i64)).bind fun n4 =>
(run (Et base) 138 [(.int .i64 n4), (.int .i64 v3)] h).bind fun r5 =>
((some r5.1).bind (getI .i64)).bind fun n6 =>
(if 0 ≤ v10 ∧ v10 < ((v1n : Nat) : Int) then
((v1 : Option Addr)).bind fun a7 =>
(wr base r5.2 a7.block (a7.off + Int.toNat v10 * 1) [(.int .i64 n6)]).bind fun h8 =>
(if 0 ≤ v10 ∧ v10 < ((v0n : Nat) : Int) then
((v0 : Option Addr)).bind fun a9 =>
((cell h8 a9.block (a9.off + Int.toNat v10 * 1)).bind (getI .i64)).bind fun n10 =>
(run (Et base) 137 [(.slice v0 v0n v0n), (.slice v1 v1n v1n), (.int .i64 n10), (.int .i64 v3)] h8).bind fun r11 =>
(getTup 0 r11.1).bind fun _ =>
some (0, [some (.slice v0 v0n v0n), some (.slice v1 v1n v1n), some (.int .i64 v3), some (.int .i64 v8), some (.int .i64 (IntKind.wrap .i64 (v10 + (1 : Int))))], r11.2)
else none)
else none)
else none)
else
some (5, [], h))
else none) : Option (Nat × Slots × AH)) := by kernel_rfl
theorem B137_0_eq (base : Nat) (v0 : Option Addr) (v0n : Nat) (v1 : Option Addr) (v1n : Nat) (v8 : Int) (v9 : Int) (h : AH) : B137_0 base [some (vL v0 v0n), some (vL v1 v1n), some (vI v8), some (vI v9)] h =
((if 0 ≤ v8 ∧ v8 < ((v0n : Nat) : Int) then
((v0 : Option Addr)).bind fun a1 =>
((cell h a1.block (a1.off + Int.toNat v8 * 1)).bind (getI .i64)).bind fun n2 =>
(if (decide (v9 ≤ (IntKind.wrap .i64 (v8 + n2)))) = true then
(if 0 ≤ v9 ∧ v9 < ((v0n : Nat) : Int) then
((v0 : Option Addr)).bind fun a3 =>
((cell h a3.block (a3.off + Int.toNat v9 * 1)).bind (getI .i64)).bind fun n4 =>
(if 0 ≤ v9 ∧ v9 < ((v1n : Nat) : Int) then
((v1 : Option Addr)).bind fun a5 =>
(wr base h a5.block (a5.off + Int.toNat v9 * 1) [(.int .i64 n4)]).bind fun h6 =>
some (0, [some (.slice v0 v0n v0n), some (.slice v1 v1n v1n), some (.int .i64 v8), some (.int .i64 (IntKind.wrap .i64 (v9 + (1 : Int))))], h6)
else none)
else none)
else
some (3, [], h))
else none) : Option (Nat × Slots × AH)) := by kernel_rfl
theorem r137 {base : Nat} {v0 : Option Addr} {v0n : Nat} {v1 : Option Addr} {v1n : Nat} {v2 : Int} {v3 : Int} {h : AH} {r : Value × AH} (hx : ((run (Et base) 143 [(.int .i64 v2)] h).bind fun r1 =>
((some r1.1).bind (getI .i64)).bind fun n2 =>
(run (Et base) 145 [(.int .i64 v2)] r1.2).bind fun r3 =>
((some r3.1).bind (getI .i64)).bind fun n4 =>
(if (n4 == (6 : Int)) = true then
(loopL (B137_0 base) [some (.slice v0 v0n v0n), some (.slice v1 v1n v1n), some (.int .i64 n2), some (.int .i64 n2)] r3.2).bind fun q5 =>
(if q5.1 = 3 then
some ((.tuple #[]), q5.2.2)
else
none)
else
(if (n4 == (4 : Int)) = true then
(if 0 ≤ n2 ∧ n2 < ((v0n : Nat) : Int) then
((v0 : Option Addr)).bind fun a6 =>
((cell r3.2 a6.block (a6.off + Int.toNat n2 * 1)).bind (getI .i64)).bind fun n7 =>
(if 0 ≤ n2 ∧ n2 < ((v1n : Nat) : Int) then
((v1 : Option Addr)).bind fun a8 =>
(wr base r3.2 a8.block (a8.off + Int.toNat n2 * 1) [(.int .i64 n7)]).bind fun h9 =>
(loopL (B137_1 base) [some (.slice v0 v0n v0n), some (.slice v1 v1n v1n), some (.int .i64 v3), some (.int .i64 n2), some (.int .i64 (IntKind.wrap .i64 (n2 + (1 : Int))))] h9).bind fun q10 =>
(if q10.1 = 5 then
some ((.tuple #[]), q10.2.2)
else
none)
else none)
else none)
else
(if (n4 == (5 : Int)) = true then
(loopL (B137_2 base) [some (.slice v0 v0n v0n), some (.slice v1 v1n v1n), some (.int .i64 v3), some (.int .i64 n2), some (.int .i64 n2)] r3.2).bind fun q11 =>
(if q11.1 = 7 then
some ((.tuple #[]), q11.2.2)
else
none)
else
some ((.tuple #[]), r3.2))))) = some r) : run (Et base) 137 [(vL v0 v0n), (vL v1 v1n), (vI v2), (vI v3)] h = some r := run_i (an := a137) Try.func137 (by kernel_rfl) (.trans (by kernel_rfl) hx)
theorem r138 {base : Nat} {v0 : Int} {v1 : Int} {h : AH} {r : Value × AH} (hx : ((run (Et base) 145 [(.int .i64 v0)] h).bind fun r1 =>
((some r1.1).bind (getI .i64)).bind fun n2 =>
(run (Et base) 83 [(.int .i64 n2), (.int .i64 (4 : Int)), (.int .i64 (6 : Int))] r1.2).bind fun r3 =>
((some r3.1).bind getB).bind fun b4 =>
(if b4 = true then
(run (Et base) 145 [(.int .i64 v0)] r3.2).bind fun r5 =>
((some r5.1).bind (getI .i64)).bind fun n6 =>
(run (Et base) 143 [(.int .i64 v0)] r5.2).bind fun r7 =>
((some r7.1).bind (getI .i64)).bind fun n8 =>
(run (Et base) 132 [(.int .i64 n6), (.int .i64 (IntKind.wrap .i64 (n8 + v1)))] r7.2).bind fun r9 =>
((some r9.1).bind (getI .i64)).bind fun n10 =>
some ((.int .i64 n10), r9.2)
else
some ((.int .i64 v0), r3.2))) = some r) : run (Et base) 138 [(vI v0), (vI v1)] h = some r := run_i (an := a138) Try.func138 (by kernel_rfl) (.trans (by kernel_rfl) hx)
noncomputable def B139_0 (base : Nat) : Body := fun l h => lay s139_0 l fun s => exCode (Et base) (run (Et base)) loopL a139_0 (subC [1, 0, 1, 0, 0] (bodyC Try.f139)) s h (keepK s139_0 e139_0)
theorem B139_0_eq (base : Nat) (v0 : ByteArray) (v3 : Int) (h : AH) : B139_0 base [some (vT v0), some (vI v3)] h =
((if (decide (v3 < (v0.size : Int))) = true then
(if 0 ≤ v3 ∧ v3 < (v0.size : Int) then
(run (Et base) 83 [(.int .i64 (IntKind.wrap .i64 ((v0.data.toList.getD (Int.toNat v3) 0).toNat : Int))), (.int .i64 (97 : Int)), (.int .i64 (122 : Int))] h).bind fun r1 =>
((some r1.1).bind getB).bind fun b2 =>
((if (!b2) = true then
(if (v3 == (0 : Int)) = true then
some (.inl ([some (.string v0), some (.int .i64 v3), some (.bool true)], r1.2))
else
(if 0 ≤ v3 ∧ v3 < (v0.size : Int) then
(run (Et base) 83 [(.int .i64 (IntKind.wrap .i64 ((v0.data.toList.getD (Int.toNat v3) 0).toNat : Int))), (.int .i64 (48 : Int)), (.int .i64 (57 : Int))] r1.2).bind fun r4 =>
((some r4.1).bind getB).bind fun b5 =>
some (.inl ([some (.string v0), some (.int .i64 v3), some (.bool (!b5))], r4.2))
else none))
else
some (.inl ([some (.string v0), some (.int .i64 v3), some (.bool false)], r1.2)))).bind fun j3 => joinK j3 fun j3 =>
((sget j3.1 0).bind getStr).bind fun s6 =>
((sget (j3.1.tail) 0).bind (getI .i64)).bind fun n7 =>
((sget (j3.1.tail.tail) 0).bind getB).bind fun b8 =>
(if b8 = true then
some (1, [some (.bool false)], j3.2)
else
some (0, [some (.string s6), some (.int .i64 (IntKind.wrap .i64 (n7 + (1 : Int))))], j3.2))
else none)
else
some (2, [some (.string v0)], h)) : Option (Nat × Slots × AH)) := by kernel_rfl
theorem r139 {base : Nat} {v0 : ByteArray} {h : AH} {r : Value × AH} (hx : ((loopL (B139_0 base) [some (.string v0), some (.int .i64 (0 : Int))] h).bind fun q1 =>
(if q1.1 = 1 then
((sget q1.2.1 0).bind getB).bind fun b2 =>
some ((.bool b2), q1.2.2)
else
(if q1.1 = 2 then
((sget q1.2.1 0).bind getStr).bind fun s3 =>
(run (Et base) 83 [(.int .i64 (s3.size : Int)), (.int .i64 (1 : Int)), (.int .i64 (12 : Int))] q1.2.2).bind fun r4 =>
((some r4.1).bind getB).bind fun b5 =>
some ((.bool b5), r4.2)
else
none))) = some r) : run (Et base) 139 [(vT v0)] h = some r := run_i (an := a139) Try.func139 (by kernel_rfl) (.trans (by kernel_rfl) hx)
noncomputable def B140_0 (base : Nat) : Body := fun l h => lay s140_0 l fun s => exCode (Et base) (run (Et base)) loopL a140_0 (subC [1, 0, 1, 0, 0] (bodyC Try.f140)) s h (keepK s140_0 e140_0)
theorem B140_0_eq (base : Nat) (v0 : Option Addr) (v0n : Nat) (v1 : ByteArray) (v5 : Int) (h : AH) : B140_0 base [some (vL v0 v0n), some (vT v1), some (vI v5)] h =
((if (decide (v5 < ((v0n : Nat) : Int))) = true then
(if 0 ≤ v5 ∧ v5 < ((v0n : Nat) : Int) then
((v0 : Option Addr)).bind fun a1 =>
((cell h a1.block (a1.off + Int.toNat v5 * 1)).bind getStr).bind fun s2 =>
(if (s2.toList == v1.toList) = true then
some (1, [some (.int .i64 v5)], h)
else
some (0, [some (.slice v0 v0n v0n), some (.string v1), some (.int .i64 (IntKind.wrap .i64 (v5 + (1 : Int))))], h))
else none)
else
some (2, [], h)) : Option (Nat × Slots × AH)) := by kernel_rfl
theorem r140 {base : Nat} {v0 : Option Addr} {v0n : Nat} {v1 : ByteArray} {h : AH} {r : Value × AH} (hx : ((loopL (B140_0 base) [some (.slice v0 v0n v0n), some (.string v1), some (.int .i64 (0 : Int))] h).bind fun q1 =>
(if q1.1 = 1 then
((sget q1.2.1 0).bind (getI .i64)).bind fun n2 =>
some ((.int .i64 n2), q1.2.2)
else
(if q1.1 = 2 then
some ((.int .i64 (-1 : Int)), q1.2.2)
else
none))) = some r) : run (Et base) 140 [(vL v0 v0n), (vT v1)] h = some r := run_i (an := a140) Try.func140 (by kernel_rfl) (.trans (by kernel_rfl) hx)
theorem r143 {base : Nat} {v0 : Int} {h : AH} {r : Value × AH} (hx : ((if (decide (v0 < (0 : Int))) = true then
some ((.int .i64 (0 : Int)), h)
else
some ((.int .i64 (IntKind.wrap .i64 (Int.tdiv v0 (8 : Int)))), h))) = some r) : run (Et base) 143 [(vI v0)] h = some r := run_i (an := a143) Try.func143 (by kernel_rfl) (.trans (by kernel_rfl) hx)
theorem r145 {base : Nat} {v0 : Int} {h : AH} {r : Value × AH} (hx : ((if (decide (v0 < (0 : Int))) = true then
some ((.int .i64 (0 : Int)), h)
else
some ((.int .i64 (Int.tmod v0 (8 : Int))), h))) = some r) : run (Et base) 145 [(vI v0)] h = some r := run_i (an := a145) Try.func145 (by kernel_rfl) (.trans (by kernel_rfl) hx)
noncomputable def B146_0 (base : Nat) : Body := fun l h => lay s146_0 l fun s => exCode (Et base) (run (Et base)) loopL a146_0 (subC [1, 0, 1, 0, 0] (bodyC Try.f146)) s h (keepK s146_0 e146_0)
theorem B146_0_eq (base : Nat) (v0 : ByteArray) (v3 : Int) (h : AH) : B146_0 base [some (vT v0), some (vI v3)] h =
((if (decide (v3 < (v0.size : Int))) = true then
((if 0 ≤ v3 ∧ v3 < (v0.size : Int) then
(run (Et base) 182 [(.int .u8 ((v0.data.toList.getD (Int.toNat v3) 0).toNat : Int))] h).bind fun r2 =>
((some r2.1).bind getB).bind fun b3 =>
(if (!b3) = true then
(if (v3 == (0 : Int)) = true then
some (.inl ([some (.string v0), some (.int .i64 v3), some (.bool true)], r2.2))
else
(if 0 ≤ v3 ∧ v3 < (v0.size : Int) then
(run (Et base) 183 [(.int .u8 ((v0.data.toList.getD (Int.toNat v3) 0).toNat : Int))] r2.2).bind fun r4 =>
((some r4.1).bind getB).bind fun b5 =>
some (.inl ([some (.string v0), some (.int .i64 v3), some (.bool (!b5))], r4.2))
else none))
else
some (.inl ([some (.string v0), some (.int .i64 v3), some (.bool false)], r2.2)))
else none)).bind fun j1 => joinK j1 fun j1 =>
((sget j1.1 0).bind getStr).bind fun s6 =>
((sget (j1.1.tail) 0).bind (getI .i64)).bind fun n7 =>
((sget (j1.1.tail.tail) 0).bind getB).bind fun b8 =>
(if b8 = true then
some (1, [some (.bool false)], j1.2)
else
some (0, [some (.string s6), some (.int .i64 (IntKind.wrap .i64 (n7 + (1 : Int))))], j1.2))
else
some (2, [some (.string v0)], h)) : Option (Nat × Slots × AH)) := by kernel_rfl
theorem r146 {base : Nat} {v0 : ByteArray} {h : AH} {r : Value × AH} (hx : ((loopL (B146_0 base) [some (.string v0), some (.int .i64 (0 : Int))] h).bind fun q1 =>
(if q1.1 = 1 then
((sget q1.2.1 0).bind getB).bind fun b2 =>
some ((.bool b2), q1.2.2)
else
(if q1.1 = 2 then
((sget q1.2.1 0).bind getStr).bind fun s3 =>
(run (Et base) 87 [(.int .i64 (s3.size : Int)), (.int .i64 (1 : Int)), (.int .i64 (12 : Int))] q1.2.2).bind fun r4 =>
((some r4.1).bind getB).bind fun b5 =>
some ((.bool b5), r4.2)
else
none))) = some r) : run (Et base) 146 [(vT v0)] h = some r := run_i (an := a146) Try.func146 (by kernel_rfl) (.trans (by kernel_rfl) hx)
noncomputable def B147_0 (base : Nat) : Body := fun l h => lay s147_0 l fun s => exCode (Et base) (run (Et base)) loopL a147_0 (subC [1, 0, 1, 0, 0] (bodyC Try.f147)) s h (keepK s147_0 e147_0)
theorem B147_0_eq (base : Nat) (v1 : ByteArray) (v7 : Option Addr) (v7n : Nat) (v8 : Int) (v9 : Int) (h : AH) : B147_0 base [some (vT v1), some (vL v7 v7n), some (vI v8), some (vI v9)] h =
((if (decide (v9 < v8)) = true then
(if 0 ≤ v9 ∧ v9 < ((v7n : Nat) : Int) then
((v7 : Option Addr)).bind fun a1 =>
((cell h a1.block (a1.off + Int.toNat v9 * 1)).bind getStr).bind fun s2 =>
(if (s2.toList == v1.toList) = true then
some (1, [some (.int .i64 v9)], h)
else
some (0, [some (.string v1), some (.slice v7 v7n v7n), some (.int .i64 v8), some (.int .i64 (IntKind.wrap .i64 (v9 + (1 : Int))))], h))
else none)
else
some (2, [], h)) : Option (Nat × Slots × AH)) := by kernel_rfl
theorem r147 {base : Nat} {v0 : Option Addr} {v0n : Nat} {v1 : ByteArray} {h : AH} {r : Value × AH} (hx : ((loopL (B147_0 base) [some (.string v1), some (.slice v0 v0n v0n), some (.int .i64 ((v0n : Nat) : Int)), some (.int .i64 (0 : Int))] h).bind fun q1 =>
(if q1.1 = 1 then
((sget q1.2.1 0).bind (getI .i64)).bind fun n2 =>
some ((.int .i64 n2), q1.2.2)
else
(if q1.1 = 2 then
some ((.int .i64 (-1 : Int)), q1.2.2)
else
none))) = some r) : run (Et base) 147 [(vL v0 v0n), (vT v1)] h = some r := run_i (an := a147) Try.func147 (by kernel_rfl) (.trans (by kernel_rfl) hx)
noncomputable def B162_0 (base : Nat) : Body := fun l h => lay s162_0 l fun s => exCode (Et base) (run (Et base)) loopL a162_0 (subC [1, 1, 1, 0, 1, 0, 0] (bodyC Try.f162)) s h (keepK s162_0 e162_0)
theorem B162_0_eq (base : Nat) (v1 : Int) (v2 : Int) (v27 : Option Addr) (v27n : Nat) (v28 : Int) (v29 : Int) (h : AH) : B162_0 base [some (vI v1), some (vI v2), some (vL v27 v27n), some (vI v28), some (vI v29)] h =
((if (decide (v29 < v28)) = true then
(if 0 ≤ v29 ∧ v29 < ((v27n : Nat) : Int) then
((v27 : Option Addr)).bind fun a1 =>
c_IITL h a1.block (a1.off + Int.toNat v29 * 4) fun n2 n3 s4 l5 =>
nw1 h 39 [(vI 0), (vI 0), (vT ⟨#[]⟩), (vL none 0)] fun h6 =>
(wr base h6 (List.length h) 0 [(vI n2), (vI n3), (vT s4), (vL l5.1 l5.2)]).bind fun h7 =>
c_IITL h7 (List.length h) 0 fun n8 n9 s10 l11 =>
(run (Et base) 162 [(.agg #[(vI n8), (vI n9), (vT s10), (vL l11.1 l11.2)]), (vI (IntKind.wrap .i64 (v1 + (1 : Int)))), (vI v2)] h7).bind fun r12 =>
(getTup 2 r12.1).bind fun l13 =>
l_IB l13 fun n14 b15 =>
(if (!b15) = true then
some (1, [some (vI n14), some (.bool false)], r12.2)
else
some (0, [some (vI v1), some (vI n14), some (vL v27 v27n), some (vI v28), some (vI (IntKind.wrap .i64 (v29 + (1 : Int))))], r12.2))
else none)
else
some (2, [some (vI v2)], h)) : Option (Nat × Slots × AH)) := by kernel_rfl
theorem r162 {base : Nat} {v0_0 : Int} {v0_1 : Int} {v0_2 : ByteArray} {v0_3 : Option Addr} {v0_3n : Nat} {v1 : Int} {v2 : Int} {h : AH} {r : Value × AH} (hx : (nw1 h 39 [(vI v0_0), (vI v0_1), (vT v0_2), (vL v0_3 v0_3n)] fun h1 =>
((if (decide (v1 > (6 : Int))) = true then
some (.inl ([some (vI v1), some (vI (IntKind.wrap .i64 (v2 + (1 : Int)))), some (vP (List.length h)), some (.bool true)], h1))
else
(if (decide ((IntKind.wrap .i64 (v2 + (1 : Int))) > (100 : Int))) = true then
some (.inl ([some (vI v1), some (vI (IntKind.wrap .i64 (v2 + (1 : Int)))), some (vP (List.length h)), some (.bool true)], h1))
else
c_IITL h1 (List.length h) 0 fun n3 n4 s5 l6 =>
(run (Et base) 196 [(.agg #[(vI n3), (vI n4), (vT s5), (vL l6.1 l6.2)])] h1).bind fun r7 =>
((some r7.1).bind getB).bind fun b8 =>
some (.inl ([some (vI v1), some (vI (IntKind.wrap .i64 (v2 + (1 : Int)))), some (vP (List.length h)), some (.bool (!b8))], r7.2))))).bind fun j2 => joinK j2 fun j2 =>
j_IIAB j2.1 fun n9 n10 d11 b12 =>
(if b12 = true then
some ((.tuple #[(vI n10), (.bool false)]), j2.2)
else
((cell j2.2 d11.block (d11.off + 3)).bind getS).bind fun l13 =>
(loopL (B162_0 base) [some (vI n9), some (vI n10), some (vL l13.1 l13.2), some (vI ((l13.2 : Nat) : Int)), some (vI (0 : Int))] j2.2).bind fun q14 =>
(if q14.1 = 1 then
j_IB q14.2.1 fun n15 b16 =>
some ((.tuple #[(vI n15), (.bool b16)]), q14.2.2)
else
(if q14.1 = 2 then
((sget q14.2.1 0).bind (getI .i64)).bind fun n17 =>
some ((.tuple #[(vI n17), (.bool true)]), q14.2.2)
else
none)))) = some r) : run (Et base) 162 [(.agg #[(vI v0_0), (vI v0_1), (vT v0_2), (vL v0_3 v0_3n)]), (vI v1), (vI v2)] h = some r := run_i (an := a162) Try.func162 (by kernel_rfl) (.trans (by kernel_rfl) hx)
noncomputable abbrev qf173 (base : Nat) (v0_0 : Int) (v0_1 : Int) (v0_2 : ByteArray) (v0_3 : Option Addr) (v0_3n : Nat) (h : AH) : Option (Value × AH) :=
nw1 h 39 [(vI v0_0), (vI v0_1), (vT v0_2), (vL v0_3 v0_3n)] fun h1 =>
((cell h1 (List.length h) 3).bind getS).bind fun l2 =>
((cell h1 (List.length h) 0).bind (getI .i64)).bind fun n3 =>
(if (n3 == (1 : Int)) = true then
((cell h1 (List.length h) 1).bind (getI .i64)).bind fun n4 =>
(run (Et base) 83 [(vI n4), (vI (-1000000 : Int)), (vI (1000000 : Int))] h1).bind fun r5 =>
((some r5.1).bind getB).bind fun b6 =>
(if b6 = true then
((cell r5.2 (List.length h) 2).bind getStr).bind fun s7 =>
(if (s7.toList == (⟨#[]⟩ : ByteArray).toList) = true then
some ((.bool (((l2.2 : Nat) : Int) == (0 : Int))), r5.2)
else
some ((.bool false), r5.2))
else
some ((.bool false), r5.2))
else
(if (n3 == (2 : Int)) = true then
((cell h1 (List.length h) 2).bind getStr).bind fun s8 =>
(run (Et base) 139 [(vT s8)] h1).bind fun r9 =>
((some r9.1).bind getB).bind fun b10 =>
(if b10 = true then
((cell r9.2 (List.length h) 1).bind (getI .i64)).bind fun n11 =>
(if (n11 == (0 : Int)) = true then
some ((.bool (((l2.2 : Nat) : Int) == (0 : Int))), r9.2)
else
some ((.bool false), r9.2))
else
some ((.bool false), r9.2))
else
(if (n3 == (3 : Int)) = true then
((cell h1 (List.length h) 1).bind (getI .i64)).bind fun n12 =>
(run (Et base) 83 [(vI n12), (vI (0 : Int)), (vI (99999 : Int))] h1).bind fun r13 =>
((some r13.1).bind getB).bind fun b14 =>
(if b14 = true then
((cell r13.2 (List.length h) 2).bind getStr).bind fun s15 =>
(if (s15.toList == (⟨#[]⟩ : ByteArray).toList) = true then
some ((.bool (((l2.2 : Nat) : Int) == (0 : Int))), r13.2)
else
some ((.bool false), r13.2))
else
some ((.bool false), r13.2))
else
(if (n3 == (4 : Int)) = true then
((cell h1 (List.length h) 1).bind (getI .i64)).bind fun n16 =>
(if (n16 == (0 : Int)) = true then
((cell h1 (List.length h) 2).bind getStr).bind fun s17 =>
(if (s17.toList == (⟨#[]⟩ : ByteArray).toList) = true then
some ((.bool (decide (((l2.2 : Nat) : Int) ≤ (8 : Int)))), h1)
else
some ((.bool false), h1))
else
some ((.bool false), h1))
else
(if (n3 == (5 : Int)) = true then
((cell h1 (List.length h) 1).bind (getI .i64)).bind fun n18 =>
(if (n18 == (0 : Int)) = true then
((cell h1 (List.length h) 2).bind getStr).bind fun s19 =>
(if (s19.toList == (⟨#[]⟩ : ByteArray).toList) = true then
some ((.bool (decide (((l2.2 : Nat) : Int) ≤ (20 : Int)))), h1)
else
some ((.bool false), h1))
else
some ((.bool false), h1))
else
(if (n3 == (6 : Int)) = true then
((cell h1 (List.length h) 1).bind (getI .i64)).bind fun n20 =>
(if (n20 == (0 : Int)) = true then
((cell h1 (List.length h) 2).bind getStr).bind fun s21 =>
(if (decide ((s21.size : Int) ≤ (40 : Int))) = true then
some ((.bool (((l2.2 : Nat) : Int) == (0 : Int))), h1)
else
some ((.bool false), h1))
else
some ((.bool false), h1))
else
some ((.bool false), h1)))))))
theorem r173 {base : Nat} {v0_0 : Int} {v0_1 : Int} {v0_2 : ByteArray} {v0_3 : Option Addr} {v0_3n : Nat} {h : AH} {r : Value × AH} (hx : qf173 base v0_0 v0_1 v0_2 v0_3 v0_3n h = some r) : run (Et base) 173 [(.agg #[(vI v0_0), (vI v0_1), (vT v0_2), (vL v0_3 v0_3n)])] h = some r := run_i (an := a173) Try.func173 (by kernel_rfl) (.trans (by kernel_rfl) hx)
theorem r174 {base : Nat} {v0 : Int} {v1 : Int} {h : AH} {r : Value × AH} (hx : (((run (Et base) 87 [(.int .i64 v0), (.int .i64 (0 : Int)), (.int .i64 (6 : Int))] h).bind fun r2 =>
((some r2.1).bind getB).bind fun b3 =>
(if (!b3) = true then
some (.inl ([some (.int .i64 v0), some (.int .i64 v1), some (.bool true)], r2.2))
else
(run (Et base) 87 [(.int .i64 v1), (.int .i64 (0 : Int)), (.int .i64 (4000000 : Int))] r2.2).bind fun r4 =>
((some r4.1).bind getB).bind fun b5 =>
some (.inl ([some (.int .i64 v0), some (.int .i64 v1), some (.bool (!b5))], r4.2)))).bind fun j1 => joinK j1 fun j1 =>
((sget j1.1 0).bind (getI .i64)).bind fun n6 =>
((sget (j1.1.tail) 0).bind (getI .i64)).bind fun n7 =>
((sget (j1.1.tail.tail) 0).bind getB).bind fun b8 =>
(if b8 = true then
some ((.int .i64 (0 : Int)), j1.2)
else
some ((.int .i64 (IntKind.wrap .i64 (n6 + (IntKind.wrap .i64 ((8 : Int) * n7))))), j1.2))) = some r) : run (Et base) 174 [(vI v0), (vI v1)] h = some r := run_i (an := a174) Try.func174 (by kernel_rfl) (.trans (by kernel_rfl) hx)
theorem r175 {base : Nat} {v0 : Option Addr} {v0n : Nat} {v1 : ByteArray} {h : AH} {r : Value × AH} (hx : ((app base h 9 1 16 none 0 (rawAt h v0 (v0n * 1)) v0n).bind fun p1 =>
((some p1.1).bind getS).bind fun l2 =>
(run (Et base) 147 [(.slice v0 v0n v0n), (.string v1)] p1.2).bind fun r3 =>
((some r3.1).bind (getI .i64)).bind fun n4 =>
(if (decide (n4 ≥ (0 : Int))) = true then
some ((.tuple #[(.slice l2.1 l2.2 l2.2), (.int .i64 n4)]), r3.2)
else
((run (Et base) 146 [(.string v1)] r3.2).bind fun r6 =>
((some r6.1).bind getB).bind fun b7 =>
(if (!b7) = true then
some (.inl ([some (.slice v0 v0n v0n), some (.string v1), some (.slice l2.1 l2.2 l2.2), some (.bool true)], r6.2))
else
some (.inl ([some (.slice v0 v0n v0n), some (.string v1), some (.slice l2.1 l2.2 l2.2), some (.bool (decide (((v0n : Nat) : Int) ≥ (200 : Int))))], r6.2)))).bind fun j5 => joinK j5 fun j5 =>
((sget j5.1 0).bind getS).bind fun l8 =>
((sget (j5.1.tail) 0).bind getStr).bind fun s9 =>
((sget (j5.1.tail.tail) 0).bind getS).bind fun l10 =>
((sget (j5.1.tail.tail.tail) 0).bind getB).bind fun b11 =>
(if b11 = true then
some ((.tuple #[(.slice l10.1 l10.2 l10.2), (.int .i64 (-1 : Int))]), j5.2)
else
(some (j5.2 ++ [some ⟨[(.string s9)], 9⟩])).bind fun h12 =>
(app base h12 9 1 16 l10.1 l10.2 (rawAt h12 (some ⟨(List.length j5.2), 0, none⟩) (1 * 1)) 1).bind fun p13 =>
((some p13.1).bind getS).bind fun l14 =>
some ((.tuple #[(.slice l14.1 l14.2 l14.2), (.int .i64 ((l8.2 : Nat) : Int))]), p13.2)))) = some r) : run (Et base) 175 [(vL v0 v0n), (vT v1)] h = some r := run_i (an := a175) Try.func175 (by kernel_rfl) (.trans (by kernel_rfl) hx)
theorem r176 {base : Nat} {v0 : Option Addr} {v1 : Int} {h : AH} {r : Value × AH} (hx : ((v0).bind fun a1 =>
((cell h a1.block (a1.off + 0)).bind getS).bind fun l2 =>
(v0).bind fun a3 =>
((cell h a3.block (a3.off + 0)).bind getS).bind fun l4 =>
(if 0 ≤ v1 ∧ v1 ≤ 140737488355328 then
(app base h 3 1 8 l4.1 l4.2 (some (rep [(.int .i64 0)] (Int.toNat v1))) (Int.toNat v1)).bind fun p5 =>
((some p5.1).bind getS).bind fun l6 =>
(v0).bind fun a7 =>
(wr base p5.2 a7.block (a7.off + 0) [(.slice l6.1 l6.2 l6.2)]).bind fun h8 =>
some ((.int .i64 ((l2.2 : Nat) : Int)), h8)
else none)) = some r) : run (Et base) 176 [(.pointer v0), (vI v1)] h = some r := run_i (an := a176) Try.func176 (by kernel_rfl) (.trans (by kernel_rfl) hx)
noncomputable def B177_0 (base : Nat) : Body := fun l h => lay s177_0 l fun s => exCode (Et base) (run (Et base)) loopL a177_0 (subC [1, 1, 1, 0, 1, 0, 0] (bodyC Try.f177)) s h (keepK s177_0 e177_0)
theorem B177_0_eq (base : Nat) (v0 : Option Addr) (v1 : Option Addr) (v1n : Nat) (v5 : Int) (v18 : Option Addr) (v18n : Nat) (v19 : Int) (v20 : Int) (h : AH) : B177_0 base [some (.pointer v0), some (vL v1 v1n), some (vI v5), some (vL v18 v18n), some (vI v19), some (vI v20)] h =
((if (decide (v20 < v19)) = true then
(if 0 ≤ v20 ∧ v20 < ((v18n : Nat) : Int) then
((v18 : Option Addr)).bind fun a1 =>
c_IITL h a1.block (a1.off + Int.toNat v20 * 4) fun n2 n3 s4 l5 =>
nw1 h 39 [(vI 0), (vI 0), (vT ⟨#[]⟩), (vL none 0)] fun h6 =>
(wr base h6 (List.length h) 0 [(vI n2), (vI n3), (vT s4), (vL l5.1 l5.2)]).bind fun h7 =>
c_IITL h7 (List.length h) 0 fun n8 n9 s10 l11 =>
(run (Et base) 136 [(.pointer v0), (.agg #[(vI n8), (vI n9), (vT s10), (vL l11.1 l11.2)])] h7).bind fun r12 =>
((some r12.1).bind (getI .i64)).bind fun n13 =>
(v0).bind fun a14 =>
((cell r12.2 a14.block (a14.off + 0)).bind getS).bind fun l15 =>
(if 0 ≤ (IntKind.wrap .i64 (v5 + (IntKind.wrap .i64 ((2 : Int) * v20)))) ∧ (IntKind.wrap .i64 (v5 + (IntKind.wrap .i64 ((2 : Int) * v20)))) < ((l15.2 : Nat) : Int) then
((l15.1 : Option Addr)).bind fun a16 =>
(wr base r12.2 a16.block (a16.off + Int.toNat (IntKind.wrap .i64 (v5 + (IntKind.wrap .i64 ((2 : Int) * v20)))) * 1) [(vI n13)]).bind fun h17 =>
(v0).bind fun a18 =>
((cell h17 a18.block (a18.off + 0)).bind getS).bind fun l19 =>
(v0).bind fun a20 =>
((cell h17 a20.block (a20.off + 1)).bind (getI .i64)).bind fun n21 =>
(run (Et base) 174 [(vI (5 : Int)), (vI (IntKind.wrap .i64 ((IntKind.wrap .i64 ((IntKind.wrap .i64 (n21 + v5)) + (IntKind.wrap .i64 ((2 : Int) * v20)))) + (2 : Int))))] h17).bind fun r22 =>
((some r22.1).bind (getI .i64)).bind fun n23 =>
(gate (sameA h17 r22.2 (some ⟨a18.block, (a18.off + 0), none⟩) 1)
((if 0 ≤ (IntKind.wrap .i64 ((IntKind.wrap .i64 (v5 + (IntKind.wrap .i64 ((2 : Int) * v20)))) + (1 : Int))) ∧ (IntKind.wrap .i64 ((IntKind.wrap .i64 (v5 + (IntKind.wrap .i64 ((2 : Int) * v20)))) + (1 : Int))) < ((l19.2 : Nat) : Int) then
((l19.1 : Option Addr)).bind fun a24 =>
(wr base r22.2 a24.block (a24.off + Int.toNat (IntKind.wrap .i64 ((IntKind.wrap .i64 (v5 + (IntKind.wrap .i64 ((2 : Int) * v20)))) + (1 : Int))) * 1) [(vI n23)]).bind fun h25 =>
some (0, [some (.pointer v0), some (vL v1 v1n), some (vI v5), some (vL v18 v18n), some (vI v19), some (vI (IntKind.wrap .i64 (v20 + (1 : Int))))], h25)
else none)))
else none)
else none)
else
some (2, [some (.pointer v0), some (vL v1 v1n), some (vI v5)], h)) : Option (Nat × Slots × AH)) := by kernel_rfl
theorem r177 {base : Nat} {v0 : Option Addr} {v1 : Option Addr} {v1n : Nat} {h : AH} {r : Value × AH} (hx : ((if (((v1n : Nat) : Int) == (0 : Int)) = true then
(run (Et base) 174 [(vI (3 : Int)), (vI (0 : Int))] h).bind fun r1 =>
((some r1.1).bind (getI .i64)).bind fun n2 =>
some ((vI n2), r1.2)
else
(run (Et base) 176 [(.pointer v0), (vI (IntKind.wrap .i64 ((2 : Int) * ((v1n : Nat) : Int))))] h).bind fun r3 =>
((some r3.1).bind (getI .i64)).bind fun n4 =>
(loopL (B177_0 base) [some (.pointer v0), some (vL v1 v1n), some (vI n4), some (vL v1 v1n), some (vI ((v1n : Nat) : Int)), some (vI (0 : Int))] r3.2).bind fun q5 =>
(if q5.1 = 2 then
j_PLI q5.2.1 fun p6 l7 n8 =>
(p6).bind fun a9 =>
((cell q5.2.2 a9.block (a9.off + 0)).bind getS).bind fun l10 =>
(run (Et base) 174 [(vI (3 : Int)), (vI (0 : Int))] q5.2.2).bind fun r11 =>
((some r11.1).bind (getI .i64)).bind fun n12 =>
(gate (sameA q5.2.2 r11.2 (some ⟨a9.block, (a9.off + 0), none⟩) 1)
((if 0 ≤ (IntKind.wrap .i64 ((IntKind.wrap .i64 (n8 + (IntKind.wrap .i64 ((2 : Int) * ((l7.2 : Nat) : Int))))) - (1 : Int))) ∧ (IntKind.wrap .i64 ((IntKind.wrap .i64 (n8 + (IntKind.wrap .i64 ((2 : Int) * ((l7.2 : Nat) : Int))))) - (1 : Int))) < ((l10.2 : Nat) : Int) then
((l10.1 : Option Addr)).bind fun a13 =>
(wr base r11.2 a13.block (a13.off + Int.toNat (IntKind.wrap .i64 ((IntKind.wrap .i64 (n8 + (IntKind.wrap .i64 ((2 : Int) * ((l7.2 : Nat) : Int))))) - (1 : Int))) * 1) [(vI n12)]).bind fun h14 =>
(p6).bind fun a15 =>
((cell h14 a15.block (a15.off + 1)).bind (getI .i64)).bind fun n16 =>
(run (Et base) 174 [(vI (5 : Int)), (vI (IntKind.wrap .i64 (n16 + n8)))] h14).bind fun r17 =>
((some r17.1).bind (getI .i64)).bind fun n18 =>
some ((vI n18), r17.2)
else none)))
else
none))) = some r) : run (Et base) 177 [(.pointer v0), (vL v1 v1n)] h = some r := run_i (an := a177) Try.func177 (by kernel_rfl) (.trans (by kernel_rfl) hx)
theorem r182 {base : Nat} {v0 : Int} {h : AH} {r : Value × AH} (hx : ((if (decide (v0 ≥ (97 : Int))) = true then
some ((.bool (decide (v0 ≤ (122 : Int)))), h)
else
some ((.bool false), h))) = some r) : run (Et base) 182 [(.int .u8 v0)] h = some r := run_i (an := a182) Try.func182 (by kernel_rfl) (.trans (by kernel_rfl) hx)
theorem r183 {base : Nat} {v0 : Int} {h : AH} {r : Value × AH} (hx : ((if (decide (v0 ≥ (48 : Int))) = true then
some ((.bool (decide (v0 ≤ (57 : Int)))), h)
else
some ((.bool false), h))) = some r) : run (Et base) 183 [(.int .u8 v0)] h = some r := run_i (an := a183) Try.func183 (by kernel_rfl) (.trans (by kernel_rfl) hx)
noncomputable abbrev qf196 (base : Nat) (v0_0 : Int) (v0_1 : Int) (v0_2 : ByteArray) (v0_3 : Option Addr) (v0_3n : Nat) (h : AH) : Option (Value × AH) :=
nw1 h 39 [(vI v0_0), (vI v0_1), (vT v0_2), (vL v0_3 v0_3n)] fun h1 =>
((cell h1 (List.length h) 0).bind (getI .i64)).bind fun n2 =>
(if (n2 == (1 : Int)) = true then
((cell h1 (List.length h) 1).bind (getI .i64)).bind fun n3 =>
(run (Et base) 87 [(vI n3), (vI (-1000000 : Int)), (vI (1000000 : Int))] h1).bind fun r4 =>
((some r4.1).bind getB).bind fun b5 =>
(if b5 = true then
((cell r4.2 (List.length h) 2).bind getStr).bind fun s6 =>
(if (s6.toList == (⟨#[]⟩ : ByteArray).toList) = true then
((cell r4.2 (List.length h) 3).bind getS).bind fun l7 =>
some ((.bool (((l7.2 : Nat) : Int) == (0 : Int))), r4.2)
else
some ((.bool false), r4.2))
else
some ((.bool false), r4.2))
else
(if (n2 == (2 : Int)) = true then
((cell h1 (List.length h) 1).bind (getI .i64)).bind fun n8 =>
(if (n8 == (0 : Int)) = true then
((cell h1 (List.length h) 2).bind getStr).bind fun s9 =>
(run (Et base) 146 [(vT s9)] h1).bind fun r10 =>
((some r10.1).bind getB).bind fun b11 =>
(if b11 = true then
((cell r10.2 (List.length h) 3).bind getS).bind fun l12 =>
some ((.bool (((l12.2 : Nat) : Int) == (0 : Int))), r10.2)
else
some ((.bool false), r10.2))
else
some ((.bool false), h1))
else
(if (n2 == (3 : Int)) = true then
((cell h1 (List.length h) 1).bind (getI .i64)).bind fun n13 =>
(run (Et base) 87 [(vI n13), (vI (0 : Int)), (vI (99999 : Int))] h1).bind fun r14 =>
((some r14.1).bind getB).bind fun b15 =>
(if b15 = true then
((cell r14.2 (List.length h) 2).bind getStr).bind fun s16 =>
(if (s16.toList == (⟨#[]⟩ : ByteArray).toList) = true then
((cell r14.2 (List.length h) 3).bind getS).bind fun l17 =>
some ((.bool (((l17.2 : Nat) : Int) == (0 : Int))), r14.2)
else
some ((.bool false), r14.2))
else
some ((.bool false), r14.2))
else
(if (n2 == (4 : Int)) = true then
((cell h1 (List.length h) 1).bind (getI .i64)).bind fun n18 =>
(if (n18 == (0 : Int)) = true then
((cell h1 (List.length h) 2).bind getStr).bind fun s19 =>
(if (s19.toList == (⟨#[]⟩ : ByteArray).toList) = true then
((cell h1 (List.length h) 3).bind getS).bind fun l20 =>
some ((.bool (decide (((l20.2 : Nat) : Int) ≤ (8 : Int)))), h1)
else
some ((.bool false), h1))
else
some ((.bool false), h1))
else
(if (n2 == (5 : Int)) = true then
((cell h1 (List.length h) 1).bind (getI .i64)).bind fun n21 =>
(if (n21 == (0 : Int)) = true then
((cell h1 (List.length h) 2).bind getStr).bind fun s22 =>
(if (s22.toList == (⟨#[]⟩ : ByteArray).toList) = true then
((cell h1 (List.length h) 3).bind getS).bind fun l23 =>
some ((.bool (decide (((l23.2 : Nat) : Int) ≤ (20 : Int)))), h1)
else
some ((.bool false), h1))
else
some ((.bool false), h1))
else
(if (n2 == (6 : Int)) = true then
((cell h1 (List.length h) 1).bind (getI .i64)).bind fun n24 =>
(if (n24 == (0 : Int)) = true then
((cell h1 (List.length h) 2).bind getStr).bind fun s25 =>
(if (decide ((s25.size : Int) ≤ (40 : Int))) = true then
((cell h1 (List.length h) 3).bind getS).bind fun l26 =>
some ((.bool (((l26.2 : Nat) : Int) == (0 : Int))), h1)
else
some ((.bool false), h1))
else
some ((.bool false), h1))
else
some ((.bool false), h1)))))))
theorem r196 {base : Nat} {v0_0 : Int} {v0_1 : Int} {v0_2 : ByteArray} {v0_3 : Option Addr} {v0_3n : Nat} {h : AH} {r : Value × AH} (hx : qf196 base v0_0 v0_1 v0_2 v0_3 v0_3n h = some r) : run (Et base) 196 [(.agg #[(vI v0_0), (vI v0_1), (vT v0_2), (vL v0_3 v0_3n)])] h = some r := run_i (an := a196) Try.func196 (by kernel_rfl) (.trans (by kernel_rfl) hx)
end Go.Proofs.Ytjmkbglnjklbcaa.Am
