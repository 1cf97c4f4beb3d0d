/- What each of these functions comes to on the abstract machine, one equation a function and one a loop.
Conditions: none. -/
import Derived.Test.YtjmkbglnjklbcaaTb
set_option linter.unusedVariables false
set_option maxRecDepth 100000
namespace Go.Proofs.Ytjmkbglnjklbcaa.Am
open Go Go.RowKit
theorem r199 {base : Nat} {v0_0 : Int} {v0_1 : Int} {v0_2 : Int} {v0_3 : Int} {v0_4 : Int} {v0_5 : ByteArray} {v1 : Int} {h : AH} {r : Value × AH} (hx : (nw1 h 139 [(vI v0_0), (vI v0_1), (vI v0_2), (vI v0_3), (vI v0_4), (vT v0_5)] fun h1 =>
((cell h1 (List.length h) 0).bind (getI .i64)).bind fun n2 =>
(if (n2 == (1 : Int)) = true then
((cell h1 (List.length h) 4).bind (getI .i64)).bind fun n3 =>
(run (Et base) 83 [(vI n3), (vI (-1000000 : Int)), (vI (1000000 : Int))] h1).bind fun r4 =>
((some r4.1).bind getB).bind fun b5 =>
some ((.bool b5), r4.2)
else
(if (n2 == (4 : Int)) = true then
((cell h1 (List.length h) 4).bind (getI .i64)).bind fun n6 =>
(run (Et base) 83 [(vI n6), (vI (0 : Int)), (vI (8 : Int))] h1).bind fun r7 =>
((some r7.1).bind getB).bind fun b8 =>
(if b8 = true then
((cell r7.2 (List.length h) 2).bind (getI .i64)).bind fun n9 =>
((cell r7.2 (List.length h) 4).bind (getI .i64)).bind fun n10 =>
some ((.bool (decide ((IntKind.wrap .i64 (n9 + n10)) ≤ (8 : Int)))), r7.2)
else
some ((.bool false), r7.2))
else
(if (n2 == (6 : Int)) = true then
((cell h1 (List.length h) 4).bind (getI .i64)).bind fun n11 =>
(run (Et base) 83 [(vI n11), (vI (0 : Int)), (vI (7 : Int))] h1).bind fun r12 =>
((some r12.1).bind getB).bind fun b13 =>
some ((.bool b13), r12.2)
else
((if (n2 == (10 : Int)) = true then
some (.inl ([some (vI v1), some (vP (List.length h)), some (.bool (n2 == (10 : Int)))], h1))
else
(if (n2 == (11 : Int)) = true then
some (.inl ([some (vI v1), some (vP (List.length h)), some (.bool (n2 == (11 : Int)))], h1))
else
(if (n2 == (12 : Int)) = true then
some (.inl ([some (vI v1), some (vP (List.length h)), some (.bool (n2 == (12 : Int)))], h1))
else
some (.inl ([some (vI v1), some (vP (List.length h)), some (.bool (n2 == (16 : Int)))], h1)))))).bind fun j14 => joinK j14 fun j14 =>
j_IAB j14.1 fun n15 d16 b17 =>
(if b17 = true then
((cell j14.2 d16.block (d16.off + 4)).bind (getI .i64)).bind fun n18 =>
(if (decide (n18 ≥ (0 : Int))) = true then
((cell j14.2 d16.block (d16.off + 4)).bind (getI .i64)).bind fun n19 =>
some ((.bool (decide (n19 < n15))), j14.2)
else
some ((.bool false), j14.2))
else
((cell j14.2 d16.block (d16.off + 4)).bind (getI .i64)).bind fun n20 =>
some ((.bool (n20 == (0 : Int))), j14.2)))))) = some r) : run (Et base) 199 [(.agg #[(vI v0_0), (vI v0_1), (vI v0_2), (vI v0_3), (vI v0_4), (vT v0_5)]), (vI v1)] h = some r := run_i (an := a199) Try.func199 (by kernel_rfl) (.trans (by kernel_rfl) hx)
noncomputable def B201_0 (base : Nat) : Body := fun l h => lay s201_0 l fun s => exCode (Et base) (run (Et base)) loopL a201_0 (subC [1, 1, 0, 0, 0] (bodyC Try.f201)) s h (keepK s201_0 e201_0)
theorem B201_0_eq (base : Nat) (v0 : Option Addr) (v1 : Int) (v2 : Int) (v6 : Addr) (v7 : Addr) (h : AH) : B201_0 base [some (.pointer v0), some (vI v1), some (vI v2), some (vA v6), some (vA v7)] h =
(((v0).bind fun a2 =>
((cell h a2.block (a2.off + 3)).bind getB).bind fun b3 =>
(if (!b3) = true then
(run (Et base) 132 [(vI (3 : Int)), (vI (0 : Int))] h).bind fun r4 =>
((some r4.1).bind (getI .i64)).bind fun n5 =>
some (.inl ([some (.pointer v0), some (vI v1), some (vI v2), some (vA v6), some (vA v7), some (.bool (v1 != n5))], r4.2))
else
some (.inl ([some (.pointer v0), some (vI v1), some (vI v2), some (vA v6), some (vA v7), some (.bool false)], h)))).bind fun j1 => joinK j1 fun j1 =>
j_PIIAAB j1.1 fun p6 n7 n8 d9 d10 b11 =>
(if b11 = true then
(run (Et base) 143 [(vI n7)] j1.2).bind fun r12 =>
((some r12.1).bind (getI .i64)).bind fun n13 =>
(run (Et base) 216 [(.pointer p6), (vI n13), (vI (2 : Int))] r12.2).bind fun r14 =>
((some r14.1).bind getS).bind fun l15 =>
((p6).bind fun a17 =>
((cell r14.2 a17.block (a17.off + 3)).bind getB).bind fun b18 =>
(if b18 = true then
some (.inl ([some (.pointer p6), some (vI n8), some (vA d9), some (vA d10), some (vL l15.1 l15.2), some (.bool true)], r14.2))
else
(run (Et base) 145 [(vI n7)] r14.2).bind fun r19 =>
((some r19.1).bind (getI .i64)).bind fun n20 =>
(if (n20 != (5 : Int)) = true then
some (.inl ([some (.pointer p6), some (vI n8), some (vA d9), some (vA d10), some (vL l15.1 l15.2), some (.bool true)], r19.2))
else
((cell r19.2 d10.block (d10.off + 3)).bind getS).bind fun l21 =>
some (.inl ([some (.pointer p6), some (vI n8), some (vA d9), some (vA d10), some (vL l15.1 l15.2), some (.bool (((l21.2 : Nat) : Int) == (20 : Int)))], r19.2))))).bind fun j16 => joinK j16 fun j16 =>
j_PIAALB j16.1 fun p22 n23 d24 d25 l26 b27 =>
(if b27 = true then
(p22).bind fun a28 =>
(wr base j16.2 a28.block (a28.off + 3) [(.bool true)]).bind fun h29 =>
c_IITL h29 d25.block d25.off fun n30 n31 s32 l33 =>
(wr base h29 d24.block d24.off [(vI n30), (vI n31), (vT s32), (vL l33.1 l33.2)]).bind fun h34 =>
some (1, [some (vA d24)], h34)
else
((cell j16.2 d25.block (d25.off + 3)).bind getS).bind fun l35 =>
(if 0 ≤ (0 : Int) ∧ (0 : Int) < ((l26.2 : Nat) : Int) then
((l26.1 : Option Addr)).bind fun a36 =>
((cell j16.2 a36.block (a36.off + Int.toNat (0 : Int) * 1)).bind (getI .i64)).bind fun n37 =>
(run (Et base) 181 [(.pointer p22), (vI n37), (vI (IntKind.wrap .i64 (n23 - (1 : Int))))] j16.2).bind fun r38 =>
gG (some r38.1) 4 fun l39 =>
l_IITL l39 fun n40 n41 s42 l43 =>
(gate (sameA j16.2 r38.2 (some ⟨d25.block, (d25.off + 3), none⟩) 1)
((gate (neA (some ⟨d25.block, (d25.off + 3), none⟩) (List.length r38.2))
(nw1 r38.2 39 [(vI n40), (vI n41), (vT s42), (vL l43.1 l43.2)] fun h44 =>
(app base h44 39 4 56 l35.1 l35.2 (rawAt h44 (some ⟨(List.length r38.2), 0, none⟩) (1 * 4)) 1).bind fun p45 =>
((some p45.1).bind getS).bind fun l46 =>
(wr base p45.2 d25.block (d25.off + 3) [(vL l46.1 l46.2)]).bind fun h47 =>
(if 0 ≤ (1 : Int) ∧ (1 : Int) < ((l26.2 : Nat) : Int) then
((l26.1 : Option Addr)).bind fun a48 =>
((cell h47 a48.block (a48.off + Int.toNat (1 : Int) * 1)).bind (getI .i64)).bind fun n49 =>
some (0, [some (.pointer p22), some (vI n49), some (vI n23), some (vA d24), some (vA d25)], h47)
else none)))))
else none))
else
some (2, [some (vA d9), some (vA d10)], j1.2)) : Option (Nat × Slots × AH)) := by kernel_rfl
theorem r201 {base : Nat} {v0 : Option Addr} {v1 : Int} {v2 : Int} {h : AH} {r : Value × AH} (hx : (nw1 h 39 [(vI 0), (vI 0), (vT ⟨#[]⟩), (vL none 0)] fun h1 =>
nw1 h1 39 [(vI 0), (vI 0), (vT ⟨#[]⟩), (vL none 0)] fun h2 =>
(wr base h2 (List.length h1) 0 [(vI (5 : Int)), (vI (0 : Int)), (vT (⟨#[]⟩ : ByteArray)), (vL none 0)]).bind fun h3 =>
(loopL (B201_0 base) [some (.pointer v0), some (vI v1), some (vI v2), some (vP (List.length h)), some (vP (List.length h1))] h3).bind fun q4 =>
(if q4.1 = 1 then
((sget q4.2.1 0).bind getA).bind fun d5 =>
c_IITL q4.2.2 d5.block d5.off fun n6 n7 s8 l9 =>
some ((.agg #[(vI n6), (vI n7), (vT s8), (vL l9.1 l9.2)]), q4.2.2)
else
(if q4.1 = 2 then
j_AA q4.2.1 fun d10 d11 =>
c_IITL q4.2.2 d11.block d11.off fun n12 n13 s14 l15 =>
(wr base q4.2.2 d10.block d10.off [(vI n12), (vI n13), (vT s14), (vL l15.1 l15.2)]).bind fun h16 =>
c_IITL h16 d10.block d10.off fun n17 n18 s19 l20 =>
some ((.agg #[(vI n17), (vI n18), (vT s19), (vL l20.1 l20.2)]), h16)
else
none))) = some r) : run (Et base) 201 [(.pointer v0), (vI v1), (vI v2)] h = some r := run_i (an := a201) Try.func201 (by kernel_rfl) (.trans (by kernel_rfl) hx)
noncomputable def B202_0 (base : Nat) : Body := fun l h => lay s202_0 l fun s => exCode (Et base) (run (Et base)) loopL a202_0 (subC [1, 1, 1, 1, 0, 1, 0, 0] (bodyC Try.f202)) s h (keepK s202_0 e202_0)
theorem B202_0_eq (base : Nat) (v0 : Option Addr) (v2 : Int) (v6 : Addr) (v8 : Option Addr) (v8n : Nat) (v9 : Addr) (v10 : Int) (h : AH) : B202_0 base [some (.pointer v0), some (vI v2), some (vA v6), some (vL v8 v8n), some (vA v9), some (vI v10)] h =
(((if (decide (v10 < ((v8n : Nat) : Int))) = true then
(v0).bind fun a2 =>
((cell h a2.block (a2.off + 3)).bind getB).bind fun b3 =>
some (.inl ([some (.pointer v0), some (vI v2), some (vA v6), some (vL v8 v8n), some (vA v9), some (vI v10), some (.bool (!b3))], h))
else
some (.inl ([some (.pointer v0), some (vI v2), some (vA v6), some (vL v8 v8n), some (vA v9), some (vI v10), some (.bool false)], h)))).bind fun j1 => joinK j1 fun j1 =>
j_PIALAIB j1.1 fun p4 n5 d6 l7 d8 n9 b10 =>
(if b10 = true then
((cell j1.2 d8.block (d8.off + 3)).bind getS).bind fun l11 =>
(if 0 ≤ n9 ∧ n9 < ((l7.2 : Nat) : Int) then
((l7.1 : Option Addr)).bind fun a12 =>
((cell j1.2 a12.block (a12.off + Int.toNat n9 * 1)).bind (getI .i64)).bind fun n13 =>
(run (Et base) 181 [(.pointer p4), (vI n13), (vI (IntKind.wrap .i64 (n5 - (1 : Int))))] j1.2).bind fun r14 =>
gG (some r14.1) 4 fun l15 =>
l_IITL l15 fun n16 n17 s18 l19 =>
(gate (sameA j1.2 r14.2 (some ⟨d8.block, (d8.off + 3), none⟩) 1)
((gate (neA (some ⟨d8.block, (d8.off + 3), none⟩) (List.length r14.2))
(nw1 r14.2 39 [(vI n16), (vI n17), (vT s18), (vL l19.1 l19.2)] fun h20 =>
(app base h20 39 4 56 l11.1 l11.2 (rawAt h20 (some ⟨(List.length r14.2), 0, none⟩) (1 * 4)) 1).bind fun p21 =>
((some p21.1).bind getS).bind fun l22 =>
(wr base p21.2 d8.block (d8.off + 3) [(vL l22.1 l22.2)]).bind fun h23 =>
some (0, [some (.pointer p4), some (vI n5), some (vA d6), some (vL l7.1 l7.2), some (vA d8), some (vI (IntKind.wrap .i64 (n9 + (1 : Int))))], h23)))))
else none)
else
some (2, [some (vA d6), some (vA d8)], j1.2)) : Option (Nat × Slots × AH)) := by kernel_rfl
theorem r202 {base : Nat} {v0 : Option Addr} {v1 : Int} {v2 : Int} {h : AH} {r : Value × AH} (hx : (nw1 h 39 [(vI 0), (vI 0), (vT ⟨#[]⟩), (vL none 0)] fun h1 =>
(run (Et base) 217 [(.pointer v0), (vI v1), (vI (8 : Int))] h1).bind fun r2 =>
((some r2.1).bind (getI .i64)).bind fun n3 =>
(run (Et base) 216 [(.pointer v0), (vI (IntKind.wrap .i64 (v1 + (1 : Int)))), (vI n3)] r2.2).bind fun r4 =>
((some r4.1).bind getS).bind fun l5 =>
nw1 r4.2 39 [(vI 0), (vI 0), (vT ⟨#[]⟩), (vL none 0)] fun h6 =>
(wr base h6 (List.length r4.2) 0 [(vI (4 : Int)), (vI (0 : Int)), (vT (⟨#[]⟩ : ByteArray)), (vL none 0)]).bind fun h7 =>
(loopL (B202_0 base) [some (.pointer v0), some (vI v2), some (vP (List.length h)), some (vL l5.1 l5.2), some (vP (List.length r4.2)), some (vI (0 : Int))] h7).bind fun q8 =>
(if q8.1 = 2 then
j_AA q8.2.1 fun d9 d10 =>
c_IITL q8.2.2 d10.block d10.off fun n11 n12 s13 l14 =>
(wr base q8.2.2 d9.block d9.off [(vI n11), (vI n12), (vT s13), (vL l14.1 l14.2)]).bind fun h15 =>
c_IITL h15 d9.block d9.off fun n16 n17 s18 l19 =>
some ((.agg #[(vI n16), (vI n17), (vT s18), (vL l19.1 l19.2)]), h15)
else
none)) = some r) : run (Et base) 202 [(.pointer v0), (vI v1), (vI v2)] h = some r := run_i (an := a202) Try.func202 (by kernel_rfl) (.trans (by kernel_rfl) hx)
noncomputable def B203_0 (base : Nat) : Body := fun l h => lay s203_0 l fun s => exCode (Et base) (run (Et base)) loopL a203_0 (subC [1, 1, 1, 1, 0, 1, 0, 0] (bodyC Try.f203)) s h (keepK s203_0 e203_0)
theorem B203_0_eq (base : Nat) (v0 : Option Addr) (v4 : Addr) (v6 : Option Addr) (v6n : Nat) (v7 : Option Addr) (v7n : Nat) (v8 : Int) (h : AH) : B203_0 base [some (.pointer v0), some (vA v4), some (vL v6 v6n), some (vL v7 v7n), some (vI v8)] h =
((if (decide (v8 < ((v6n : Nat) : Int))) = true then
((if 0 ≤ v8 ∧ v8 < ((v6n : Nat) : Int) then
((v6 : Option Addr)).bind fun a2 =>
((cell h a2.block (a2.off + Int.toNat v8 * 1)).bind (getI .i64)).bind fun n3 =>
(run (Et base) 83 [(vI n3), (vI (0 : Int)), (vI (255 : Int))] h).bind fun r4 =>
((some r4.1).bind getB).bind fun b5 =>
(if (!b5) = true then
(v0).bind fun a6 =>
(wr base r4.2 a6.block (a6.off + 3) [(.bool true)]).bind fun h7 =>
some (.inl ([some (.pointer v0), some (vA v4), some (vL v6 v6n), some (vL v7 v7n), some (vI v8)], h7))
else
some (.inl ([some (.pointer v0), some (vA v4), some (vL v6 v6n), some (vL v7 v7n), some (vI v8)], r4.2)))
else none)).bind fun j1 => joinK j1 fun j1 =>
j_PALLI j1.1 fun p8 d9 l10 l11 n12 =>
(if 0 ≤ n12 ∧ n12 < ((l10.2 : Nat) : Int) then
((l10.1 : Option Addr)).bind fun a13 =>
((cell j1.2 a13.block (a13.off + Int.toNat n12 * 1)).bind (getI .i64)).bind fun n14 =>
nw1 j1.2 5 [(.int .u8 (IntKind.wrap .u8 n14))] fun h15 =>
(app base h15 5 1 1 l11.1 l11.2 (rawAt h15 (some ⟨(List.length j1.2), 0, none⟩) (1 * 1)) 1).bind fun p16 =>
((some p16.1).bind getS).bind fun l17 =>
some (0, [some (.pointer p8), some (vA d9), some (vL l10.1 l10.2), some (vL l17.1 l17.2), some (vI (IntKind.wrap .i64 (n12 + (1 : Int))))], p16.2)
else none)
else
some (2, [some (vA v4), some (vL v7 v7n)], h)) : Option (Nat × Slots × AH)) := by kernel_rfl
theorem r203 {base : Nat} {v0 : Option Addr} {v1 : Int} {h : AH} {r : Value × AH} (hx : ((some (h ++ [some ⟨[(.int .i64 0), (.int .i64 0), (.string ⟨#[]⟩), (.slice none 0 0)], 39⟩])).bind fun h1 =>
(run (Et base) 217 [(.pointer v0), (.int .i64 v1), (.int .i64 (40 : Int))] h1).bind fun r2 =>
((some r2.1).bind (getI .i64)).bind fun n3 =>
(run (Et base) 216 [(.pointer v0), (.int .i64 (IntKind.wrap .i64 (v1 + (1 : Int)))), (.int .i64 n3)] r2.2).bind fun r4 =>
((some r4.1).bind getS).bind fun l5 =>
(some (r4.2 ++ [some ⟨[], 5⟩])).bind fun h6 =>
(loopL (B203_0 base) [some (.pointer v0), some (.pointer (some ⟨(List.length h), 0, none⟩)), some (.slice l5.1 l5.2 l5.2), some (.slice (some ⟨(List.length r4.2), 0, none⟩) 0 0), some (.int .i64 (0 : Int))] h6).bind fun q7 =>
(if q7.1 = 2 then
((sget q7.2.1 0).bind getA).bind fun d8 =>
((sget (q7.2.1.tail) 0).bind getS).bind fun l9 =>
((rawAt q7.2.2 l9.1 l9.2).bind u8s).bind fun z10 =>
(wr base q7.2.2 d8.block d8.off [(.int .i64 (6 : Int)), (.int .i64 (0 : Int)), (.string (bstr z10)), (.slice none 0 0)]).bind fun h11 =>
((cell h11 d8.block d8.off).bind (getI .i64)).bind fun n12 =>
((cell h11 d8.block (d8.off + 1)).bind (getI .i64)).bind fun n13 =>
((cell h11 d8.block ((d8.off + 1) + 1)).bind getStr).bind fun s14 =>
((cell h11 d8.block (((d8.off + 1) + 1) + 1)).bind getS).bind fun l15 =>
some ((.agg #[(.int .i64 n12), (.int .i64 n13), (.string s14), (.slice l15.1 l15.2 l15.2)]), h11)
else
none)) = some r) : run (Et base) 203 [(.pointer v0), (vI v1)] h = some r := run_i (an := a203) Try.func203 (by kernel_rfl) (.trans (by kernel_rfl) hx)
noncomputable def B204_0 (base : Nat) : Body := fun l h => lay s204_0 l fun s => exCode (Et base) (run (Et base)) loopL a204_0 (subC [1, 1, 1, 1, 0, 1, 0, 0] (bodyC Try.f204)) s h (keepK s204_0 e204_0)
theorem B204_0_eq (base : Nat) (v0 : Option Addr) (v1 : Int) (v2 : Int) (v7 : Int) (v8 : Option Addr) (v8n : Nat) (v9 : Int) (h : AH) : B204_0 base [some (.pointer v0), some (vI v1), some (vI v2), some (vI v7), some (vL v8 v8n), some (vI v9)] h =
(((if (decide (v9 ≤ v7)) = true then
(v0).bind fun a2 =>
((cell h a2.block (a2.off + 3)).bind getB).bind fun b3 =>
some (.inl ([some (.pointer v0), some (vI v1), some (vI v2), some (vI v7), some (vL v8 v8n), some (vI v9), some (.bool (!b3))], h))
else
some (.inl ([some (.pointer v0), some (vI v1), some (vI v2), some (vI v7), some (vL v8 v8n), some (vI v9), some (.bool false)], h)))).bind fun j1 => joinK j1 fun j1 =>
j_PIIILIB j1.1 fun p4 n5 n6 n7 l8 n9 b10 =>
(if b10 = true then
(run (Et base) 218 [(.pointer p4), (vI (IntKind.wrap .i64 (n5 + n9)))] j1.2).bind fun r11 =>
((some r11.1).bind (getI .i64)).bind fun n12 =>
(run (Et base) 184 [(.pointer p4), (vI n12), (vI (IntKind.wrap .i64 (n6 + (1 : Int))))] r11.2).bind fun r13 =>
gG (some r13.1) 4 fun l14 =>
l_IITL l14 fun n15 n16 s17 l18 =>
nw1 r13.2 39 [(vI 0), (vI 0), (vT ⟨#[]⟩), (vL none 0)] fun h19 =>
(wr base h19 (List.length r13.2) 0 [(vI n15), (vI n16), (vT s17), (vL l18.1 l18.2)]).bind fun h20 =>
c_IITL h20 (List.length r13.2) 0 fun n21 n22 s23 l24 =>
nw1 h20 39 [(vI n21), (vI n22), (vT s23), (vL l24.1 l24.2)] fun h25 =>
(app base h25 39 4 56 l8.1 l8.2 (rawAt h25 (some ⟨(List.length h20), 0, none⟩) (1 * 4)) 1).bind fun p26 =>
((some p26.1).bind getS).bind fun l27 =>
some (0, [some (.pointer p4), some (vI n5), some (vI n6), some (vI n7), some (vL l27.1 l27.2), some (vI (IntKind.wrap .i64 (n9 + (1 : Int))))], p26.2)
else
some (2, [some (vL l8.1 l8.2)], j1.2)) : Option (Nat × Slots × AH)) := by kernel_rfl
theorem r204 {base : Nat} {v0 : Option Addr} {v1 : Int} {v2 : Int} {h : AH} {r : Value × AH} (hx : ((run (Et base) 218 [(.pointer v0), (.int .i64 v1)] h).bind fun r1 =>
((some r1.1).bind (getI .i64)).bind fun n2 =>
((v0).bind fun a4 =>
((cell r1.2 a4.block (a4.off + 3)).bind getB).bind fun b5 =>
(if b5 = true then
some (.inl ([some (.pointer v0), some (.int .i64 v1), some (.int .i64 v2), some (.int .i64 n2), some (.bool true)], r1.2))
else
(run (Et base) 87 [(.int .i64 n2), (.int .i64 (0 : Int)), (.int .i64 (8 : Int))] r1.2).bind fun r6 =>
((some r6.1).bind getB).bind fun b7 =>
some (.inl ([some (.pointer v0), some (.int .i64 v1), some (.int .i64 v2), some (.int .i64 n2), some (.bool (!b7))], r6.2)))).bind fun j3 => joinK j3 fun j3 =>
((sget j3.1 0).bind getP).bind fun p8 =>
((sget (j3.1.tail) 0).bind (getI .i64)).bind fun n9 =>
((sget (j3.1.tail.tail) 0).bind (getI .i64)).bind fun n10 =>
((sget (j3.1.tail.tail.tail) 0).bind (getI .i64)).bind fun n11 =>
((sget (j3.1.tail.tail.tail.tail) 0).bind getB).bind fun b12 =>
(if b12 = true then
(p8).bind fun a13 =>
(wr base j3.2 a13.block (a13.off + 3) [(.bool true)]).bind fun h14 =>
some ((.slice none 0 0), h14)
else
(loopL (B204_0 base) [some (.pointer p8), some (.int .i64 n9), some (.int .i64 n10), some (.int .i64 n11), some (.slice none 0 0), some (.int .i64 (1 : Int))] j3.2).bind fun q15 =>
(if q15.1 = 2 then
((sget q15.2.1 0).bind getS).bind fun l16 =>
some ((.slice l16.1 l16.2 l16.2), q15.2.2)
else
none))) = some r) : run (Et base) 204 [(.pointer v0), (vI v1), (vI v2)] h = some r := run_i (an := a204) Try.func204 (by kernel_rfl) (.trans (by kernel_rfl) hx)
noncomputable def B205_0 (base : Nat) : Body := fun l h => lay s205_0 l fun s => exCode (Et base) (run (Et base)) loopL a205_0 (subC [1, 1, 0, 0, 0] (bodyC Try.f205)) s h (keepK s205_0 e205_0)
theorem B205_0_eq (base : Nat) (v0 : Option Addr) (v1 : Int) (v2 : Int) (v7 : Option Addr) (v7n : Nat) (h : AH) : B205_0 base [some (.pointer v0), some (vI v1), some (vI v2), some (vL v7 v7n)] h =
(((run (Et base) 185 [(vI v1)] h).bind fun r2 =>
((some r2.1).bind (getI .i64)).bind fun n3 =>
(if (n3 == (5 : Int)) = true then
(if (decide (v1 ≥ (0 : Int))) = true then
(if (decide (((v7n : Nat) : Int) ≤ (20 : Int))) = true then
(v0).bind fun a4 =>
((cell r2.2 a4.block (a4.off + 3)).bind getB).bind fun b5 =>
some (.inl ([some (.pointer v0), some (vI v1), some (vI v2), some (vL v7 v7n), some (.bool (!b5))], r2.2))
else
some (.inl ([some (.pointer v0), some (vI v1), some (vI v2), some (vL v7 v7n), some (.bool false)], r2.2)))
else
some (.inl ([some (.pointer v0), some (vI v1), some (vI v2), some (vL v7 v7n), some (.bool false)], r2.2)))
else
some (.inl ([some (.pointer v0), some (vI v1), some (vI v2), some (vL v7 v7n), some (.bool false)], r2.2)))).bind fun j1 => joinK j1 fun j1 =>
j_PIILB j1.1 fun p6 n7 n8 l9 b10 =>
(if b10 = true then
(run (Et base) 152 [(vI n7)] j1.2).bind fun r11 =>
((some r11.1).bind (getI .i64)).bind fun n12 =>
(run (Et base) 218 [(.pointer p6), (vI n12)] r11.2).bind fun r13 =>
((some r13.1).bind (getI .i64)).bind fun n14 =>
(run (Et base) 184 [(.pointer p6), (vI n14), (vI (IntKind.wrap .i64 (n8 + (1 : Int))))] r13.2).bind fun r15 =>
gG (some r15.1) 4 fun l16 =>
l_IITL l16 fun n17 n18 s19 l20 =>
nw1 r15.2 39 [(vI 0), (vI 0), (vT ⟨#[]⟩), (vL none 0)] fun h21 =>
(wr base h21 (List.length r15.2) 0 [(vI n17), (vI n18), (vT s19), (vL l20.1 l20.2)]).bind fun h22 =>
c_IITL h22 (List.length r15.2) 0 fun n23 n24 s25 l26 =>
nw1 h22 39 [(vI n23), (vI n24), (vT s25), (vL l26.1 l26.2)] fun h27 =>
(app base h27 39 4 56 l9.1 l9.2 (rawAt h27 (some ⟨(List.length h22), 0, none⟩) (1 * 4)) 1).bind fun p28 =>
((some p28.1).bind getS).bind fun l29 =>
(run (Et base) 218 [(.pointer p6), (vI (IntKind.wrap .i64 (n12 + (1 : Int))))] p28.2).bind fun r30 =>
((some r30.1).bind (getI .i64)).bind fun n31 =>
some (0, [some (.pointer p6), some (vI n31), some (vI n8), some (vL l29.1 l29.2)], r30.2)
else
some (2, [some (.pointer p6), some (vI n7), some (vL l9.1 l9.2)], j1.2)) : Option (Nat × Slots × AH)) := by kernel_rfl
theorem r205 {base : Nat} {v0 : Option Addr} {v1 : Int} {v2 : Int} {h : AH} {r : Value × AH} (hx : ((loopL (B205_0 base) [some (.pointer v0), some (.int .i64 v1), some (.int .i64 v2), some (.slice none 0 0)] h).bind fun q1 =>
(if q1.1 = 2 then
((sget q1.2.1 0).bind getP).bind fun p2 =>
((sget (q1.2.1.tail) 0).bind (getI .i64)).bind fun n3 =>
((sget (q1.2.1.tail.tail) 0).bind getS).bind fun l4 =>
((p2).bind fun a6 =>
((cell q1.2.2 a6.block (a6.off + 3)).bind getB).bind fun b7 =>
(if b7 = true then
(p2).bind fun a8 =>
(wr base q1.2.2 a8.block (a8.off + 3) [(.bool true)]).bind fun h9 =>
some (.inl ([some (.slice l4.1 l4.2 l4.2)], h9))
else
(run (Et base) 174 [(.int .i64 (3 : Int)), (.int .i64 (0 : Int))] q1.2.2).bind fun r10 =>
((some r10.1).bind (getI .i64)).bind fun n11 =>
(p2).bind fun a12 =>
(wr base r10.2 a12.block (a12.off + 3) [(.bool (n3 != n11))]).bind fun h13 =>
some (.inl ([some (.slice l4.1 l4.2 l4.2)], h13)))).bind fun j5 => joinK j5 fun j5 =>
((sget j5.1 0).bind getS).bind fun l14 =>
some ((.slice l14.1 l14.2 l14.2), j5.2)
else
none)) = some r) : run (Et base) 205 [(.pointer v0), (vI v1), (vI v2)] h = some r := run_i (an := a205) Try.func205 (by kernel_rfl) (.trans (by kernel_rfl) hx)
noncomputable def B206_0 (base : Nat) : Body := fun l h => lay s206_0 l fun s => exCode (Et base) (run (Et base)) loopL a206_0 (subC [1, 1, 1, 1, 0, 1, 0, 0] (bodyC Try.f206)) s h (keepK s206_0 e206_0)
theorem B206_0_eq (base : Nat) (v0 : Option Addr) (v1 : Int) (v5 : Int) (v6 : Option Addr) (v6n : Nat) (v7 : Int) (h : AH) : B206_0 base [some (.pointer v0), some (vI v1), some (vI v5), some (vL v6 v6n), some (vI v7)] h =
((if (decide (v7 ≤ v5)) = true then
(run (Et base) 218 [(.pointer v0), (vI (IntKind.wrap .i64 (v1 + v7)))] h).bind fun r1 =>
((some r1.1).bind (getI .i64)).bind fun n2 =>
((v0).bind fun a4 =>
((cell r1.2 a4.block (a4.off + 3)).bind getB).bind fun b5 =>
(if b5 = true then
(v0).bind fun a6 =>
(wr base r1.2 a6.block (a6.off + 3) [(.bool true)]).bind fun h7 =>
some (.inl ([some (.pointer v0), some (vI v1), some (vI v5), some (vL v6 v6n), some (vI v7), some (vI n2)], h7))
else
(run (Et base) 87 [(vI n2), (vI (0 : Int)), (vI (255 : Int))] r1.2).bind fun r8 =>
((some r8.1).bind getB).bind fun b9 =>
(v0).bind fun a10 =>
(wr base r8.2 a10.block (a10.off + 3) [(.bool (!b9))]).bind fun h11 =>
some (.inl ([some (.pointer v0), some (vI v1), some (vI v5), some (vL v6 v6n), some (vI v7), some (vI n2)], h11)))).bind fun j3 => joinK j3 fun j3 =>
j_PIILII j3.1 fun p12 n13 n14 l15 n16 n17 =>
nw1 j3.2 5 [(.int .u8 (IntKind.wrap .u8 n17))] fun h18 =>
(app base h18 5 1 1 l15.1 l15.2 (rawAt h18 (some ⟨(List.length j3.2), 0, none⟩) (1 * 1)) 1).bind fun p19 =>
((some p19.1).bind getS).bind fun l20 =>
some (0, [some (.pointer p12), some (vI n13), some (vI n14), some (vL l20.1 l20.2), some (vI (IntKind.wrap .i64 (n16 + (1 : Int))))], p19.2)
else
some (2, [some (vL v6 v6n)], h)) : Option (Nat × Slots × AH)) := by kernel_rfl
theorem r206 {base : Nat} {v0 : Option Addr} {v1 : Int} {h : AH} {r : Value × AH} (hx : ((run (Et base) 218 [(.pointer v0), (.int .i64 v1)] h).bind fun r1 =>
((some r1.1).bind (getI .i64)).bind fun n2 =>
((v0).bind fun a4 =>
((cell r1.2 a4.block (a4.off + 3)).bind getB).bind fun b5 =>
(if b5 = true then
some (.inl ([some (.pointer v0), some (.int .i64 v1), some (.int .i64 n2), some (.bool true)], r1.2))
else
(run (Et base) 87 [(.int .i64 n2), (.int .i64 (0 : Int)), (.int .i64 (40 : Int))] r1.2).bind fun r6 =>
((some r6.1).bind getB).bind fun b7 =>
some (.inl ([some (.pointer v0), some (.int .i64 v1), some (.int .i64 n2), some (.bool (!b7))], r6.2)))).bind fun j3 => joinK j3 fun j3 =>
((sget j3.1 0).bind getP).bind fun p8 =>
((sget (j3.1.tail) 0).bind (getI .i64)).bind fun n9 =>
((sget (j3.1.tail.tail) 0).bind (getI .i64)).bind fun n10 =>
((sget (j3.1.tail.tail.tail) 0).bind getB).bind fun b11 =>
(if b11 = true then
(p8).bind fun a12 =>
(wr base j3.2 a12.block (a12.off + 3) [(.bool true)]).bind fun h13 =>
some ((.string (⟨#[]⟩ : ByteArray)), h13)
else
(loopL (B206_0 base) [some (.pointer p8), some (.int .i64 n9), some (.int .i64 n10), some (.slice none 0 0), some (.int .i64 (1 : Int))] j3.2).bind fun q14 =>
(if q14.1 = 2 then
((sget q14.2.1 0).bind getS).bind fun l15 =>
((rawAt q14.2.2 l15.1 l15.2).bind u8s).bind fun z16 =>
some ((.string (bstr z16)), q14.2.2)
else
none))) = some r) : run (Et base) 206 [(.pointer v0), (vI v1)] h = some r := run_i (an := a206) Try.func206 (by kernel_rfl) (.trans (by kernel_rfl) hx)
noncomputable def B209_0 (base : Nat) : Body := fun l h => lay s209_0 l fun s => exCode (Et base) (run (Et base)) loopL a209_0 (subC [1, 0, 1, 0, 0] (bodyC Try.f209)) s h (keepK s209_0 e209_0)
theorem B209_0_eq (base : Nat) (v0 : ByteArray) (v1 : Int) (v5 : Int) (h : AH) : B209_0 base [some (vT v0), some (.int .u8 v1), some (vI v5)] h =
((if (decide (v5 < (v0.size : Int))) = true then
(if 0 ≤ v5 ∧ v5 < (v0.size : Int) then
(if (((v0.data.toList.getD (Int.toNat v5) 0).toNat : Int) == v1) = true then
some (1, [some (.bool true)], h)
else
some (0, [some (.string v0), some (.int .u8 v1), some (.int .i64 (IntKind.wrap .i64 (v5 + (1 : Int))))], h))
else none)
else
some (2, [], h)) : Option (Nat × Slots × AH)) := by kernel_rfl
theorem r209 {base : Nat} {v0 : ByteArray} {v1 : Int} {h : AH} {r : Value × AH} (hx : ((loopL (B209_0 base) [some (.string v0), some (.int .u8 v1), some (.int .i64 (0 : Int))] h).bind fun q1 =>
(if q1.1 = 1 then
((sget q1.2.1 0).bind getB).bind fun b2 =>
some ((.bool b2), q1.2.2)
else
(if q1.1 = 2 then
some ((.bool false), q1.2.2)
else
none))) = some r) : run (Et base) 209 [(vT v0), (.int .u8 v1)] h = some r := run_i (an := a209) Try.func209 (by kernel_rfl) (.trans (by kernel_rfl) hx)
noncomputable abbrev qf213 (base : Nat) (v0 : Int) (h : AH) : Option (Value × AH) :=
(if (v0 == (1 : Int)) = true then
some ((vT (⟨#[65, 78]⟩ : ByteArray)), h)
else
(if (v0 == (2 : Int)) = true then
some ((vT (⟨#[65, 83]⟩ : ByteArray)), h)
else
((if (v0 == (3 : Int)) = true then
some (.inl ([some (vI v0), some (.bool (v0 == (3 : Int)))], h))
else
(if (v0 == (7 : Int)) = true then
some (.inl ([some (vI v0), some (.bool (v0 == (7 : Int)))], h))
else
(if (v0 == (8 : Int)) = true then
some (.inl ([some (vI v0), some (.bool (v0 == (8 : Int)))], h))
else
some (.inl ([some (vI v0), some (.bool (v0 == (13 : Int)))], h)))))).bind fun j1 => joinK j1 fun j1 =>
j_IB j1.1 fun n2 b3 =>
(if b3 = true then
some ((vT (⟨#[65, 66]⟩ : ByteArray)), j1.2)
else
((if (n2 == (4 : Int)) = true then
some (.inl ([some (vI n2), some (.bool (n2 == (4 : Int)))], j1.2))
else
(if (n2 == (6 : Int)) = true then
some (.inl ([some (vI n2), some (.bool (n2 == (6 : Int)))], j1.2))
else
(if (n2 == (10 : Int)) = true then
some (.inl ([some (vI n2), some (.bool (n2 == (10 : Int)))], j1.2))
else
(if (n2 == (11 : Int)) = true then
some (.inl ([some (vI n2), some (.bool (n2 == (11 : Int)))], j1.2))
else
some (.inl ([some (vI n2), some (.bool (n2 == (16 : Int)))], j1.2))))))).bind fun j4 => joinK j4 fun j4 =>
j_IB j4.1 fun n5 b6 =>
(if b6 = true then
some ((vT (⟨#[65, 66, 78]⟩ : ByteArray)), j4.2)
else
((if (n5 == (5 : Int)) = true then
some (.inl ([some (vI n5), some (.bool (n5 == (5 : Int)))], j4.2))
else
some (.inl ([some (vI n5), some (.bool (n5 == (9 : Int)))], j4.2)))).bind fun j7 => joinK j7 fun j7 =>
j_IB j7.1 fun n8 b9 =>
(if b9 = true then
some ((vT (⟨#[65, 66, 67]⟩ : ByteArray)), j7.2)
else
(if (n8 == (12 : Int)) = true then
some ((vT (⟨#[78]⟩ : ByteArray)), j7.2)
else
((if (n8 == (14 : Int)) = true then
some (.inl ([some (.bool (n8 == (14 : Int)))], j7.2))
else
(if (n8 == (15 : Int)) = true then
some (.inl ([some (.bool (n8 == (15 : Int)))], j7.2))
else
(if (n8 == (17 : Int)) = true then
some (.inl ([some (.bool (n8 == (17 : Int)))], j7.2))
else
(if (n8 == (18 : Int)) = true then
some (.inl ([some (.bool (n8 == (18 : Int)))], j7.2))
else
(if (n8 == (19 : Int)) = true then
some (.inl ([some (.bool (n8 == (19 : Int)))], j7.2))
else
some (.inl ([some (.bool (n8 == (20 : Int)))], j7.2)))))))).bind fun j10 => joinK j10 fun j10 =>
((sget j10.1 0).bind getB).bind fun b11 =>
(if b11 = true then
some ((vT (⟨#[65]⟩ : ByteArray)), j10.2)
else
some ((vT (⟨#[]⟩ : ByteArray)), j10.2))))))))
theorem r213 {base : Nat} {v0 : Int} {h : AH} {r : Value × AH} (hx : qf213 base v0 h = some r) : run (Et base) 213 [(vI v0)] h = some r := run_i (an := a213) Try.func213 (by kernel_rfl) (.trans (by kernel_rfl) hx)
theorem r214 {base : Nat} {v0 : Int} {w0 : Addr} {h : AH} {r : Value × AH} (hx : (((cell h w0.block w0.off).bind getStr).bind fun s1 =>
(run (Et base) 215 [(.string s1), (.int .u8 v0)] h).bind fun r2 =>
((some r2.1).bind (getI .i64)).bind fun n3 =>
some ((.bool (decide (n3 ≥ (0 : Int)))), r2.2)) = some r) : run (Et base) 214 [(.int .u8 v0), (vA w0)] h = some r := run_i (an := a214) Try.func214 (by kernel_rfl) (.trans (by kernel_rfl) hx)
theorem r215 {base : Nat} {v0 : ByteArray} {v1 : Int} {h : AH} {r : Value × AH} (hx : ((run (Et base) 223 [(.string v0), (.int .u8 v1)] h).bind fun r1 =>
((some r1.1).bind (getI .i64)).bind fun n2 =>
some ((.int .i64 n2), r1.2)) = some r) : run (Et base) 215 [(vT v0), (.int .u8 v1)] h = some r := run_i (an := a215) Try.func215 (by kernel_rfl) (.trans (by kernel_rfl) hx)
theorem r216 {base : Nat} {v0 : Option Addr} {v1 : Int} {v2 : Int} {h : AH} {r : Value × AH} (hx : (((v0).bind fun a2 =>
((cell h a2.block (a2.off + 3)).bind getB).bind fun b3 =>
(if b3 = true then
some (.inl ([some (.pointer v0), some (vI v1), some (vI v2), some (.bool true)], h))
else
(v0).bind fun a4 =>
((cell h a4.block (a4.off + 0)).bind getS).bind fun l5 =>
(run (Et base) 83 [(vI v1), (vI (0 : Int)), (vI ((l5.2 : Nat) : Int))] h).bind fun r6 =>
((some r6.1).bind getB).bind fun b7 =>
(if (!b7) = true then
some (.inl ([some (.pointer v0), some (vI v1), some (vI v2), some (.bool true)], r6.2))
else
(v0).bind fun a8 =>
((cell r6.2 a8.block (a8.off + 0)).bind getS).bind fun l9 =>
(run (Et base) 83 [(vI v2), (vI (0 : Int)), (vI (IntKind.wrap .i64 (((l9.2 : Nat) : Int) - v1)))] r6.2).bind fun r10 =>
((some r10.1).bind getB).bind fun b11 =>
some (.inl ([some (.pointer v0), some (vI v1), some (vI v2), some (.bool (!b11))], r10.2))))).bind fun j1 => joinK j1 fun j1 =>
j_PIIB j1.1 fun p12 n13 n14 b15 =>
(if b15 = true then
(p12).bind fun a16 =>
(wr base j1.2 a16.block (a16.off + 3) [(.bool true)]).bind fun h17 =>
nw1 h17 3 [] fun h18 =>
some ((vL (some ⟨(List.length h17), 0, none⟩) 0), h18)
else
(p12).bind fun a19 =>
((cell j1.2 a19.block (a19.off + 0)).bind getS).bind fun l20 =>
(if 0 ≤ n13 ∧ n13 ≤ (IntKind.wrap .i64 (n13 + n14)) ∧ (IntKind.wrap .i64 (n13 + n14)) ≤ ((l20.2 : Nat) : Int) ∧ okTy base j1.2 l20.1 3 (Int.toNat n13) = true then
some ((.slice (shiftA l20.1 (Int.toNat n13 * 1)) (Int.toNat (IntKind.wrap .i64 (n13 + n14)) - Int.toNat n13) (Int.toNat (IntKind.wrap .i64 (n13 + n14)) - Int.toNat n13)), j1.2)
else none))) = some r) : run (Et base) 216 [(.pointer v0), (vI v1), (vI v2)] h = some r := run_i (an := a216) Try.func216 (by kernel_rfl) (.trans (by kernel_rfl) hx)
theorem r217 {base : Nat} {v0 : Option Addr} {v1 : Int} {v2 : Int} {h : AH} {r : Value × AH} (hx : ((run (Et base) 216 [(.pointer v0), (.int .i64 v1), (.int .i64 (1 : Int))] h).bind fun r1 =>
((some r1.1).bind getS).bind fun l2 =>
((if (((l2.2 : Nat) : Int) == (0 : Int)) = true then
some (.inl ([some (.pointer v0), some (.slice l2.1 l2.2 l2.2), some (.bool true)], r1.2))
else
(if 0 ≤ (0 : Int) ∧ (0 : Int) < ((l2.2 : Nat) : Int) then
((l2.1 : Option Addr)).bind fun a4 =>
((cell r1.2 a4.block (a4.off + Int.toNat (0 : Int) * 1)).bind (getI .i64)).bind fun n5 =>
(run (Et base) 83 [(.int .i64 n5), (.int .i64 (0 : Int)), (.int .i64 v2)] r1.2).bind fun r6 =>
((some r6.1).bind getB).bind fun b7 =>
some (.inl ([some (.pointer v0), some (.slice l2.1 l2.2 l2.2), some (.bool (!b7))], r6.2))
else none))).bind fun j3 => joinK j3 fun j3 =>
((sget j3.1 0).bind getP).bind fun p8 =>
((sget (j3.1.tail) 0).bind getS).bind fun l9 =>
((sget (j3.1.tail.tail) 0).bind getB).bind fun b10 =>
(if b10 = true then
(p8).bind fun a11 =>
(wr base j3.2 a11.block (a11.off + 3) [(.bool true)]).bind fun h12 =>
some ((.int .i64 (0 : Int)), h12)
else
(if 0 ≤ (0 : Int) ∧ (0 : Int) < ((l9.2 : Nat) : Int) then
((l9.1 : Option Addr)).bind fun a13 =>
((cell j3.2 a13.block (a13.off + Int.toNat (0 : Int) * 1)).bind (getI .i64)).bind fun n14 =>
some ((.int .i64 n14), j3.2)
else none))) = some r) : run (Et base) 217 [(.pointer v0), (vI v1), (vI v2)] h = some r := run_i (an := a217) Try.func217 (by kernel_rfl) (.trans (by kernel_rfl) hx)
theorem r218 {base : Nat} {v0 : Option Addr} {v1 : Int} {h : AH} {r : Value × AH} (hx : ((v0).bind fun a1 =>
((cell h a1.block (a1.off + 0)).bind getF).bind fun f2 =>
(callU (Et base) (run (Et base)) f2.1 (f2.2.1.toList ++ [(.int .i64 v1)] ++ f2.2.2.toList) h).bind fun r3 =>
(getTup 2 r3.1).bind fun l4 =>
((l4[0]?).bind (getI .i64)).bind fun n5 =>
((l4[1]?).bind getB).bind fun b6 =>
((v0).bind fun a8 =>
((cell r3.2 a8.block (a8.off + 3)).bind getB).bind fun b9 =>
(if b9 = true then
(v0).bind fun a10 =>
(wr base r3.2 a10.block (a10.off + 3) [(.bool true)]).bind fun h11 =>
some (.inl ([some (.int .i64 n5)], h11))
else
(v0).bind fun a12 =>
(wr base r3.2 a12.block (a12.off + 3) [(.bool (!b6))]).bind fun h13 =>
some (.inl ([some (.int .i64 n5)], h13)))).bind fun j7 => joinK j7 fun j7 =>
((sget j7.1 0).bind (getI .i64)).bind fun n14 =>
some ((.int .i64 n14), j7.2)) = some r) : run (Et base) 218 [(.pointer v0), (vI v1)] h = some r := run_i (an := a218) Try.func218 (by kernel_rfl) (.trans (by kernel_rfl) hx)
theorem r223 {base : Nat} {v0 : ByteArray} {v1 : Int} {h : AH} {r : Value × AH} (hx : (some ((.int .i64 (firstIdx v0 (Nat.toUInt8 (Int.toNat v1)))), h)) = some r) : run (Et base) 223 [(vT v0), (.int .u8 v1)] h = some r := run_i (an := a223) Try.func223 (by kernel_rfl) (.trans (by kernel_rfl) hx)
end Go.Proofs.Ytjmkbglnjklbcaa.Am
