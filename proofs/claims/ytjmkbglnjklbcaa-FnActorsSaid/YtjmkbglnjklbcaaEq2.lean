/- What each of these functions comes to on the abstract machine, one equation a function and one a loop.
Conditions: none. -/
import Derived.Test.YtjmkbglnjklbcaaTb
set_option linter.unusedVariables false
set_option maxRecDepth 100000
namespace Go.Proofs.Ytjmkbglnjklbcaa.Am
open Go Go.RowKit
noncomputable abbrev qf157 (base : Nat) (v0 : Option Addr) (v1 : Option Addr) (v1n : Nat) (h : AH) : Option (Value × AH) :=
nw1 h 65 [(vI 0), (vI 0), (vL none 0), (vL none 0), (vL none 0)] fun h1 =>
(if (((v1n : Nat) : Int) == (0 : Int)) = true then
(wr base h1 (List.length h) 0 [(vI (0 : Int)), (vI (0 : Int)), (vL none 0), (vL none 0), (vL none 0)]).bind fun h2 =>
c_IILLL h2 (List.length h) 0 fun n3 n4 l5 l6 l7 =>
some ((.agg #[(vI n3), (vI n4), (vL l5.1 l5.2), (vL l6.1 l6.2), (vL l7.1 l7.2)]), h2)
else
(run (Et base) 191 [(.pointer v0), (vL v1 v1n)] h1).bind fun r8 =>
gG (some r8.1) 5 fun l9 =>
l_IILLL l9 fun n10 n11 l12 l13 l14 =>
nw1 r8.2 65 [(vI 0), (vI 0), (vL none 0), (vL none 0), (vL none 0)] fun h15 =>
(wr base h15 (List.length r8.2) 0 [(vI n10), (vI n11), (vL l12.1 l12.2), (vL l13.1 l13.2), (vL l14.1 l14.2)]).bind fun h16 =>
((run (Et base) 158 [(.pointer v0), (vI (12 : Int))] h16).bind fun r18 =>
((some r18.1).bind (getI .i64)).bind fun n19 =>
(if (n19 == (0 : Int)) = true then
nw1 r18.2 3 [(vI (0 : Int)), (vI (99999 : Int)), (vI (100000 : Int))] fun h20 =>
(run (Et base) 93 [(.pointer v0), (vL (some ⟨(List.length r18.2), 0, none⟩) 3)] h20).bind fun r21 =>
((some r21.1).bind (getI .i64)).bind fun n22 =>
(wr base r21.2 (List.length r8.2) 0 [(vI n22)]).bind fun h23 =>
some (.inl ([some (vP (List.length h)), some (vP (List.length r8.2))], h23))
else
(if (n19 == (1 : Int)) = true then
nw1 r18.2 3 [(vI (-1 : Int)), (vI (200 : Int)), (vI ((v1n : Nat) : Int))] fun h24 =>
(run (Et base) 93 [(.pointer v0), (vL (some ⟨(List.length r18.2), 0, none⟩) 3)] h24).bind fun r25 =>
((some r25.1).bind (getI .i64)).bind fun n26 =>
(wr base r25.2 (List.length r8.2) 1 [(vI n26)]).bind fun h27 =>
some (.inl ([some (vP (List.length h)), some (vP (List.length r8.2))], h27))
else
(if (n19 == (2 : Int)) = true then
((cell r18.2 (List.length r8.2) 2).bind getS).bind fun l28 =>
(run (Et base) 192 [(.pointer v0)] r18.2).bind fun r29 =>
gG (some r29.1) 4 fun l30 =>
l_IITL l30 fun n31 n32 s33 l34 =>
(gate (sameA r18.2 r29.2 (some ⟨(List.length r8.2), 2, none⟩) 1)
((if 0 ≤ (0 : Int) ∧ (0 : Int) < ((l28.2 : Nat) : Int) then
((l28.1 : Option Addr)).bind fun a35 =>
(wr base r29.2 a35.block (a35.off + Int.toNat (0 : Int) * 4) [(vI n31), (vI n32), (vT s33), (vL l34.1 l34.2)]).bind fun h36 =>
some (.inl ([some (vP (List.length h)), some (vP (List.length r8.2))], h36))
else none)))
else
(if (n19 == (3 : Int)) = true then
((cell r18.2 (List.length r8.2) 2).bind getS).bind fun l37 =>
(if 0 ≤ (1 : Int) ∧ (1 : Int) ≤ ((l37.2 : Nat) : Int) ∧ ((l37.2 : Nat) : Int) ≤ ((l37.2 : Nat) : Int) ∧ okTy base r18.2 l37.1 39 (Int.toNat (1 : Int)) = true then
(wr base r18.2 (List.length r8.2) 2 [(.slice (shiftA l37.1 (Int.toNat (1 : Int) * 4)) (Int.toNat ((l37.2 : Nat) : Int) - Int.toNat (1 : Int)) (Int.toNat ((l37.2 : Nat) : Int) - Int.toNat (1 : Int)))]).bind fun h38 =>
some (.inl ([some (vP (List.length h)), some (vP (List.length r8.2))], h38))
else none)
else
(if (n19 == (4 : Int)) = true then
((cell r18.2 (List.length r8.2) 0).bind (getI .i64)).bind fun n39 =>
nw1 r18.2 3 [(vI (2 : Int)), (vI (3 : Int)), (vI (4 : Int)), (vI n39)] fun h40 =>
(run (Et base) 93 [(.pointer v0), (vL (some ⟨(List.length r18.2), 0, none⟩) 4)] h40).bind fun r41 =>
((some r41.1).bind (getI .i64)).bind fun n42 =>
nw1 r41.2 3 [(vI (3 : Int)), (vI n42)] fun h43 =>
(wr base h43 (List.length r8.2) 4 [(vL (some ⟨(List.length r41.2), 0, none⟩) 2)]).bind fun h44 =>
some (.inl ([some (vP (List.length h)), some (vP (List.length r8.2))], h44))
else
some (.inl ([some (vP (List.length h)), some (vP (List.length r8.2))], r18.2)))))))).bind fun j17 => joinK j17 fun j17 =>
j_AA j17.1 fun d45 d46 =>
c_IILLL j17.2 d46.block d46.off fun n47 n48 l49 l50 l51 =>
(wr base j17.2 d45.block d45.off [(vI n47), (vI n48), (vL l49.1 l49.2), (vL l50.1 l50.2), (vL l51.1 l51.2)]).bind fun h52 =>
c_IILLL h52 d45.block d45.off fun n53 n54 l55 l56 l57 =>
some ((.agg #[(vI n53), (vI n54), (vL l55.1 l55.2), (vL l56.1 l56.2), (vL l57.1 l57.2)]), h52))
theorem r157 {base : Nat} {v0 : Option Addr} {v1 : Option Addr} {v1n : Nat} {h : AH} {r : Value × AH} (hx : qf157 base v0 v1 v1n h = some r) : run (Et base) 157 [(.pointer v0), (vL v1 v1n)] h = some r := run_i (an := a157) Try.func157 (by kernel_rfl) (.trans (by kernel_rfl) hx)
theorem r158 {base : Nat} {v0 : Option Addr} {v1 : Int} {h : AH} {r : Value × AH} (hx : ((if (decide (v1 ≤ (0 : Int))) = true then
some ((.int .i64 (0 : Int)), h)
else
(if (decide (v1 ≤ (256 : Int))) = true then
(run (Et base) 193 [(.pointer v0)] h).bind fun r1 =>
((some r1.1).bind (getI .i64)).bind fun n2 =>
(if v1 = 0 then none else
some ((.int .i64 (Int.tmod n2 v1)), r1.2))
else
(run (Et base) 193 [(.pointer v0)] h).bind fun r3 =>
((some r3.1).bind (getI .i64)).bind fun n4 =>
(run (Et base) 193 [(.pointer v0)] r3.2).bind fun r5 =>
((some r5.1).bind (getI .i64)).bind fun n6 =>
(run (Et base) 193 [(.pointer v0)] r5.2).bind fun r7 =>
((some r7.1).bind (getI .i64)).bind fun n8 =>
(if v1 = 0 then none else
some ((.int .i64 (Int.tmod (IntKind.wrap .i64 ((IntKind.wrap .i64 ((IntKind.wrap .i64 (n4 * (65536 : Int))) + (IntKind.wrap .i64 (n6 * (256 : Int))))) + n8)) v1)), r7.2))))) = some r) : run (Et base) 158 [(.pointer v0), (vI v1)] h = some r := run_i (an := a158) Try.func158 (by kernel_rfl) (.trans (by kernel_rfl) hx)
noncomputable abbrev qf159 (base : Nat) (v0_0 : Int) (v0_1 : Int) (v0_2 : Int) (v0_3 : Int) (v0_4 : Int) (v0_5 : ByteArray) (v1 : Int) (h : AH) : Option (Value × AH) :=
nw1 h 139 [(vI v0_0), (vI v0_1), (vI v0_2), (vI v0_3), (vI v0_4), (vT v0_5)] fun h1 =>
((run (Et base) 87 [(vI v1), (vI (1 : Int)), (vI (200 : Int))] h1).bind fun r3 =>
((some r3.1).bind getB).bind fun b4 =>
(if (!b4) = true then
some (.inl ([some (vI v1), some (vP (List.length h)), some (.bool true)], r3.2))
else
c_IIIIIT r3.2 (List.length h) 0 fun n5 n6 n7 n8 n9 s10 =>
(run (Et base) 194 [(.agg #[(vI n5), (vI n6), (vI n7), (vI n8), (vI n9), (vT s10)])] r3.2).bind fun r11 =>
((some r11.1).bind getB).bind fun b12 =>
(if (!b12) = true then
some (.inl ([some (vI v1), some (vP (List.length h)), some (.bool true)], r11.2))
else
((cell r11.2 (List.length h) 1).bind (getI .i64)).bind fun n13 =>
(run (Et base) 195 [(vI n13)] r11.2).bind fun r14 =>
((some r14.1).bind getB).bind fun b15 =>
(if (!b15) = true then
some (.inl ([some (vI v1), some (vP (List.length h)), some (.bool true)], r14.2))
else
((cell r14.2 (List.length h) 2).bind (getI .i64)).bind fun n16 =>
(run (Et base) 195 [(vI n16)] r14.2).bind fun r17 =>
((some r17.1).bind getB).bind fun b18 =>
(if (!b18) = true then
some (.inl ([some (vI v1), some (vP (List.length h)), some (.bool true)], r17.2))
else
((cell r17.2 (List.length h) 3).bind (getI .i64)).bind fun n19 =>
(run (Et base) 195 [(vI n19)] r17.2).bind fun r20 =>
((some r20.1).bind getB).bind fun b21 =>
some (.inl ([some (vI v1), some (vP (List.length h)), some (.bool (!b21))], r20.2))))))).bind fun j2 => joinK j2 fun j2 =>
j_IAB j2.1 fun n22 d23 b24 =>
(if b24 = true then
some ((.bool false), j2.2)
else
((cell j2.2 d23.block (d23.off + 0)).bind (getI .i64)).bind fun n25 =>
(if (n25 == (1 : Int)) = true then
((cell j2.2 d23.block (d23.off + 4)).bind (getI .i64)).bind fun n26 =>
(run (Et base) 87 [(vI n26), (vI (-1000000 : Int)), (vI (1000000 : Int))] j2.2).bind fun r27 =>
((some r27.1).bind getB).bind fun b28 =>
some ((.bool b28), r27.2)
else
(if (n25 == (2 : Int)) = true then
((cell j2.2 d23.block (d23.off + 5)).bind getStr).bind fun s29 =>
(run (Et base) 146 [(vT s29)] j2.2).bind fun r30 =>
((some r30.1).bind getB).bind fun b31 =>
some ((.bool b31), r30.2)
else
(if (n25 == (4 : Int)) = true then
((cell j2.2 d23.block (d23.off + 4)).bind (getI .i64)).bind fun n32 =>
(run (Et base) 87 [(vI n32), (vI (0 : Int)), (vI (8 : Int))] j2.2).bind fun r33 =>
((some r33.1).bind getB).bind fun b34 =>
(if b34 = true then
((cell r33.2 d23.block (d23.off + 2)).bind (getI .i64)).bind fun n35 =>
((cell r33.2 d23.block (d23.off + 4)).bind (getI .i64)).bind fun n36 =>
some ((.bool (decide ((IntKind.wrap .i64 (n35 + n36)) ≤ (8 : Int)))), r33.2)
else
some ((.bool false), r33.2))
else
(if (n25 == (6 : Int)) = true then
((cell j2.2 d23.block (d23.off + 4)).bind (getI .i64)).bind fun n37 =>
(run (Et base) 87 [(vI n37), (vI (0 : Int)), (vI (7 : Int))] j2.2).bind fun r38 =>
((some r38.1).bind getB).bind fun b39 =>
some ((.bool b39), r38.2)
else
(if (n25 == (11 : Int)) = true then
((cell j2.2 d23.block (d23.off + 2)).bind (getI .i64)).bind fun n40 =>
(run (Et base) 87 [(vI n40), (vI (1 : Int)), (vI (6 : Int))] j2.2).bind fun r41 =>
((some r41.1).bind getB).bind fun b42 =>
(if b42 = true then
((cell r41.2 d23.block (d23.off + 4)).bind (getI .i64)).bind fun n43 =>
(run (Et base) 87 [(vI n43), (vI (0 : Int)), (vI (IntKind.wrap .i64 (n22 - (1 : Int))))] r41.2).bind fun r44 =>
((some r44.1).bind getB).bind fun b45 =>
some ((.bool b45), r44.2)
else
some ((.bool false), r41.2))
else
((if (n25 == (10 : Int)) = true then
some (.inl ([some (vI n22), some (vA d23), some (.bool (n25 == (10 : Int)))], j2.2))
else
(if (n25 == (12 : Int)) = true then
some (.inl ([some (vI n22), some (vA d23), some (.bool (n25 == (12 : Int)))], j2.2))
else
some (.inl ([some (vI n22), some (vA d23), some (.bool (n25 == (16 : Int)))], j2.2))))).bind fun j46 => joinK j46 fun j46 =>
j_IAB j46.1 fun n47 d48 b49 =>
(if b49 = true then
((cell j46.2 d48.block (d48.off + 4)).bind (getI .i64)).bind fun n50 =>
(run (Et base) 87 [(vI n50), (vI (0 : Int)), (vI (IntKind.wrap .i64 (n47 - (1 : Int))))] j46.2).bind fun r51 =>
((some r51.1).bind getB).bind fun b52 =>
some ((.bool b52), r51.2)
else
some ((.bool true), j46.2))))))))
theorem r159 {base : Nat} {v0_0 : Int} {v0_1 : Int} {v0_2 : Int} {v0_3 : Int} {v0_4 : Int} {v0_5 : ByteArray} {v1 : Int} {h : AH} {r : Value × AH} (hx : qf159 base v0_0 v0_1 v0_2 v0_3 v0_4 v0_5 v1 h = some r) : run (Et base) 159 [(.agg #[(vI v0_0), (vI v0_1), (vI v0_2), (vI v0_3), (vI v0_4), (vT v0_5)]), (vI v1)] h = some r := run_i (an := a159) Try.func159 (by kernel_rfl) (.trans (by kernel_rfl) hx)
noncomputable def B160_0 (base : Nat) : Body := fun l h => lay s160_0 l fun s => exCode (Et base) (run (Et base)) loopL a160_0 (subC [1, 1, 0, 1, 0, 0] (bodyC Try.f160)) s h (keepK s160_0 e160_0)
theorem B160_0_eq (base : Nat) (v3 : Option Addr) (v3n : Nat) (v6 : Option Addr) (v6n : Nat) (v7 : Int) (v8 : Int) (h : AH) : B160_0 base [some (vL v3 v3n), some (vL v6 v6n), some (vI v7), some (vI v8)] h =
((if (decide (v8 < v7)) = true then
(if 0 ≤ v8 ∧ v8 < ((v6n : Nat) : Int) then
((v6 : Option Addr)).bind fun a1 =>
c_IITL h a1.block (a1.off + Int.toNat v8 * 4) fun n2 n3 s4 l5 =>
nw1 h 39 [(vI 0), (vI 0), (vT ⟨#[]⟩), (vL none 0)] fun h6 =>
(wr base h6 (List.length h) 0 [(vI n2), (vI n3), (vT s4), (vL l5.1 l5.2)]).bind fun h7 =>
c_IITL h7 (List.length h) 0 fun n8 n9 s10 l11 =>
(run (Et base) 103 [(.agg #[(vI n8), (vI n9), (vT s10), (vL l11.1 l11.2)])] h7).bind fun r12 =>
gG (some r12.1) 4 fun l13 =>
l_IITL l13 fun n14 n15 s16 l17 =>
nw1 r12.2 39 [(vI n14), (vI n15), (vT s16), (vL l17.1 l17.2)] fun h18 =>
(app base h18 39 4 56 v3 v3n (rawAt h18 (some ⟨(List.length r12.2), 0, none⟩) (1 * 4)) 1).bind fun p19 =>
((some p19.1).bind getS).bind fun l20 =>
some (0, [some (vL l20.1 l20.2), some (vL v6 v6n), some (vI v7), some (vI (IntKind.wrap .i64 (v8 + (1 : Int))))], p19.2)
else none)
else
some (2, [some (vL v3 v3n)], h)) : Option (Nat × Slots × AH)) := by kernel_rfl
theorem r160 {base : Nat} {v0 : Option Addr} {v0n : Nat} {h : AH} {r : Value × AH} (hx : ((loopL (B160_0 base) [some (.slice none 0 0), some (.slice v0 v0n v0n), some (.int .i64 ((v0n : Nat) : Int)), some (.int .i64 (0 : Int))] h).bind fun q1 =>
(if q1.1 = 2 then
((sget q1.2.1 0).bind getS).bind fun l2 =>
some ((.slice l2.1 l2.2 l2.2), q1.2.2)
else
none)) = some r) : run (Et base) 160 [(vL v0 v0n)] h = some r := run_i (an := a160) Try.func160 (by kernel_rfl) (.trans (by kernel_rfl) hx)
theorem r161 {base : Nat} {v0 : ByteArray} {h : AH} {r : Value × AH} (hx : ((some (h ++ [some ⟨[(.int .i64 0), (.int .i64 0), (.string ⟨#[]⟩), (.slice none 0 0)], 39⟩])).bind fun h1 =>
(wr base h1 (List.length h) 0 [(.int .i64 (2 : Int)), (.int .i64 (0 : Int)), (.string v0), (.slice none 0 0)]).bind fun h2 =>
((cell h2 (List.length h) 0).bind (getI .i64)).bind fun n3 =>
((cell h2 (List.length h) 1).bind (getI .i64)).bind fun n4 =>
((cell h2 (List.length h) 2).bind getStr).bind fun s5 =>
((cell h2 (List.length h) 3).bind getS).bind fun l6 =>
some ((.agg #[(.int .i64 n3), (.int .i64 n4), (.string s5), (.slice l6.1 l6.2 l6.2)]), h2)) = some r) : run (Et base) 161 [(vT v0)] h = some r := run_i (an := a161) Try.func161 (by kernel_rfl) (.trans (by kernel_rfl) hx)
noncomputable def B162_0 (base : Nat) : Body := fun l h => lay s162_0 l fun s => exCode (Et base) (run (Et base)) loopL a162_0 (subC [1, 1, 1, 0, 1, 0, 0] (bodyC Try.f162)) s h (keepK s162_0 e162_0)
theorem B162_0_eq (base : Nat) (v1 : Int) (v2 : Int) (v27 : Option Addr) (v27n : Nat) (v28 : Int) (v29 : Int) (h : AH) : B162_0 base [some (vI v1), some (vI v2), some (vL v27 v27n), some (vI v28), some (vI v29)] h =
((if (decide (v29 < v28)) = true then
(if 0 ≤ v29 ∧ v29 < ((v27n : Nat) : Int) then
((v27 : Option Addr)).bind fun a1 =>
c_IITL h a1.block (a1.off + Int.toNat v29 * 4) fun n2 n3 s4 l5 =>
nw1 h 39 [(vI 0), (vI 0), (vT ⟨#[]⟩), (vL none 0)] fun h6 =>
(wr base h6 (List.length h) 0 [(vI n2), (vI n3), (vT s4), (vL l5.1 l5.2)]).bind fun h7 =>
c_IITL h7 (List.length h) 0 fun n8 n9 s10 l11 =>
(run (Et base) 162 [(.agg #[(vI n8), (vI n9), (vT s10), (vL l11.1 l11.2)]), (vI (IntKind.wrap .i64 (v1 + (1 : Int)))), (vI v2)] h7).bind fun r12 =>
(getTup 2 r12.1).bind fun l13 =>
l_IB l13 fun n14 b15 =>
(if (!b15) = true then
some (1, [some (vI n14), some (.bool false)], r12.2)
else
some (0, [some (vI v1), some (vI n14), some (vL v27 v27n), some (vI v28), some (vI (IntKind.wrap .i64 (v29 + (1 : Int))))], r12.2))
else none)
else
some (2, [some (vI v2)], h)) : Option (Nat × Slots × AH)) := by kernel_rfl
theorem r162 {base : Nat} {v0_0 : Int} {v0_1 : Int} {v0_2 : ByteArray} {v0_3 : Option Addr} {v0_3n : Nat} {v1 : Int} {v2 : Int} {h : AH} {r : Value × AH} (hx : (nw1 h 39 [(vI v0_0), (vI v0_1), (vT v0_2), (vL v0_3 v0_3n)] fun h1 =>
((if (decide (v1 > (6 : Int))) = true then
some (.inl ([some (vI v1), some (vI (IntKind.wrap .i64 (v2 + (1 : Int)))), some (vP (List.length h)), some (.bool true)], h1))
else
(if (decide ((IntKind.wrap .i64 (v2 + (1 : Int))) > (100 : Int))) = true then
some (.inl ([some (vI v1), some (vI (IntKind.wrap .i64 (v2 + (1 : Int)))), some (vP (List.length h)), some (.bool true)], h1))
else
c_IITL h1 (List.length h) 0 fun n3 n4 s5 l6 =>
(run (Et base) 196 [(.agg #[(vI n3), (vI n4), (vT s5), (vL l6.1 l6.2)])] h1).bind fun r7 =>
((some r7.1).bind getB).bind fun b8 =>
some (.inl ([some (vI v1), some (vI (IntKind.wrap .i64 (v2 + (1 : Int)))), some (vP (List.length h)), some (.bool (!b8))], r7.2))))).bind fun j2 => joinK j2 fun j2 =>
j_IIAB j2.1 fun n9 n10 d11 b12 =>
(if b12 = true then
some ((.tuple #[(vI n10), (.bool false)]), j2.2)
else
((cell j2.2 d11.block (d11.off + 3)).bind getS).bind fun l13 =>
(loopL (B162_0 base) [some (vI n9), some (vI n10), some (vL l13.1 l13.2), some (vI ((l13.2 : Nat) : Int)), some (vI (0 : Int))] j2.2).bind fun q14 =>
(if q14.1 = 1 then
j_IB q14.2.1 fun n15 b16 =>
some ((.tuple #[(vI n15), (.bool b16)]), q14.2.2)
else
(if q14.1 = 2 then
((sget q14.2.1 0).bind (getI .i64)).bind fun n17 =>
some ((.tuple #[(vI n17), (.bool true)]), q14.2.2)
else
none)))) = some r) : run (Et base) 162 [(.agg #[(vI v0_0), (vI v0_1), (vT v0_2), (vL v0_3 v0_3n)]), (vI v1), (vI v2)] h = some r := run_i (an := a162) Try.func162 (by kernel_rfl) (.trans (by kernel_rfl) hx)
noncomputable def B163_0 (base : Nat) : Body := fun l h => lay s163_0 l fun s => exCode (Et base) (run (Et base)) loopL a163_0 (subC [1, 1, 0, 1, 0, 0] (bodyC Try.f163)) s h (keepK s163_0 e163_0)
theorem B163_0_eq (base : Nat) (v2 : Addr) (v3 : Addr) (v36 : Int) (v37 : Int) (h : AH) : B163_0 base [some (vA v2), some (vA v3), some (vI v36), some (vI v37)] h =
((if (decide (v37 < v36)) = true then
((cell h v2.block (v2.off + 3)).bind getS).bind fun l1 =>
(if 0 ≤ v37 ∧ v37 < ((l1.2 : Nat) : Int) then
((l1.1 : Option Addr)).bind fun a2 =>
c_IITL h a2.block (a2.off + Int.toNat v37 * 4) fun n3 n4 s5 l6 =>
((cell h v3.block (v3.off + 3)).bind getS).bind fun l7 =>
(if 0 ≤ v37 ∧ v37 < ((l7.2 : Nat) : Int) then
((l7.1 : Option Addr)).bind fun a8 =>
c_IITL h a8.block (a8.off + Int.toNat v37 * 4) fun n9 n10 s11 l12 =>
(run (Et base) 163 [(.agg #[(vI n3), (vI n4), (vT s5), (vL l6.1 l6.2)]), (.agg #[(vI n9), (vI n10), (vT s11), (vL l12.1 l12.2)])] h).bind fun r13 =>
((some r13.1).bind getB).bind fun b14 =>
(if (!b14) = true then
some (1, [some (.bool false)], r13.2)
else
some (0, [some (vA v2), some (vA v3), some (vI v36), some (vI (IntKind.wrap .i64 (v37 + (1 : Int))))], r13.2))
else none)
else none)
else
some (2, [], h)) : Option (Nat × Slots × AH)) := by kernel_rfl
theorem r163 {base : Nat} {v0_0 : Int} {v0_1 : Int} {v0_2 : ByteArray} {v0_3 : Option Addr} {v0_3n : Nat} {v1_0 : Int} {v1_1 : Int} {v1_2 : ByteArray} {v1_3 : Option Addr} {v1_3n : Nat} {h : AH} {r : Value × AH} (hx : (nw1 h 39 [(vI v0_0), (vI v0_1), (vT v0_2), (vL v0_3 v0_3n)] fun h1 =>
nw1 h1 39 [(vI v1_0), (vI v1_1), (vT v1_2), (vL v1_3 v1_3n)] fun h2 =>
(((cell h2 (List.length h) 0).bind (getI .i64)).bind fun n4 =>
((cell h2 (List.length h1) 0).bind (getI .i64)).bind fun n5 =>
(if (n4 != n5) = true then
some (.inl ([some (vP (List.length h)), some (vP (List.length h1)), some (.bool true)], h2))
else
((cell h2 (List.length h) 1).bind (getI .i64)).bind fun n6 =>
((cell h2 (List.length h1) 1).bind (getI .i64)).bind fun n7 =>
(if (n6 != n7) = true then
some (.inl ([some (vP (List.length h)), some (vP (List.length h1)), some (.bool true)], h2))
else
((cell h2 (List.length h) 2).bind getStr).bind fun s8 =>
((cell h2 (List.length h1) 2).bind getStr).bind fun s9 =>
(if (!(s8.toList == s9.toList)) = true then
some (.inl ([some (vP (List.length h)), some (vP (List.length h1)), some (.bool true)], h2))
else
((cell h2 (List.length h) 3).bind getS).bind fun l10 =>
((cell h2 (List.length h1) 3).bind getS).bind fun l11 =>
some (.inl ([some (vP (List.length h)), some (vP (List.length h1)), some (.bool (((l10.2 : Nat) : Int) != ((l11.2 : Nat) : Int)))], h2)))))).bind fun j3 => joinK j3 fun j3 =>
j_AAB j3.1 fun d12 d13 b14 =>
(if b14 = true then
some ((.bool false), j3.2)
else
((cell j3.2 d12.block (d12.off + 3)).bind getS).bind fun l15 =>
(loopL (B163_0 base) [some (vA d12), some (vA d13), some (vI ((l15.2 : Nat) : Int)), some (vI (0 : Int))] j3.2).bind fun q16 =>
(if q16.1 = 1 then
((sget q16.2.1 0).bind getB).bind fun b17 =>
some ((.bool b17), q16.2.2)
else
(if q16.1 = 2 then
some ((.bool true), q16.2.2)
else
none)))) = some r) : run (Et base) 163 [(.agg #[(vI v0_0), (vI v0_1), (vT v0_2), (vL v0_3 v0_3n)]), (.agg #[(vI v1_0), (vI v1_1), (vT v1_2), (vL v1_3 v1_3n)])] h = some r := run_i (an := a163) Try.func163 (by kernel_rfl) (.trans (by kernel_rfl) hx)
noncomputable abbrev qf164 (base : Nat) (v0_0 : Int) (v0_1 : Int) (v0_2 : Int) (v0_3 : Int) (v0_4 : Int) (v0_5 : ByteArray) (v1 : Int) (h : AH) : Option (Value × AH) :=
nw1 h 139 [(vI v0_0), (vI v0_1), (vI v0_2), (vI v0_3), (vI v0_4), (vT v0_5)] fun h1 =>
((run (Et base) 83 [(vI v1), (vI (1 : Int)), (vI (200 : Int))] h1).bind fun r3 =>
((some r3.1).bind getB).bind fun b4 =>
(if (!b4) = true then
some (.inl ([some (vI v1), some (vP (List.length h)), some (.bool true)], r3.2))
else
((cell r3.2 (List.length h) 0).bind (getI .i64)).bind fun n5 =>
(run (Et base) 83 [(vI n5), (vI (1 : Int)), (vI (20 : Int))] r3.2).bind fun r6 =>
((some r6.1).bind getB).bind fun b7 =>
some (.inl ([some (vI v1), some (vP (List.length h)), some (.bool (!b7))], r6.2)))).bind fun j2 => joinK j2 fun j2 =>
j_IAB j2.1 fun n8 d9 b10 =>
(if b10 = true then
some ((.bool false), j2.2)
else
(run (Et base) 197 [] j2.2).bind fun r11 =>
((some r11.1).bind getS).bind fun l12 =>
(gate (sameA j2.2 r11.2 (some ⟨d9.block, (d9.off + 0), none⟩) 1)
(((cell r11.2 d9.block (d9.off + 0)).bind (getI .i64)).bind fun n13 =>
(if 0 ≤ (IntKind.wrap .i64 (n13 - (1 : Int))) ∧ (IntKind.wrap .i64 (n13 - (1 : Int))) < ((l12.2 : Nat) : Int) then
((l12.1 : Option Addr)).bind fun a14 =>
((cell r11.2 a14.block (a14.off + Int.toNat (IntKind.wrap .i64 (n13 - (1 : Int))) * 1)).bind getStr).bind fun s15 =>
(((cell r11.2 d9.block (d9.off + 1)).bind (getI .i64)).bind fun n17 =>
(run (Et base) 198 [(vT s15), (.int .u8 (65 : Int)), (vI n17)] r11.2).bind fun r18 =>
((some r18.1).bind getB).bind fun b19 =>
(if (!b19) = true then
some (.inl ([some (vI n8), some (vA d9), some (.bool true)], r18.2))
else
((cell r18.2 d9.block (d9.off + 3)).bind (getI .i64)).bind fun n20 =>
(run (Et base) 198 [(vT s15), (.int .u8 (67 : Int)), (vI n20)] r18.2).bind fun r21 =>
((some r21.1).bind getB).bind fun b22 =>
(if (!b22) = true then
some (.inl ([some (vI n8), some (vA d9), some (.bool true)], r21.2))
else
((cell r21.2 d9.block (d9.off + 0)).bind (getI .i64)).bind fun n23 =>
(if (n23 != (11 : Int)) = true then
((cell r21.2 d9.block (d9.off + 2)).bind (getI .i64)).bind fun n24 =>
(run (Et base) 198 [(vT s15), (.int .u8 (66 : Int)), (vI n24)] r21.2).bind fun r25 =>
((some r25.1).bind getB).bind fun b26 =>
(if (!b26) = true then
some (.inl ([some (vI n8), some (vA d9), some (.bool true)], r25.2))
else
((cell r25.2 d9.block (d9.off + 0)).bind (getI .i64)).bind fun n27 =>
(if (n27 == (11 : Int)) = true then
((cell r25.2 d9.block (d9.off + 2)).bind (getI .i64)).bind fun n28 =>
(run (Et base) 83 [(vI n28), (vI (1 : Int)), (vI (6 : Int))] r25.2).bind fun r29 =>
((some r29.1).bind getB).bind fun b30 =>
some (.inl ([some (vI n8), some (vA d9), some (.bool (!b30))], r29.2))
else
some (.inl ([some (vI n8), some (vA d9), some (.bool false)], r25.2))))
else
((cell r21.2 d9.block (d9.off + 0)).bind (getI .i64)).bind fun n31 =>
(if (n31 == (11 : Int)) = true then
((cell r21.2 d9.block (d9.off + 2)).bind (getI .i64)).bind fun n32 =>
(run (Et base) 83 [(vI n32), (vI (1 : Int)), (vI (6 : Int))] r21.2).bind fun r33 =>
((some r33.1).bind getB).bind fun b34 =>
some (.inl ([some (vI n8), some (vA d9), some (.bool (!b34))], r33.2))
else
some (.inl ([some (vI n8), some (vA d9), some (.bool false)], r21.2))))))).bind fun j16 => joinK j16 fun j16 =>
j_IAB j16.1 fun n35 d36 b37 =>
(if b37 = true then
some ((.bool false), j16.2)
else
(((cell j16.2 d36.block (d36.off + 0)).bind (getI .i64)).bind fun n39 =>
(if (n39 == (2 : Int)) = true then
((cell j16.2 d36.block (d36.off + 5)).bind getStr).bind fun s40 =>
(run (Et base) 139 [(vT s40)] j16.2).bind fun r41 =>
((some r41.1).bind getB).bind fun b42 =>
(if (!b42) = true then
some (.inl ([some (vI n35), some (vA d36), some (.bool true)], r41.2))
else
((cell r41.2 d36.block (d36.off + 0)).bind (getI .i64)).bind fun n43 =>
(if (n43 != (2 : Int)) = true then
((cell r41.2 d36.block (d36.off + 5)).bind getStr).bind fun s44 =>
some (.inl ([some (vI n35), some (vA d36), some (.bool (!(s44.toList == (⟨#[]⟩ : ByteArray).toList)))], r41.2))
else
some (.inl ([some (vI n35), some (vA d36), some (.bool false)], r41.2))))
else
((cell j16.2 d36.block (d36.off + 0)).bind (getI .i64)).bind fun n45 =>
(if (n45 != (2 : Int)) = true then
((cell j16.2 d36.block (d36.off + 5)).bind getStr).bind fun s46 =>
some (.inl ([some (vI n35), some (vA d36), some (.bool (!(s46.toList == (⟨#[]⟩ : ByteArray).toList)))], j16.2))
else
some (.inl ([some (vI n35), some (vA d36), some (.bool false)], j16.2))))).bind fun j38 => joinK j38 fun j38 =>
j_IAB j38.1 fun n47 d48 b49 =>
(if b49 = true then
some ((.bool false), j38.2)
else
c_IIIIIT j38.2 d48.block d48.off fun n50 n51 n52 n53 n54 s55 =>
(run (Et base) 199 [(.agg #[(vI n50), (vI n51), (vI n52), (vI n53), (vI n54), (vT s55)]), (vI n47)] j38.2).bind fun r56 =>
((some r56.1).bind getB).bind fun b57 =>
some ((.bool b57), r56.2)))
else none))))
theorem r164 {base : Nat} {v0_0 : Int} {v0_1 : Int} {v0_2 : Int} {v0_3 : Int} {v0_4 : Int} {v0_5 : ByteArray} {v1 : Int} {h : AH} {r : Value × AH} (hx : qf164 base v0_0 v0_1 v0_2 v0_3 v0_4 v0_5 v1 h = some r) : run (Et base) 164 [(.agg #[(vI v0_0), (vI v0_1), (vI v0_2), (vI v0_3), (vI v0_4), (vT v0_5)]), (vI v1)] h = some r := run_i (an := a164) Try.func164 (by kernel_rfl) (.trans (by kernel_rfl) hx)
noncomputable abbrev qf173 (base : Nat) (v0_0 : Int) (v0_1 : Int) (v0_2 : ByteArray) (v0_3 : Option Addr) (v0_3n : Nat) (h : AH) : Option (Value × AH) :=
nw1 h 39 [(vI v0_0), (vI v0_1), (vT v0_2), (vL v0_3 v0_3n)] fun h1 =>
((cell h1 (List.length h) 3).bind getS).bind fun l2 =>
((cell h1 (List.length h) 0).bind (getI .i64)).bind fun n3 =>
(if (n3 == (1 : Int)) = true then
((cell h1 (List.length h) 1).bind (getI .i64)).bind fun n4 =>
(run (Et base) 83 [(vI n4), (vI (-1000000 : Int)), (vI (1000000 : Int))] h1).bind fun r5 =>
((some r5.1).bind getB).bind fun b6 =>
(if b6 = true then
((cell r5.2 (List.length h) 2).bind getStr).bind fun s7 =>
(if (s7.toList == (⟨#[]⟩ : ByteArray).toList) = true then
some ((.bool (((l2.2 : Nat) : Int) == (0 : Int))), r5.2)
else
some ((.bool false), r5.2))
else
some ((.bool false), r5.2))
else
(if (n3 == (2 : Int)) = true then
((cell h1 (List.length h) 2).bind getStr).bind fun s8 =>
(run (Et base) 139 [(vT s8)] h1).bind fun r9 =>
((some r9.1).bind getB).bind fun b10 =>
(if b10 = true then
((cell r9.2 (List.length h) 1).bind (getI .i64)).bind fun n11 =>
(if (n11 == (0 : Int)) = true then
some ((.bool (((l2.2 : Nat) : Int) == (0 : Int))), r9.2)
else
some ((.bool false), r9.2))
else
some ((.bool false), r9.2))
else
(if (n3 == (3 : Int)) = true then
((cell h1 (List.length h) 1).bind (getI .i64)).bind fun n12 =>
(run (Et base) 83 [(vI n12), (vI (0 : Int)), (vI (99999 : Int))] h1).bind fun r13 =>
((some r13.1).bind getB).bind fun b14 =>
(if b14 = true then
((cell r13.2 (List.length h) 2).bind getStr).bind fun s15 =>
(if (s15.toList == (⟨#[]⟩ : ByteArray).toList) = true then
some ((.bool (((l2.2 : Nat) : Int) == (0 : Int))), r13.2)
else
some ((.bool false), r13.2))
else
some ((.bool false), r13.2))
else
(if (n3 == (4 : Int)) = true then
((cell h1 (List.length h) 1).bind (getI .i64)).bind fun n16 =>
(if (n16 == (0 : Int)) = true then
((cell h1 (List.length h) 2).bind getStr).bind fun s17 =>
(if (s17.toList == (⟨#[]⟩ : ByteArray).toList) = true then
some ((.bool (decide (((l2.2 : Nat) : Int) ≤ (8 : Int)))), h1)
else
some ((.bool false), h1))
else
some ((.bool false), h1))
else
(if (n3 == (5 : Int)) = true then
((cell h1 (List.length h) 1).bind (getI .i64)).bind fun n18 =>
(if (n18 == (0 : Int)) = true then
((cell h1 (List.length h) 2).bind getStr).bind fun s19 =>
(if (s19.toList == (⟨#[]⟩ : ByteArray).toList) = true then
some ((.bool (decide (((l2.2 : Nat) : Int) ≤ (20 : Int)))), h1)
else
some ((.bool false), h1))
else
some ((.bool false), h1))
else
(if (n3 == (6 : Int)) = true then
((cell h1 (List.length h) 1).bind (getI .i64)).bind fun n20 =>
(if (n20 == (0 : Int)) = true then
((cell h1 (List.length h) 2).bind getStr).bind fun s21 =>
(if (decide ((s21.size : Int) ≤ (40 : Int))) = true then
some ((.bool (((l2.2 : Nat) : Int) == (0 : Int))), h1)
else
some ((.bool false), h1))
else
some ((.bool false), h1))
else
some ((.bool false), h1)))))))
theorem r173 {base : Nat} {v0_0 : Int} {v0_1 : Int} {v0_2 : ByteArray} {v0_3 : Option Addr} {v0_3n : Nat} {h : AH} {r : Value × AH} (hx : qf173 base v0_0 v0_1 v0_2 v0_3 v0_3n h = some r) : run (Et base) 173 [(.agg #[(vI v0_0), (vI v0_1), (vT v0_2), (vL v0_3 v0_3n)])] h = some r := run_i (an := a173) Try.func173 (by kernel_rfl) (.trans (by kernel_rfl) hx)
theorem r182 {base : Nat} {v0 : Int} {h : AH} {r : Value × AH} (hx : ((if (decide (v0 ≥ (97 : Int))) = true then
some ((.bool (decide (v0 ≤ (122 : Int)))), h)
else
some ((.bool false), h))) = some r) : run (Et base) 182 [(.int .u8 v0)] h = some r := run_i (an := a182) Try.func182 (by kernel_rfl) (.trans (by kernel_rfl) hx)
theorem r183 {base : Nat} {v0 : Int} {h : AH} {r : Value × AH} (hx : ((if (decide (v0 ≥ (48 : Int))) = true then
some ((.bool (decide (v0 ≤ (57 : Int)))), h)
else
some ((.bool false), h))) = some r) : run (Et base) 183 [(.int .u8 v0)] h = some r := run_i (an := a183) Try.func183 (by kernel_rfl) (.trans (by kernel_rfl) hx)
noncomputable def B187_0 (base : Nat) : Body := fun l h => lay s187_0 l fun s => exCode (Et base) (run (Et base)) loopL a187_0 (subC [1, 1, 1, 1, 1, 1, 0, 1, 0, 0] (bodyC Try.f187)) s h (keepK s187_0 e187_0)
theorem B187_0_eq (base : Nat) (v4 : Option Addr) (v4n : Nat) (v5 : Option Addr) (v5n : Nat) (v6 : Int) (v7 : Option Addr) (v7n : Nat) (v8 : Int) (h : AH) : B187_0 base [some (vL v4 v4n), some (vL v5 v5n), some (vI v6), some (vL v7 v7n), some (vI v8)] h =
((if (decide (v8 < v6)) = true then
(if 0 ≤ v8 ∧ v8 < ((v5n : Nat) : Int) then
((v5 : Option Addr)).bind fun a1 =>
((cell h a1.block (a1.off + Int.toNat v8 * 1)).bind getStr).bind fun s2 =>
(run (Et base) 208 [(vT s2)] h).bind fun r3 =>
(getTup 2 r3.1).bind fun l4 =>
gG (l4[0]?) 6 fun l5 =>
l_IIIIIT l5 fun n6 n7 n8 n9 n10 s11 =>
((l4[1]?).bind getB).bind fun b12 =>
nw1 r3.2 139 [(vI 0), (vI 0), (vI 0), (vI 0), (vI 0), (vT ⟨#[]⟩)] fun h13 =>
(wr base h13 (List.length r3.2) 0 [(vI n6), (vI n7), (vI n8), (vI n9), (vI n10), (vT s11)]).bind fun h14 =>
(if (!b12) = true then
some (1, [some (vL v4 v4n), some (.bool false)], h14)
else
c_IIIIIT h14 (List.length r3.2) 0 fun n15 n16 n17 n18 n19 s20 =>
nw1 h14 139 [(vI n15), (vI n16), (vI n17), (vI n18), (vI n19), (vT s20)] fun h21 =>
(app base h21 139 6 56 v7 v7n (rawAt h21 (some ⟨(List.length h14), 0, none⟩) (1 * 6)) 1).bind fun p22 =>
((some p22.1).bind getS).bind fun l23 =>
some (0, [some (vL v4 v4n), some (vL v5 v5n), some (vI v6), some (vL l23.1 l23.2), some (vI (IntKind.wrap .i64 (v8 + (1 : Int))))], p22.2))
else none)
else
some (2, [some (vL v4 v4n), some (vL v7 v7n)], h)) : Option (Nat × Slots × AH)) := by kernel_rfl
theorem r187 {base : Nat} {v0 : ByteArray} {h : AH} {r : Value × AH} (hx : (nw1 h 139 [] fun h1 =>
(run (Et base) 207 [(vT v0), (.int .u8 (10 : Int))] h1).bind fun r2 =>
((some r2.1).bind getS).bind fun l3 =>
(if 0 ≤ (IntKind.wrap .i64 (((l3.2 : Nat) : Int) - (1 : Int))) ∧ (IntKind.wrap .i64 (((l3.2 : Nat) : Int) - (1 : Int))) < ((l3.2 : Nat) : Int) then
((l3.1 : Option Addr)).bind fun a4 =>
((cell r2.2 a4.block (a4.off + Int.toNat (IntKind.wrap .i64 (((l3.2 : Nat) : Int) - (1 : Int))) * 1)).bind getStr).bind fun s5 =>
(if (!(s5.toList == (⟨#[]⟩ : ByteArray).toList)) = true then
some ((.tuple #[(vL (some ⟨(List.length h), 0, none⟩) 0), (.bool false)]), r2.2)
else
nw1 r2.2 139 [] fun h6 =>
(loopL (B187_0 base) [some (vL (some ⟨(List.length h), 0, none⟩) 0), some (vL l3.1 l3.2), some (vI (IntKind.wrap .i64 (((l3.2 : Nat) : Int) - (1 : Int)))), some (vL (some ⟨(List.length r2.2), 0, none⟩) 0), some (vI (0 : Int))] h6).bind fun q7 =>
(if q7.1 = 1 then
j_LB q7.2.1 fun l8 b9 =>
some ((.tuple #[(vL l8.1 l8.2), (.bool b9)]), q7.2.2)
else
(if q7.1 = 2 then
j_LL q7.2.1 fun l10 l11 =>
(run (Et base) 105 [(vL l11.1 l11.2)] q7.2.2).bind fun r12 =>
((some r12.1).bind getB).bind fun b13 =>
(if (!b13) = true then
some ((.tuple #[(vL l10.1 l10.2), (.bool false)]), r12.2)
else
some ((.tuple #[(vL l11.1 l11.2), (.bool true)]), r12.2))
else
none)))
else none)) = some r) : run (Et base) 187 [(vT v0)] h = some r := run_i (an := a187) Try.func187 (by kernel_rfl) (.trans (by kernel_rfl) hx)
theorem r188 {base : Nat}  {h : AH} {r : Value × AH} (hx : (nw1 h 9 [(vT (⟨#[116, 97, 107, 101, 32, 48, 10, 107, 105, 110, 100, 32, 48, 32, 50, 32, 53, 10, 115, 97, 121, 32, 48, 10, 106, 117, 109, 112, 32, 48, 10, 110, 105, 108, 32, 49, 10, 104, 101, 97, 100, 32, 49, 32, 48, 10, 116, 97, 105, 108, 32, 50, 32, 48, 10, 115, 97, 121, 32, 49, 10, 106, 117, 109, 112, 32, 48, 10]⟩ : ByteArray)), (vT (⟨#[116, 97, 107, 101, 32, 48, 10, 115, 101, 108, 102, 32, 49, 10, 105, 110, 116, 32, 50, 32, 49, 10, 116, 117, 112, 108, 101, 32, 51, 32, 48, 32, 51, 10, 101, 108, 101, 109, 32, 52, 32, 51, 32, 50, 10, 97, 100, 100, 32, 53, 32, 52, 32, 50, 10, 115, 97, 121, 32, 51, 10, 115, 97, 109, 101, 32, 48, 32, 49, 32, 49, 48, 10, 115, 101, 110, 100, 32, 49, 32, 53, 10, 106, 117, 109, 112, 32, 48, 10, 115, 101, 110, 100, 32, 48, 32, 51, 10, 106, 117, 109, 112, 32, 48, 10]⟩ : ByteArray)), (vT (⟨#[105, 110, 116, 32, 49, 32, 48, 10, 116, 97, 107, 101, 32, 48, 10, 107, 105, 110, 100, 32, 48, 32, 49, 32, 53, 10, 97, 100, 100, 32, 49, 32, 49, 32, 48, 10, 106, 117, 109, 112, 32, 49, 10, 115, 97, 121, 32, 49, 10, 101, 110, 100, 32, 48, 10]⟩ : ByteArray)), (vT (⟨#[116, 97, 107, 101, 32, 48, 10, 109, 97, 107, 101, 32, 49, 32, 48, 32, 52, 10, 108, 105, 110, 107, 32, 49, 10, 106, 117, 109, 112, 32, 48, 10, 115, 101, 108, 102, 32, 50, 10, 115, 97, 121, 32, 48, 10, 116, 97, 107, 101, 32, 51, 10, 101, 110, 100, 32, 51, 10]⟩ : ByteArray)), (vT (⟨#[110, 105, 108, 32, 49, 10, 116, 97, 107, 101, 32, 48, 10, 99, 111, 110, 115, 32, 49, 32, 48, 32, 49, 10, 115, 97, 121, 32, 49, 10, 106, 117, 109, 112, 32, 49, 10]⟩ : ByteArray)), (vT (⟨#[116, 97, 107, 101, 32, 48, 10, 101, 110, 100, 32, 48, 10]⟩ : ByteArray))] fun h1 =>
some ((vL (some ⟨(List.length h), 0, none⟩) 6), h1)) = some r) : run (Et base) 188 [] h = some r := run_i (an := a188) Try.func188 (by kernel_rfl) (.trans (by kernel_rfl) hx)
noncomputable abbrev qf189 (base : Nat) (v0 : Option Addr) (v1 : Int) (h : AH) : Option (Value × AH) :=
nw1 h 139 [(vI 0), (vI 0), (vI 0), (vI 0), (vI 0), (vT ⟨#[]⟩)] fun h1 =>
(run (Et base) 158 [(.pointer v0), (vI (20 : Int))] h1).bind fun r2 =>
((some r2.1).bind (getI .i64)).bind fun n3 =>
nw1 r2.2 139 [(vI 0), (vI 0), (vI 0), (vI 0), (vI 0), (vT ⟨#[]⟩)] fun h4 =>
(wr base h4 (List.length r2.2) 0 [(vI (IntKind.wrap .i64 ((1 : Int) + n3))), (vI (0 : Int)), (vI (0 : Int)), (vI (0 : Int)), (vI (0 : Int)), (vT (⟨#[]⟩ : ByteArray))]).bind fun h5 =>
(run (Et base) 197 [] h5).bind fun r6 =>
((some r6.1).bind getS).bind fun l7 =>
(gate (sameA h5 r6.2 (some ⟨(List.length r2.2), 0, none⟩) 1)
(((cell r6.2 (List.length r2.2) 0).bind (getI .i64)).bind fun n8 =>
(if 0 ≤ (IntKind.wrap .i64 (n8 - (1 : Int))) ∧ (IntKind.wrap .i64 (n8 - (1 : Int))) < ((l7.2 : Nat) : Int) then
((l7.1 : Option Addr)).bind fun a9 =>
((cell r6.2 a9.block (a9.off + Int.toNat (IntKind.wrap .i64 (n8 - (1 : Int))) * 1)).bind getStr).bind fun s10 =>
((run (Et base) 209 [(vT s10), (.int .u8 (65 : Int))] r6.2).bind fun r12 =>
((some r12.1).bind getB).bind fun b13 =>
(if b13 = true then
(run (Et base) 158 [(.pointer v0), (vI (4 : Int))] r12.2).bind fun r14 =>
((some r14.1).bind (getI .i64)).bind fun n15 =>
(wr base r14.2 (List.length r2.2) 1 [(vI n15)]).bind fun h16 =>
some (.inl ([some (.pointer v0), some (vI v1), some (vP (List.length h)), some (vP (List.length r2.2)), some (vT s10)], h16))
else
some (.inl ([some (.pointer v0), some (vI v1), some (vP (List.length h)), some (vP (List.length r2.2)), some (vT s10)], r12.2)))).bind fun j11 => joinK j11 fun j11 =>
j_PIAAT j11.1 fun p17 n18 d19 d20 s21 =>
((run (Et base) 209 [(vT s21), (.int .u8 (66 : Int))] j11.2).bind fun r23 =>
((some r23.1).bind getB).bind fun b24 =>
(if b24 = true then
(run (Et base) 158 [(.pointer p17), (vI (4 : Int))] r23.2).bind fun r25 =>
((some r25.1).bind (getI .i64)).bind fun n26 =>
(wr base r25.2 d20.block (d20.off + 2) [(vI n26)]).bind fun h27 =>
some (.inl ([some (.pointer p17), some (vI n18), some (vA d19), some (vA d20), some (vT s21)], h27))
else
some (.inl ([some (.pointer p17), some (vI n18), some (vA d19), some (vA d20), some (vT s21)], r23.2)))).bind fun j22 => joinK j22 fun j22 =>
j_PIAAT j22.1 fun p28 n29 d30 d31 s32 =>
((run (Et base) 209 [(vT s32), (.int .u8 (67 : Int))] j22.2).bind fun r34 =>
((some r34.1).bind getB).bind fun b35 =>
(if b35 = true then
(run (Et base) 158 [(.pointer p28), (vI (4 : Int))] r34.2).bind fun r36 =>
((some r36.1).bind (getI .i64)).bind fun n37 =>
(wr base r36.2 d31.block (d31.off + 3) [(vI n37)]).bind fun h38 =>
some (.inl ([some (.pointer p28), some (vI n29), some (vA d30), some (vA d31)], h38))
else
some (.inl ([some (.pointer p28), some (vI n29), some (vA d30), some (vA d31)], r34.2)))).bind fun j33 => joinK j33 fun j33 =>
j_PIAA j33.1 fun p39 n40 d41 d42 =>
(((cell j33.2 d42.block (d42.off + 0)).bind (getI .i64)).bind fun n44 =>
(if (n44 == (1 : Int)) = true then
nw1 j33.2 3 [(vI (0 : Int)), (vI (1 : Int)), (vI (-1 : Int)), (vI (1000000 : Int))] fun h45 =>
(run (Et base) 93 [(.pointer p39), (vL (some ⟨(List.length j33.2), 0, none⟩) 4)] h45).bind fun r46 =>
((some r46.1).bind (getI .i64)).bind fun n47 =>
(wr base r46.2 d42.block (d42.off + 4) [(vI n47)]).bind fun h48 =>
some (.inl ([some (vA d41), some (vA d42)], h48))
else
(if (n44 == (2 : Int)) = true then
nw1 j33.2 9 [(vT (⟨#[111, 107]⟩ : ByteArray)), (vT (⟨#[97]⟩ : ByteArray)), (vT (⟨#[98, 97, 100]⟩ : ByteArray))] fun h49 =>
(run (Et base) 190 [(.pointer p39), (vL (some ⟨(List.length j33.2), 0, none⟩) 3)] h49).bind fun r50 =>
((some r50.1).bind getStr).bind fun s51 =>
(wr base r50.2 d42.block (d42.off + 5) [(vT s51)]).bind fun h52 =>
some (.inl ([some (vA d41), some (vA d42)], h52))
else
((if (n44 == (4 : Int)) = true then
some (.inl ([some (.pointer p39), some (vI n40), some (vA d41), some (vA d42), some (vI n44), some (.bool (n44 == (4 : Int)))], j33.2))
else
some (.inl ([some (.pointer p39), some (vI n40), some (vA d41), some (vA d42), some (vI n44), some (.bool (n44 == (6 : Int)))], j33.2)))).bind fun j53 => joinK j53 fun j53 =>
j_PIAAIB j53.1 fun p54 n55 d56 d57 n58 b59 =>
(if b59 = true then
(run (Et base) 158 [(.pointer p54), (vI (4 : Int))] j53.2).bind fun r60 =>
((some r60.1).bind (getI .i64)).bind fun n61 =>
(wr base r60.2 d57.block (d57.off + 4) [(vI n61)]).bind fun h62 =>
some (.inl ([some (vA d56), some (vA d57)], h62))
else
(if (n58 == (11 : Int)) = true then
(run (Et base) 158 [(.pointer p54), (vI (6 : Int))] j53.2).bind fun r63 =>
((some r63.1).bind (getI .i64)).bind fun n64 =>
(wr base r63.2 d57.block (d57.off + 2) [(vI (IntKind.wrap .i64 ((1 : Int) + n64)))]).bind fun h65 =>
(run (Et base) 158 [(.pointer p54), (vI n55)] h65).bind fun r66 =>
((some r66.1).bind (getI .i64)).bind fun n67 =>
(wr base r66.2 d57.block (d57.off + 4) [(vI n67)]).bind fun h68 =>
some (.inl ([some (vA d56), some (vA d57)], h68))
else
((if (n58 == (10 : Int)) = true then
some (.inl ([some (.pointer p54), some (vI n55), some (vA d56), some (vA d57), some (.bool (n58 == (10 : Int)))], j53.2))
else
(if (n58 == (12 : Int)) = true then
some (.inl ([some (.pointer p54), some (vI n55), some (vA d56), some (vA d57), some (.bool (n58 == (12 : Int)))], j53.2))
else
some (.inl ([some (.pointer p54), some (vI n55), some (vA d56), some (vA d57), some (.bool (n58 == (16 : Int)))], j53.2))))).bind fun j69 => joinK j69 fun j69 =>
j_PIAAB j69.1 fun p70 n71 d72 d73 b74 =>
(if b74 = true then
(run (Et base) 158 [(.pointer p70), (vI n71)] j69.2).bind fun r75 =>
((some r75.1).bind (getI .i64)).bind fun n76 =>
(wr base r75.2 d73.block (d73.off + 4) [(vI n76)]).bind fun h77 =>
some (.inl ([some (vA d72), some (vA d73)], h77))
else
some (.inl ([some (vA d72), some (vA d73)], j69.2)))))))).bind fun j43 => joinK j43 fun j43 =>
j_AA j43.1 fun d78 d79 =>
c_IIIIIT j43.2 d79.block d79.off fun n80 n81 n82 n83 n84 s85 =>
(wr base j43.2 d78.block d78.off [(vI n80), (vI n81), (vI n82), (vI n83), (vI n84), (vT s85)]).bind fun h86 =>
c_IIIIIT h86 d78.block d78.off fun n87 n88 n89 n90 n91 s92 =>
some ((.agg #[(vI n87), (vI n88), (vI n89), (vI n90), (vI n91), (vT s92)]), h86)
else none)))
theorem r189 {base : Nat} {v0 : Option Addr} {v1 : Int} {h : AH} {r : Value × AH} (hx : qf189 base v0 v1 h = some r) : run (Et base) 189 [(.pointer v0), (vI v1)] h = some r := run_i (an := a189) Try.func189 (by kernel_rfl) (.trans (by kernel_rfl) hx)
theorem r190 {base : Nat} {v0 : Option Addr} {v1 : Option Addr} {v1n : Nat} {h : AH} {r : Value × AH} (hx : ((run (Et base) 158 [(.pointer v0), (.int .i64 ((v1n : Nat) : Int))] h).bind fun r1 =>
((some r1.1).bind (getI .i64)).bind fun n2 =>
(if 0 ≤ n2 ∧ n2 < ((v1n : Nat) : Int) then
((v1 : Option Addr)).bind fun a3 =>
((cell r1.2 a3.block (a3.off + Int.toNat n2 * 1)).bind getStr).bind fun s4 =>
some ((.string s4), r1.2)
else none)) = some r) : run (Et base) 190 [(.pointer v0), (vL v1 v1n)] h = some r := run_i (an := a190) Try.func190 (by kernel_rfl) (.trans (by kernel_rfl) hx)
noncomputable def B191_1 (base : Nat) : Body := fun l h => lay s191_1 l fun s => exCode (Et base) (run (Et base)) loopL a191_1 (subC [1, 1, 1, 0, 1, 0, 0] (bodyC Try.f191)) s h (keepK s191_1 e191_1)
noncomputable def B191_0 (base : Nat) : Body := fun l h => lay s191_0 l fun s => exCode (Et base) (run (Et base)) loopL a191_0 (subC [1, 1, 0, 1, 0, 0] (bodyC Try.f191)) s h (keepK s191_0 e191_0)
theorem B191_1_eq (base : Nat) (v0 : Option Addr) (v4 : Addr) (v5 : Addr) (v7 : Int) (h : AH) : B191_1 base [some (.pointer v0), some (vA v4), some (vA v5), some (vI v7)] h =
((if (decide (v7 > (0 : Int))) = true then
((cell h v5.block (v5.off + 3)).bind getS).bind fun l1 =>
(run (Et base) 211 [(.pointer v0), (.int .i64 (2 : Int))] h).bind fun r2 =>
((some r2.1).bind (getAgg 4)).bind fun l3 =>
((l3[0]?).bind (getI .i64)).bind fun n4 =>
((l3[1]?).bind (getI .i64)).bind fun n5 =>
((l3[2]?).bind getStr).bind fun s6 =>
((l3[3]?).bind getS).bind fun l7 =>
(gate (sameA h r2.2 (some ⟨v5.block, (v5.off + 3), none⟩) 1)
((gate (neA (some ⟨v5.block, (v5.off + 3), none⟩) (List.length r2.2))
((some (r2.2 ++ [some ⟨[(.int .i64 n4), (.int .i64 n5), (.string s6), (.slice l7.1 l7.2 l7.2)], 39⟩])).bind fun h8 =>
(app base h8 39 4 56 l1.1 l1.2 (rawAt h8 (some ⟨(List.length r2.2), 0, none⟩) (1 * 4)) 1).bind fun p9 =>
((some p9.1).bind getS).bind fun l10 =>
(wr base p9.2 v5.block (v5.off + 3) [(.slice l10.1 l10.2 l10.2)]).bind fun h11 =>
some (0, [some (.pointer v0), some (.pointer (some v4)), some (.pointer (some v5)), some (.int .i64 (IntKind.wrap .i64 (v7 - (1 : Int))))], h11)))))
else
some (4, [some (.pointer v0), some (.pointer (some v4)), some (.pointer (some v5))], h)) : Option (Nat × Slots × AH)) := by kernel_rfl
theorem B191_0_eq (base : Nat) (v0 : Option Addr) (v4 : Addr) (v5 : Addr) (v6 : Int) (h : AH) : B191_0 base [some (.pointer v0), some (vA v4), some (vA v5), some (vI v6)] h =
((if (decide (v6 > (0 : Int))) = true then
((cell h v5.block (v5.off + 2)).bind getS).bind fun l1 =>
(run (Et base) 158 [(.pointer v0), (.int .i64 (6 : Int))] h).bind fun r2 =>
((some r2.1).bind (getI .i64)).bind fun n3 =>
(gate (sameA h r2.2 (some ⟨v5.block, (v5.off + 2), none⟩) 1)
((run (Et base) 211 [(.pointer v0), (.int .i64 (2 : Int))] r2.2).bind fun r4 =>
((some r4.1).bind (getAgg 4)).bind fun l5 =>
((l5[0]?).bind (getI .i64)).bind fun n6 =>
((l5[1]?).bind (getI .i64)).bind fun n7 =>
((l5[2]?).bind getStr).bind fun s8 =>
((l5[3]?).bind getS).bind fun l9 =>
(gate (sameA r2.2 r4.2 (some ⟨v5.block, (v5.off + 2), none⟩) 1)
((if 0 ≤ n3 ∧ n3 < ((l1.2 : Nat) : Int) then
((l1.1 : Option Addr)).bind fun a10 =>
(wr base r4.2 a10.block (a10.off + Int.toNat n3 * 4) [(.int .i64 n6), (.int .i64 n7), (.string s8), (.slice l9.1 l9.2 l9.2)]).bind fun h11 =>
some (0, [some (.pointer v0), some (.pointer (some v4)), some (.pointer (some v5)), some (.int .i64 (IntKind.wrap .i64 (v6 - (1 : Int))))], h11)
else none)))))
else
some (2, [some (.pointer v0), some (.pointer (some v4)), some (.pointer (some v5))], h)) : Option (Nat × Slots × AH)) := by kernel_rfl
noncomputable abbrev qf191 (base : Nat) (v0 : Option Addr) (v1 : Option Addr) (v1n : Nat) (h : AH) : Option (Value × AH) :=
nw1 h 65 [(vI 0), (vI 0), (vL none 0), (vL none 0), (vL none 0)] fun h1 =>
(run (Et base) 158 [(.pointer v0), (vI (3 : Int))] h1).bind fun r2 =>
((some r2.1).bind (getI .i64)).bind fun n3 =>
(run (Et base) 158 [(.pointer v0), (vI ((v1n : Nat) : Int))] r2.2).bind fun r4 =>
((some r4.1).bind (getI .i64)).bind fun n5 =>
(run (Et base) 211 [(.pointer v0), (vI (2 : Int))] r4.2).bind fun r6 =>
gG (some r6.1) 4 fun l7 =>
l_IITL l7 fun n8 n9 s10 l11 =>
(run (Et base) 210 [(vI (IntKind.wrap .i64 ((1 : Int) + n3))), (vI n5), (.agg #[(vI n8), (vI n9), (vT s10), (vL l11.1 l11.2)])] r6.2).bind fun r12 =>
gG (some r12.1) 5 fun l13 =>
l_IILLL l13 fun n14 n15 l16 l17 l18 =>
nw1 r12.2 65 [(vI 0), (vI 0), (vL none 0), (vL none 0), (vL none 0)] fun h19 =>
(wr base h19 (List.length r12.2) 0 [(vI n14), (vI n15), (vL l16.1 l16.2), (vL l17.1 l17.2), (vL l18.1 l18.2)]).bind fun h20 =>
(run (Et base) 158 [(.pointer v0), (vI (6 : Int))] h20).bind fun r21 =>
((some r21.1).bind (getI .i64)).bind fun n22 =>
(loopL (B191_0 base) [some (.pointer v0), some (vP (List.length h)), some (vP (List.length r12.2)), some (vI n22)] r21.2).bind fun q23 =>
(if q23.1 = 2 then
j_PAA q23.2.1 fun p24 d25 d26 =>
(run (Et base) 158 [(.pointer p24), (vI (3 : Int))] q23.2.2).bind fun r27 =>
((some r27.1).bind (getI .i64)).bind fun n28 =>
(loopL (B191_1 base) [some (.pointer p24), some (vA d25), some (vA d26), some (vI n28)] r27.2).bind fun q29 =>
(if q29.1 = 4 then
j_PAA q29.2.1 fun p30 d31 d32 =>
((run (Et base) 155 [(.pointer p30), (vI (3 : Int))] q29.2.2).bind fun r34 =>
((some r34.1).bind getB).bind fun b35 =>
(if b35 = true then
(run (Et base) 158 [(.pointer p30), (vI (3 : Int))] r34.2).bind fun r36 =>
((some r36.1).bind (getI .i64)).bind fun n37 =>
nw1 r36.2 3 [(vI (IntKind.wrap .i64 ((5 : Int) + n37)))] fun h38 =>
(wr base h38 d32.block (d32.off + 4) [(vL (some ⟨(List.length r36.2), 0, none⟩) 1)]).bind fun h39 =>
some (.inl ([some (vA d31), some (vA d32)], h39))
else
some (.inl ([some (vA d31), some (vA d32)], r34.2)))).bind fun j33 => joinK j33 fun j33 =>
j_AA j33.1 fun d40 d41 =>
c_IILLL j33.2 d41.block d41.off fun n42 n43 l44 l45 l46 =>
(wr base j33.2 d40.block d40.off [(vI n42), (vI n43), (vL l44.1 l44.2), (vL l45.1 l45.2), (vL l46.1 l46.2)]).bind fun h47 =>
c_IILLL h47 d40.block d40.off fun n48 n49 l50 l51 l52 =>
some ((.agg #[(vI n48), (vI n49), (vL l50.1 l50.2), (vL l51.1 l51.2), (vL l52.1 l52.2)]), h47)
else
none)
else
none)
theorem r191 {base : Nat} {v0 : Option Addr} {v1 : Option Addr} {v1n : Nat} {h : AH} {r : Value × AH} (hx : qf191 base v0 v1 v1n h = some r) : run (Et base) 191 [(.pointer v0), (vL v1 v1n)] h = some r := run_i (an := a191) Try.func191 (by kernel_rfl) (.trans (by kernel_rfl) hx)
theorem r192 {base : Nat} {v0 : Option Addr} {h : AH} {r : Value × AH} (hx : (nw1 h 39 [(vI 0), (vI 0), (vT ⟨#[]⟩), (vL none 0)] fun h1 =>
(run (Et base) 211 [(.pointer v0), (vI (3 : Int))] h1).bind fun r2 =>
gG (some r2.1) 4 fun l3 =>
l_IITL l3 fun n4 n5 s6 l7 =>
nw1 r2.2 39 [(vI 0), (vI 0), (vT ⟨#[]⟩), (vL none 0)] fun h8 =>
(wr base h8 (List.length r2.2) 0 [(vI n4), (vI n5), (vT s6), (vL l7.1 l7.2)]).bind fun h9 =>
((run (Et base) 155 [(.pointer v0), (vI (5 : Int))] h9).bind fun r11 =>
((some r11.1).bind getB).bind fun b12 =>
(if b12 = true then
c_IITL r11.2 (List.length r2.2) 0 fun n13 n14 s15 l16 =>
(run (Et base) 212 [(.pointer v0), (.agg #[(vI n13), (vI n14), (vT s15), (vL l16.1 l16.2)])] r11.2).bind fun r17 =>
gG (some r17.1) 4 fun l18 =>
l_IITL l18 fun n19 n20 s21 l22 =>
(wr base r17.2 (List.length r2.2) 0 [(vI n19), (vI n20), (vT s21), (vL l22.1 l22.2)]).bind fun h23 =>
some (.inl ([some (vP (List.length h)), some (vP (List.length r2.2))], h23))
else
some (.inl ([some (vP (List.length h)), some (vP (List.length r2.2))], r11.2)))).bind fun j10 => joinK j10 fun j10 =>
j_AA j10.1 fun d24 d25 =>
c_IITL j10.2 d25.block d25.off fun n26 n27 s28 l29 =>
(wr base j10.2 d24.block d24.off [(vI n26), (vI n27), (vT s28), (vL l29.1 l29.2)]).bind fun h30 =>
c_IITL h30 d24.block d24.off fun n31 n32 s33 l34 =>
some ((.agg #[(vI n31), (vI n32), (vT s33), (vL l34.1 l34.2)]), h30)) = some r) : run (Et base) 192 [(.pointer v0)] h = some r := run_i (an := a192) Try.func192 (by kernel_rfl) (.trans (by kernel_rfl) hx)
theorem r193 {base : Nat} {v0 : Option Addr} {h : AH} {r : Value × AH} (hx : ((v0).bind fun a1 =>
((cell h a1.block (a1.off + 2)).bind (getI .i64)).bind fun n2 =>
(v0).bind fun a3 =>
(wr base h a3.block (a3.off + 2) [(vI (IntKind.wrap .i64 ((IntKind.wrap .i64 (n2 * (6364136223846793005 : Int))) + (1442695040888963407 : Int))))]).bind fun h4 =>
(v0).bind fun a5 =>
((cell h4 a5.block (a5.off + 2)).bind (getI .i64)).bind fun n6 =>
(v0).bind fun a7 =>
((cell h4 a7.block (a7.off + 2)).bind (getI .i64)).bind fun n8 =>
((v0).bind fun a10 =>
((cell h4 a10.block (a10.off + 1)).bind (getI .i64)).bind fun n11 =>
(v0).bind fun a12 =>
((cell h4 a12.block (a12.off + 0)).bind getS).bind fun l13 =>
(if (decide (n11 < ((l13.2 : Nat) : Int))) = true then
(v0).bind fun a14 =>
((cell h4 a14.block (a14.off + 0)).bind getS).bind fun l15 =>
(v0).bind fun a16 =>
((cell h4 a16.block (a16.off + 1)).bind (getI .i64)).bind fun n17 =>
(if 0 ≤ n17 ∧ n17 < ((l15.2 : Nat) : Int) then
((l15.1 : Option Addr)).bind fun a18 =>
((cell h4 a18.block (a18.off + Int.toNat n17 * 1)).bind (getI .u8)).bind fun n19 =>
(v0).bind fun a20 =>
((cell h4 a20.block (a20.off + 1)).bind (getI .i64)).bind fun n21 =>
(v0).bind fun a22 =>
(wr base h4 a22.block (a22.off + 1) [(vI (IntKind.wrap .i64 (n21 + (1 : Int))))]).bind fun h23 =>
some (.inl ([some (vI (Go.bits .and .i64 (IntKind.wrap .i64 ((Go.bits .and .i64 (Go.bits .xor .i64 (Int.fdiv n6 (2 ^ min ((33 : Int)).toNat 64)) (Int.fdiv n8 (2 ^ min ((47 : Int)).toNat 64))) (255 : Int)) + (IntKind.wrap .i64 n19))) (255 : Int)))], h23))
else none)
else
some (.inl ([some (vI (Go.bits .and .i64 (Go.bits .xor .i64 (Int.fdiv n6 (2 ^ min ((33 : Int)).toNat 64)) (Int.fdiv n8 (2 ^ min ((47 : Int)).toNat 64))) (255 : Int)))], h4)))).bind fun j9 => joinK j9 fun j9 =>
((sget j9.1 0).bind (getI .i64)).bind fun n24 =>
some ((vI n24), j9.2)) = some r) : run (Et base) 193 [(.pointer v0)] h = some r := run_i (an := a193) Try.func193 (by kernel_rfl) (.trans (by kernel_rfl) hx)
noncomputable abbrev qf194 (base : Nat) (v0_0 : Int) (v0_1 : Int) (v0_2 : Int) (v0_3 : Int) (v0_4 : Int) (v0_5 : ByteArray) (h : AH) : Option (Value × AH) :=
nw1 h 139 [(vI v0_0), (vI v0_1), (vI v0_2), (vI v0_3), (vI v0_4), (vT v0_5)] fun h1 =>
((cell h1 (List.length h) 0).bind (getI .i64)).bind fun n2 =>
(run (Et base) 213 [(vI n2)] h1).bind fun r3 =>
((some r3.1).bind getStr).bind fun s4 =>
nw1 r3.2 9 [(vT ⟨#[]⟩)] fun h5 =>
(wr base h5 (List.length r3.2) 0 [(vT s4)]).bind fun h6 =>
((cell h6 (List.length r3.2) 0).bind getStr).bind fun s7 =>
(if (!(s7.toList == (⟨#[]⟩ : ByteArray).toList)) = true then
((run (Et base) 214 [(.int .u8 (65 : Int)), (vP (List.length r3.2))] h6).bind fun r9 =>
((some r9.1).bind getB).bind fun b10 =>
some ((.bool b10), r9.2)).bind fun r8 =>
((some r8.1).bind getB).bind fun b11 =>
(if b11 = true then
((run (Et base) 214 [(.int .u8 (66 : Int)), (vP (List.length r3.2))] r8.2).bind fun r13 =>
((some r13.1).bind getB).bind fun b14 =>
some ((.bool b14), r13.2)).bind fun r12 =>
((some r12.1).bind getB).bind fun b15 =>
(if b15 = true then
((run (Et base) 214 [(.int .u8 (67 : Int)), (vP (List.length r3.2))] r12.2).bind fun r17 =>
((some r17.1).bind getB).bind fun b18 =>
some ((.bool b18), r17.2)).bind fun r16 =>
((some r16.1).bind getB).bind fun b19 =>
(if b19 = true then
((run (Et base) 214 [(.int .u8 (78 : Int)), (vP (List.length r3.2))] r16.2).bind fun r21 =>
((some r21.1).bind getB).bind fun b22 =>
some ((.bool b22), r21.2)).bind fun r20 =>
((some r20.1).bind getB).bind fun b23 =>
(if b23 = true then
((run (Et base) 214 [(.int .u8 (83 : Int)), (vP (List.length r3.2))] r20.2).bind fun r25 =>
((some r25.1).bind getB).bind fun b26 =>
some ((.bool b26), r25.2)).bind fun r24 =>
((some r24.1).bind getB).bind fun b27 =>
(if b27 = true then
some ((.bool true), r24.2)
else
((cell r24.2 (List.length h) 5).bind getStr).bind fun s28 =>
some ((.bool (s28.toList == (⟨#[]⟩ : ByteArray).toList)), r24.2))
else
((cell r20.2 (List.length h) 4).bind (getI .i64)).bind fun n29 =>
(if (n29 == (0 : Int)) = true then
((run (Et base) 214 [(.int .u8 (83 : Int)), (vP (List.length r3.2))] r20.2).bind fun r31 =>
((some r31.1).bind getB).bind fun b32 =>
some ((.bool b32), r31.2)).bind fun r30 =>
((some r30.1).bind getB).bind fun b33 =>
(if b33 = true then
some ((.bool true), r30.2)
else
((cell r30.2 (List.length h) 5).bind getStr).bind fun s34 =>
some ((.bool (s34.toList == (⟨#[]⟩ : ByteArray).toList)), r30.2))
else
some ((.bool false), r20.2)))
else
((cell r16.2 (List.length h) 3).bind (getI .i64)).bind fun n35 =>
(if (n35 == (0 : Int)) = true then
((run (Et base) 214 [(.int .u8 (78 : Int)), (vP (List.length r3.2))] r16.2).bind fun r37 =>
((some r37.1).bind getB).bind fun b38 =>
some ((.bool b38), r37.2)).bind fun r36 =>
((some r36.1).bind getB).bind fun b39 =>
(if b39 = true then
((run (Et base) 214 [(.int .u8 (83 : Int)), (vP (List.length r3.2))] r36.2).bind fun r41 =>
((some r41.1).bind getB).bind fun b42 =>
some ((.bool b42), r41.2)).bind fun r40 =>
((some r40.1).bind getB).bind fun b43 =>
(if b43 = true then
some ((.bool true), r40.2)
else
((cell r40.2 (List.length h) 5).bind getStr).bind fun s44 =>
some ((.bool (s44.toList == (⟨#[]⟩ : ByteArray).toList)), r40.2))
else
((cell r36.2 (List.length h) 4).bind (getI .i64)).bind fun n45 =>
(if (n45 == (0 : Int)) = true then
((run (Et base) 214 [(.int .u8 (83 : Int)), (vP (List.length r3.2))] r36.2).bind fun r47 =>
((some r47.1).bind getB).bind fun b48 =>
some ((.bool b48), r47.2)).bind fun r46 =>
((some r46.1).bind getB).bind fun b49 =>
(if b49 = true then
some ((.bool true), r46.2)
else
((cell r46.2 (List.length h) 5).bind getStr).bind fun s50 =>
some ((.bool (s50.toList == (⟨#[]⟩ : ByteArray).toList)), r46.2))
else
some ((.bool false), r36.2)))
else
some ((.bool false), r16.2)))
else
((cell r12.2 (List.length h) 2).bind (getI .i64)).bind fun n51 =>
(if (n51 == (0 : Int)) = true then
((run (Et base) 214 [(.int .u8 (67 : Int)), (vP (List.length r3.2))] r12.2).bind fun r53 =>
((some r53.1).bind getB).bind fun b54 =>
some ((.bool b54), r53.2)).bind fun r52 =>
((some r52.1).bind getB).bind fun b55 =>
(if b55 = true then
((run (Et base) 214 [(.int .u8 (78 : Int)), (vP (List.length r3.2))] r52.2).bind fun r57 =>
((some r57.1).bind getB).bind fun b58 =>
some ((.bool b58), r57.2)).bind fun r56 =>
((some r56.1).bind getB).bind fun b59 =>
(if b59 = true then
((run (Et base) 214 [(.int .u8 (83 : Int)), (vP (List.length r3.2))] r56.2).bind fun r61 =>
((some r61.1).bind getB).bind fun b62 =>
some ((.bool b62), r61.2)).bind fun r60 =>
((some r60.1).bind getB).bind fun b63 =>
(if b63 = true then
some ((.bool true), r60.2)
else
((cell r60.2 (List.length h) 5).bind getStr).bind fun s64 =>
some ((.bool (s64.toList == (⟨#[]⟩ : ByteArray).toList)), r60.2))
else
((cell r56.2 (List.length h) 4).bind (getI .i64)).bind fun n65 =>
(if (n65 == (0 : Int)) = true then
((run (Et base) 214 [(.int .u8 (83 : Int)), (vP (List.length r3.2))] r56.2).bind fun r67 =>
((some r67.1).bind getB).bind fun b68 =>
some ((.bool b68), r67.2)).bind fun r66 =>
((some r66.1).bind getB).bind fun b69 =>
(if b69 = true then
some ((.bool true), r66.2)
else
((cell r66.2 (List.length h) 5).bind getStr).bind fun s70 =>
some ((.bool (s70.toList == (⟨#[]⟩ : ByteArray).toList)), r66.2))
else
some ((.bool false), r56.2)))
else
((cell r52.2 (List.length h) 3).bind (getI .i64)).bind fun n71 =>
(if (n71 == (0 : Int)) = true then
((run (Et base) 214 [(.int .u8 (78 : Int)), (vP (List.length r3.2))] r52.2).bind fun r73 =>
((some r73.1).bind getB).bind fun b74 =>
some ((.bool b74), r73.2)).bind fun r72 =>
((some r72.1).bind getB).bind fun b75 =>
(if b75 = true then
((run (Et base) 214 [(.int .u8 (83 : Int)), (vP (List.length r3.2))] r72.2).bind fun r77 =>
((some r77.1).bind getB).bind fun b78 =>
some ((.bool b78), r77.2)).bind fun r76 =>
((some r76.1).bind getB).bind fun b79 =>
(if b79 = true then
some ((.bool true), r76.2)
else
((cell r76.2 (List.length h) 5).bind getStr).bind fun s80 =>
some ((.bool (s80.toList == (⟨#[]⟩ : ByteArray).toList)), r76.2))
else
((cell r72.2 (List.length h) 4).bind (getI .i64)).bind fun n81 =>
(if (n81 == (0 : Int)) = true then
((run (Et base) 214 [(.int .u8 (83 : Int)), (vP (List.length r3.2))] r72.2).bind fun r83 =>
((some r83.1).bind getB).bind fun b84 =>
some ((.bool b84), r83.2)).bind fun r82 =>
((some r82.1).bind getB).bind fun b85 =>
(if b85 = true then
some ((.bool true), r82.2)
else
((cell r82.2 (List.length h) 5).bind getStr).bind fun s86 =>
some ((.bool (s86.toList == (⟨#[]⟩ : ByteArray).toList)), r82.2))
else
some ((.bool false), r72.2)))
else
some ((.bool false), r52.2)))
else
some ((.bool false), r12.2)))
else
((cell r8.2 (List.length h) 1).bind (getI .i64)).bind fun n87 =>
(if (n87 == (0 : Int)) = true then
((run (Et base) 214 [(.int .u8 (66 : Int)), (vP (List.length r3.2))] r8.2).bind fun r89 =>
((some r89.1).bind getB).bind fun b90 =>
some ((.bool b90), r89.2)).bind fun r88 =>
((some r88.1).bind getB).bind fun b91 =>
(if b91 = true then
((run (Et base) 214 [(.int .u8 (67 : Int)), (vP (List.length r3.2))] r88.2).bind fun r93 =>
((some r93.1).bind getB).bind fun b94 =>
some ((.bool b94), r93.2)).bind fun r92 =>
((some r92.1).bind getB).bind fun b95 =>
(if b95 = true then
((run (Et base) 214 [(.int .u8 (78 : Int)), (vP (List.length r3.2))] r92.2).bind fun r97 =>
((some r97.1).bind getB).bind fun b98 =>
some ((.bool b98), r97.2)).bind fun r96 =>
((some r96.1).bind getB).bind fun b99 =>
(if b99 = true then
((run (Et base) 214 [(.int .u8 (83 : Int)), (vP (List.length r3.2))] r96.2).bind fun r101 =>
((some r101.1).bind getB).bind fun b102 =>
some ((.bool b102), r101.2)).bind fun r100 =>
((some r100.1).bind getB).bind fun b103 =>
(if b103 = true then
some ((.bool true), r100.2)
else
((cell r100.2 (List.length h) 5).bind getStr).bind fun s104 =>
some ((.bool (s104.toList == (⟨#[]⟩ : ByteArray).toList)), r100.2))
else
((cell r96.2 (List.length h) 4).bind (getI .i64)).bind fun n105 =>
(if (n105 == (0 : Int)) = true then
((run (Et base) 214 [(.int .u8 (83 : Int)), (vP (List.length r3.2))] r96.2).bind fun r107 =>
((some r107.1).bind getB).bind fun b108 =>
some ((.bool b108), r107.2)).bind fun r106 =>
((some r106.1).bind getB).bind fun b109 =>
(if b109 = true then
some ((.bool true), r106.2)
else
((cell r106.2 (List.length h) 5).bind getStr).bind fun s110 =>
some ((.bool (s110.toList == (⟨#[]⟩ : ByteArray).toList)), r106.2))
else
some ((.bool false), r96.2)))
else
((cell r92.2 (List.length h) 3).bind (getI .i64)).bind fun n111 =>
(if (n111 == (0 : Int)) = true then
((run (Et base) 214 [(.int .u8 (78 : Int)), (vP (List.length r3.2))] r92.2).bind fun r113 =>
((some r113.1).bind getB).bind fun b114 =>
some ((.bool b114), r113.2)).bind fun r112 =>
((some r112.1).bind getB).bind fun b115 =>
(if b115 = true then
((run (Et base) 214 [(.int .u8 (83 : Int)), (vP (List.length r3.2))] r112.2).bind fun r117 =>
((some r117.1).bind getB).bind fun b118 =>
some ((.bool b118), r117.2)).bind fun r116 =>
((some r116.1).bind getB).bind fun b119 =>
(if b119 = true then
some ((.bool true), r116.2)
else
((cell r116.2 (List.length h) 5).bind getStr).bind fun s120 =>
some ((.bool (s120.toList == (⟨#[]⟩ : ByteArray).toList)), r116.2))
else
((cell r112.2 (List.length h) 4).bind (getI .i64)).bind fun n121 =>
(if (n121 == (0 : Int)) = true then
((run (Et base) 214 [(.int .u8 (83 : Int)), (vP (List.length r3.2))] r112.2).bind fun r123 =>
((some r123.1).bind getB).bind fun b124 =>
some ((.bool b124), r123.2)).bind fun r122 =>
((some r122.1).bind getB).bind fun b125 =>
(if b125 = true then
some ((.bool true), r122.2)
else
((cell r122.2 (List.length h) 5).bind getStr).bind fun s126 =>
some ((.bool (s126.toList == (⟨#[]⟩ : ByteArray).toList)), r122.2))
else
some ((.bool false), r112.2)))
else
some ((.bool false), r92.2)))
else
((cell r88.2 (List.length h) 2).bind (getI .i64)).bind fun n127 =>
(if (n127 == (0 : Int)) = true then
((run (Et base) 214 [(.int .u8 (67 : Int)), (vP (List.length r3.2))] r88.2).bind fun r129 =>
((some r129.1).bind getB).bind fun b130 =>
some ((.bool b130), r129.2)).bind fun r128 =>
((some r128.1).bind getB).bind fun b131 =>
(if b131 = true then
((run (Et base) 214 [(.int .u8 (78 : Int)), (vP (List.length r3.2))] r128.2).bind fun r133 =>
((some r133.1).bind getB).bind fun b134 =>
some ((.bool b134), r133.2)).bind fun r132 =>
((some r132.1).bind getB).bind fun b135 =>
(if b135 = true then
((run (Et base) 214 [(.int .u8 (83 : Int)), (vP (List.length r3.2))] r132.2).bind fun r137 =>
((some r137.1).bind getB).bind fun b138 =>
some ((.bool b138), r137.2)).bind fun r136 =>
((some r136.1).bind getB).bind fun b139 =>
(if b139 = true then
some ((.bool true), r136.2)
else
((cell r136.2 (List.length h) 5).bind getStr).bind fun s140 =>
some ((.bool (s140.toList == (⟨#[]⟩ : ByteArray).toList)), r136.2))
else
((cell r132.2 (List.length h) 4).bind (getI .i64)).bind fun n141 =>
(if (n141 == (0 : Int)) = true then
((run (Et base) 214 [(.int .u8 (83 : Int)), (vP (List.length r3.2))] r132.2).bind fun r143 =>
((some r143.1).bind getB).bind fun b144 =>
some ((.bool b144), r143.2)).bind fun r142 =>
((some r142.1).bind getB).bind fun b145 =>
(if b145 = true then
some ((.bool true), r142.2)
else
((cell r142.2 (List.length h) 5).bind getStr).bind fun s146 =>
some ((.bool (s146.toList == (⟨#[]⟩ : ByteArray).toList)), r142.2))
else
some ((.bool false), r132.2)))
else
((cell r128.2 (List.length h) 3).bind (getI .i64)).bind fun n147 =>
(if (n147 == (0 : Int)) = true then
((run (Et base) 214 [(.int .u8 (78 : Int)), (vP (List.length r3.2))] r128.2).bind fun r149 =>
((some r149.1).bind getB).bind fun b150 =>
some ((.bool b150), r149.2)).bind fun r148 =>
((some r148.1).bind getB).bind fun b151 =>
(if b151 = true then
((run (Et base) 214 [(.int .u8 (83 : Int)), (vP (List.length r3.2))] r148.2).bind fun r153 =>
((some r153.1).bind getB).bind fun b154 =>
some ((.bool b154), r153.2)).bind fun r152 =>
((some r152.1).bind getB).bind fun b155 =>
(if b155 = true then
some ((.bool true), r152.2)
else
((cell r152.2 (List.length h) 5).bind getStr).bind fun s156 =>
some ((.bool (s156.toList == (⟨#[]⟩ : ByteArray).toList)), r152.2))
else
((cell r148.2 (List.length h) 4).bind (getI .i64)).bind fun n157 =>
(if (n157 == (0 : Int)) = true then
((run (Et base) 214 [(.int .u8 (83 : Int)), (vP (List.length r3.2))] r148.2).bind fun r159 =>
((some r159.1).bind getB).bind fun b160 =>
some ((.bool b160), r159.2)).bind fun r158 =>
((some r158.1).bind getB).bind fun b161 =>
(if b161 = true then
some ((.bool true), r158.2)
else
((cell r158.2 (List.length h) 5).bind getStr).bind fun s162 =>
some ((.bool (s162.toList == (⟨#[]⟩ : ByteArray).toList)), r158.2))
else
some ((.bool false), r148.2)))
else
some ((.bool false), r128.2)))
else
some ((.bool false), r88.2)))
else
some ((.bool false), r8.2)))
else
some ((.bool false), h6))
theorem r194 {base : Nat} {v0_0 : Int} {v0_1 : Int} {v0_2 : Int} {v0_3 : Int} {v0_4 : Int} {v0_5 : ByteArray} {h : AH} {r : Value × AH} (hx : qf194 base v0_0 v0_1 v0_2 v0_3 v0_4 v0_5 h = some r) : run (Et base) 194 [(.agg #[(vI v0_0), (vI v0_1), (vI v0_2), (vI v0_3), (vI v0_4), (vT v0_5)])] h = some r := run_i (an := a194) Try.func194 (by kernel_rfl) (.trans (by kernel_rfl) hx)
theorem r195 {base : Nat} {v0 : Int} {h : AH} {r : Value × AH} (hx : ((run (Et base) 87 [(.int .i64 v0), (.int .i64 (0 : Int)), (.int .i64 (7 : Int))] h).bind fun r1 =>
((some r1.1).bind getB).bind fun b2 =>
some ((.bool b2), r1.2)) = some r) : run (Et base) 195 [(vI v0)] h = some r := run_i (an := a195) Try.func195 (by kernel_rfl) (.trans (by kernel_rfl) hx)
noncomputable abbrev qf196 (base : Nat) (v0_0 : Int) (v0_1 : Int) (v0_2 : ByteArray) (v0_3 : Option Addr) (v0_3n : Nat) (h : AH) : Option (Value × AH) :=
nw1 h 39 [(vI v0_0), (vI v0_1), (vT v0_2), (vL v0_3 v0_3n)] fun h1 =>
((cell h1 (List.length h) 0).bind (getI .i64)).bind fun n2 =>
(if (n2 == (1 : Int)) = true then
((cell h1 (List.length h) 1).bind (getI .i64)).bind fun n3 =>
(run (Et base) 87 [(vI n3), (vI (-1000000 : Int)), (vI (1000000 : Int))] h1).bind fun r4 =>
((some r4.1).bind getB).bind fun b5 =>
(if b5 = true then
((cell r4.2 (List.length h) 2).bind getStr).bind fun s6 =>
(if (s6.toList == (⟨#[]⟩ : ByteArray).toList) = true then
((cell r4.2 (List.length h) 3).bind getS).bind fun l7 =>
some ((.bool (((l7.2 : Nat) : Int) == (0 : Int))), r4.2)
else
some ((.bool false), r4.2))
else
some ((.bool false), r4.2))
else
(if (n2 == (2 : Int)) = true then
((cell h1 (List.length h) 1).bind (getI .i64)).bind fun n8 =>
(if (n8 == (0 : Int)) = true then
((cell h1 (List.length h) 2).bind getStr).bind fun s9 =>
(run (Et base) 146 [(vT s9)] h1).bind fun r10 =>
((some r10.1).bind getB).bind fun b11 =>
(if b11 = true then
((cell r10.2 (List.length h) 3).bind getS).bind fun l12 =>
some ((.bool (((l12.2 : Nat) : Int) == (0 : Int))), r10.2)
else
some ((.bool false), r10.2))
else
some ((.bool false), h1))
else
(if (n2 == (3 : Int)) = true then
((cell h1 (List.length h) 1).bind (getI .i64)).bind fun n13 =>
(run (Et base) 87 [(vI n13), (vI (0 : Int)), (vI (99999 : Int))] h1).bind fun r14 =>
((some r14.1).bind getB).bind fun b15 =>
(if b15 = true then
((cell r14.2 (List.length h) 2).bind getStr).bind fun s16 =>
(if (s16.toList == (⟨#[]⟩ : ByteArray).toList) = true then
((cell r14.2 (List.length h) 3).bind getS).bind fun l17 =>
some ((.bool (((l17.2 : Nat) : Int) == (0 : Int))), r14.2)
else
some ((.bool false), r14.2))
else
some ((.bool false), r14.2))
else
(if (n2 == (4 : Int)) = true then
((cell h1 (List.length h) 1).bind (getI .i64)).bind fun n18 =>
(if (n18 == (0 : Int)) = true then
((cell h1 (List.length h) 2).bind getStr).bind fun s19 =>
(if (s19.toList == (⟨#[]⟩ : ByteArray).toList) = true then
((cell h1 (List.length h) 3).bind getS).bind fun l20 =>
some ((.bool (decide (((l20.2 : Nat) : Int) ≤ (8 : Int)))), h1)
else
some ((.bool false), h1))
else
some ((.bool false), h1))
else
(if (n2 == (5 : Int)) = true then
((cell h1 (List.length h) 1).bind (getI .i64)).bind fun n21 =>
(if (n21 == (0 : Int)) = true then
((cell h1 (List.length h) 2).bind getStr).bind fun s22 =>
(if (s22.toList == (⟨#[]⟩ : ByteArray).toList) = true then
((cell h1 (List.length h) 3).bind getS).bind fun l23 =>
some ((.bool (decide (((l23.2 : Nat) : Int) ≤ (20 : Int)))), h1)
else
some ((.bool false), h1))
else
some ((.bool false), h1))
else
(if (n2 == (6 : Int)) = true then
((cell h1 (List.length h) 1).bind (getI .i64)).bind fun n24 =>
(if (n24 == (0 : Int)) = true then
((cell h1 (List.length h) 2).bind getStr).bind fun s25 =>
(if (decide ((s25.size : Int) ≤ (40 : Int))) = true then
((cell h1 (List.length h) 3).bind getS).bind fun l26 =>
some ((.bool (((l26.2 : Nat) : Int) == (0 : Int))), h1)
else
some ((.bool false), h1))
else
some ((.bool false), h1))
else
some ((.bool false), h1)))))))
theorem r196 {base : Nat} {v0_0 : Int} {v0_1 : Int} {v0_2 : ByteArray} {v0_3 : Option Addr} {v0_3n : Nat} {h : AH} {r : Value × AH} (hx : qf196 base v0_0 v0_1 v0_2 v0_3 v0_3n h = some r) : run (Et base) 196 [(.agg #[(vI v0_0), (vI v0_1), (vT v0_2), (vL v0_3 v0_3n)])] h = some r := run_i (an := a196) Try.func196 (by kernel_rfl) (.trans (by kernel_rfl) hx)
theorem r197 {base : Nat}  {h : AH} {r : Value × AH} (hx : ((some (h ++ [some ⟨[(.string (⟨#[65, 78]⟩ : ByteArray)), (.string (⟨#[65, 83]⟩ : ByteArray)), (.string (⟨#[65, 66]⟩ : ByteArray)), (.string (⟨#[65, 66, 78]⟩ : ByteArray)), (.string (⟨#[65, 66, 67]⟩ : ByteArray)), (.string (⟨#[65, 66, 78]⟩ : ByteArray)), (.string (⟨#[65, 66]⟩ : ByteArray)), (.string (⟨#[65, 66]⟩ : ByteArray)), (.string (⟨#[65, 66, 67]⟩ : ByteArray)), (.string (⟨#[65, 66, 78]⟩ : ByteArray)), (.string (⟨#[65, 66, 78]⟩ : ByteArray)), (.string (⟨#[78]⟩ : ByteArray)), (.string (⟨#[65, 66]⟩ : ByteArray)), (.string (⟨#[65]⟩ : ByteArray)), (.string (⟨#[65]⟩ : ByteArray)), (.string (⟨#[65, 66, 78]⟩ : ByteArray)), (.string (⟨#[65]⟩ : ByteArray)), (.string (⟨#[65]⟩ : ByteArray)), (.string (⟨#[65]⟩ : ByteArray)), (.string (⟨#[65]⟩ : ByteArray))], 9⟩])).bind fun h1 =>
some ((.slice (some ⟨(List.length h), 0, none⟩) 20 20), h1)) = some r) : run (Et base) 197 [] h = some r := run_i (an := a197) Try.func197 (by kernel_rfl) (.trans (by kernel_rfl) hx)
theorem r198 {base : Nat} {v0 : ByteArray} {v1 : Int} {v2 : Int} {h : AH} {r : Value × AH} (hx : ((run (Et base) 209 [(.string v0), (.int .u8 v1)] h).bind fun r1 =>
((some r1.1).bind getB).bind fun b2 =>
(if (!b2) = true then
some ((.bool (v2 == (0 : Int))), r1.2)
else
(run (Et base) 83 [(.int .i64 v2), (.int .i64 (0 : Int)), (.int .i64 (7 : Int))] r1.2).bind fun r3 =>
((some r3.1).bind getB).bind fun b4 =>
some ((.bool b4), r3.2))) = some r) : run (Et base) 198 [(vT v0), (.int .u8 v1), (vI v2)] h = some r := run_i (an := a198) Try.func198 (by kernel_rfl) (.trans (by kernel_rfl) hx)
theorem r199 {base : Nat} {v0_0 : Int} {v0_1 : Int} {v0_2 : Int} {v0_3 : Int} {v0_4 : Int} {v0_5 : ByteArray} {v1 : Int} {h : AH} {r : Value × AH} (hx : (nw1 h 139 [(vI v0_0), (vI v0_1), (vI v0_2), (vI v0_3), (vI v0_4), (vT v0_5)] fun h1 =>
((cell h1 (List.length h) 0).bind (getI .i64)).bind fun n2 =>
(if (n2 == (1 : Int)) = true then
((cell h1 (List.length h) 4).bind (getI .i64)).bind fun n3 =>
(run (Et base) 83 [(vI n3), (vI (-1000000 : Int)), (vI (1000000 : Int))] h1).bind fun r4 =>
((some r4.1).bind getB).bind fun b5 =>
some ((.bool b5), r4.2)
else
(if (n2 == (4 : Int)) = true then
((cell h1 (List.length h) 4).bind (getI .i64)).bind fun n6 =>
(run (Et base) 83 [(vI n6), (vI (0 : Int)), (vI (8 : Int))] h1).bind fun r7 =>
((some r7.1).bind getB).bind fun b8 =>
(if b8 = true then
((cell r7.2 (List.length h) 2).bind (getI .i64)).bind fun n9 =>
((cell r7.2 (List.length h) 4).bind (getI .i64)).bind fun n10 =>
some ((.bool (decide ((IntKind.wrap .i64 (n9 + n10)) ≤ (8 : Int)))), r7.2)
else
some ((.bool false), r7.2))
else
(if (n2 == (6 : Int)) = true then
((cell h1 (List.length h) 4).bind (getI .i64)).bind fun n11 =>
(run (Et base) 83 [(vI n11), (vI (0 : Int)), (vI (7 : Int))] h1).bind fun r12 =>
((some r12.1).bind getB).bind fun b13 =>
some ((.bool b13), r12.2)
else
((if (n2 == (10 : Int)) = true then
some (.inl ([some (vI v1), some (vP (List.length h)), some (.bool (n2 == (10 : Int)))], h1))
else
(if (n2 == (11 : Int)) = true then
some (.inl ([some (vI v1), some (vP (List.length h)), some (.bool (n2 == (11 : Int)))], h1))
else
(if (n2 == (12 : Int)) = true then
some (.inl ([some (vI v1), some (vP (List.length h)), some (.bool (n2 == (12 : Int)))], h1))
else
some (.inl ([some (vI v1), some (vP (List.length h)), some (.bool (n2 == (16 : Int)))], h1)))))).bind fun j14 => joinK j14 fun j14 =>
j_IAB j14.1 fun n15 d16 b17 =>
(if b17 = true then
((cell j14.2 d16.block (d16.off + 4)).bind (getI .i64)).bind fun n18 =>
(if (decide (n18 ≥ (0 : Int))) = true then
((cell j14.2 d16.block (d16.off + 4)).bind (getI .i64)).bind fun n19 =>
some ((.bool (decide (n19 < n15))), j14.2)
else
some ((.bool false), j14.2))
else
((cell j14.2 d16.block (d16.off + 4)).bind (getI .i64)).bind fun n20 =>
some ((.bool (n20 == (0 : Int))), j14.2)))))) = some r) : run (Et base) 199 [(.agg #[(vI v0_0), (vI v0_1), (vI v0_2), (vI v0_3), (vI v0_4), (vT v0_5)]), (vI v1)] h = some r := run_i (an := a199) Try.func199 (by kernel_rfl) (.trans (by kernel_rfl) hx)
noncomputable def B207_0 (base : Nat) : Body := fun l h => lay s207_0 l fun s => exCode (Et base) (run (Et base)) loopL a207_0 (subC [1, 1, 1, 0, 1, 0, 0] (bodyC Try.f207)) s h (keepK s207_0 e207_0)
theorem B207_0_eq (base : Nat) (v0 : ByteArray) (v1 : Int) (v5 : Option Addr) (v5n : Nat) (v6 : Int) (v7 : Int) (h : AH) : B207_0 base [some (vT v0), some (.int .u8 v1), some (vL v5 v5n), some (vI v6), some (vI v7)] h =
((if (decide (v7 ≤ (v0.size : Int))) = true then
(((if (v7 == (v0.size : Int)) = true then
some (.inl ([some (vT v0), some (.int .u8 v1), some (vL v5 v5n), some (vI v6), some (vI v7), some (.bool true)], h))
else
(if 0 ≤ v7 ∧ v7 < (v0.size : Int) then
some (.inl ([some (vT v0), some (.int .u8 v1), some (vL v5 v5n), some (vI v6), some (vI v7), some (.bool (((v0.data.toList.getD (Int.toNat v7) 0).toNat : Int) == v1))], h))
else none))).bind fun j2 => joinK j2 fun j2 =>
j_TULIIB j2.1 fun s3 n4 l5 n6 n7 b8 =>
(if b8 = true then
(if 0 ≤ n6 ∧ n6 ≤ n7 ∧ n7 ≤ (s3.size : Int) then
nw1 j2.2 9 [(vT (s3.extract (Int.toNat n6) (Int.toNat n7)))] fun h9 =>
(app base h9 9 1 16 l5.1 l5.2 (rawAt h9 (some ⟨(List.length j2.2), 0, none⟩) (1 * 1)) 1).bind fun p10 =>
((some p10.1).bind getS).bind fun l11 =>
some (.inl ([some (vT s3), some (.int .u8 n4), some (vL l11.1 l11.2), some (vI (IntKind.wrap .i64 (n7 + (1 : Int)))), some (vI n7)], p10.2))
else none)
else
some (.inl ([some (vT s3), some (.int .u8 n4), some (vL l5.1 l5.2), some (vI n6), some (vI n7)], j2.2)))).bind fun j1 => joinK j1 fun j1 =>
j_TULII j1.1 fun s12 n13 l14 n15 n16 =>
some (0, [some (vT s12), some (.int .u8 n13), some (vL l14.1 l14.2), some (vI n15), some (vI (IntKind.wrap .i64 (n16 + (1 : Int))))], j1.2)
else
some (2, [some (vL v5 v5n)], h)) : Option (Nat × Slots × AH)) := by kernel_rfl
theorem r207 {base : Nat} {v0 : ByteArray} {v1 : Int} {h : AH} {r : Value × AH} (hx : ((some (h ++ [some ⟨[], 9⟩])).bind fun h1 =>
(loopL (B207_0 base) [some (.string v0), some (.int .u8 v1), some (.slice (some ⟨(List.length h), 0, none⟩) 0 0), some (.int .i64 (0 : Int)), some (.int .i64 (0 : Int))] h1).bind fun q2 =>
(if q2.1 = 2 then
((sget q2.2.1 0).bind getS).bind fun l3 =>
some ((.slice l3.1 l3.2 l3.2), q2.2.2)
else
none)) = some r) : run (Et base) 207 [(vT v0), (.int .u8 v1)] h = some r := run_i (an := a207) Try.func207 (by kernel_rfl) (.trans (by kernel_rfl) hx)
noncomputable def B208_1 (base : Nat) : Body := fun l h => lay s208_1 l fun s => exCode (Et base) (run (Et base)) loopL a208_1 (subC [1, 1, 1, 0, 1, 0, 0, 1, 0, 0, 1, 1, 1, 1, 0, 1, 0, 0] (bodyC Try.f208)) s h (keepK s208_1 e208_1)
noncomputable def B208_0 (base : Nat) : Body := fun l h => lay s208_0 l fun s => exCode (Et base) (run (Et base)) loopL a208_0 (subC [1, 1, 1, 0, 1, 0, 0] (bodyC Try.f208)) s h (keepK s208_0 e208_0)
theorem B208_1_eq (base : Nat) (v2 : Addr) (v4 : Option Addr) (v4n : Nat) (v7 : ByteArray) (v8 : Addr) (v9 : Bool) (v10 : Int) (h : AH) : B208_1 base [some (vA v2), some (vL v4 v4n), some (vT v7), some (vA v8), some (.bool v9), some (vI v10)] h =
(((if (decide (v10 < (v7.size : Int))) = true then
some (.inl ([some (vA v2), some (vL v4 v4n), some (vT v7), some (vA v8), some (.bool v9), some (vI v10), some (.bool v9)], h))
else
some (.inl ([some (vA v2), some (vL v4 v4n), some (vT v7), some (vA v8), some (.bool v9), some (vI v10), some (.bool false)], h)))).bind fun j1 => joinK j1 fun j1 =>
j_ALTABIB j1.1 fun d2 l3 s4 d5 b6 n7 b8 =>
(if b8 = true then
(if 0 ≤ n7 ∧ n7 < (s4.size : Int) then
(if 0 ≤ (IntKind.wrap .i64 (n7 + (1 : Int))) ∧ (IntKind.wrap .i64 (n7 + (1 : Int))) < ((l3.2 : Nat) : Int) then
((l3.1 : Option Addr)).bind fun a9 =>
((cell j1.2 a9.block (a9.off + Int.toNat (IntKind.wrap .i64 (n7 + (1 : Int))) * 1)).bind getStr).bind fun s10 =>
(run (Et base) 220 [(vA d5), (.int .u8 ((s4.data.toList.getD (Int.toNat n7) 0).toNat : Int)), (vT s10)] j1.2).bind fun r11 =>
((some r11.1).bind getB).bind fun b12 =>
some (0, [some (vA d2), some (vL l3.1 l3.2), some (vT s4), some (vA d5), some (.bool b12), some (vI (IntKind.wrap .i64 (n7 + (1 : Int))))], r11.2)
else none)
else none)
else
some (4, [some (vA d2), some (vA d5), some (.bool b6)], j1.2)) : Option (Nat × Slots × AH)) := by kernel_rfl
theorem B208_0_eq (base : Nat) (v2 : Addr) (v4 : Option Addr) (v4n : Nat) (v5 : Option Addr) (v5n : Nat) (v6 : Int) (h : AH) : B208_0 base [some (vA v2), some (vL v4 v4n), some (vL v5 v5n), some (vI v6)] h =
((if (decide (v6 < ((v5n : Nat) : Int))) = true then
(run (Et base) 197 [] h).bind fun r1 =>
((some r1.1).bind getS).bind fun l2 =>
(if 0 ≤ v6 ∧ v6 < ((l2.2 : Nat) : Int) then
((l2.1 : Option Addr)).bind fun a3 =>
((cell r1.2 a3.block (a3.off + Int.toNat v6 * 1)).bind getStr).bind fun s4 =>
(if 0 ≤ v6 ∧ v6 < ((v5n : Nat) : Int) then
((v5 : Option Addr)).bind fun a5 =>
((cell r1.2 a5.block (a5.off + Int.toNat v6 * 1)).bind getStr).bind fun s6 =>
(if 0 ≤ (0 : Int) ∧ (0 : Int) < ((v4n : Nat) : Int) then
((v4 : Option Addr)).bind fun a7 =>
((cell r1.2 a7.block (a7.off + Int.toNat (0 : Int) * 1)).bind getStr).bind fun s8 =>
(if (!(s6.toList == s8.toList)) = true then
some (0, [some (vA v2), some (vL v4 v4n), some (vL v5 v5n), some (vI (IntKind.wrap .i64 (v6 + (1 : Int))))], r1.2)
else
nw1 r1.2 139 [(vI 0), (vI 0), (vI 0), (vI 0), (vI 0), (vT ⟨#[]⟩)] fun h9 =>
(wr base h9 (List.length r1.2) 0 [(vI (IntKind.wrap .i64 (v6 + (1 : Int)))), (vI (0 : Int)), (vI (0 : Int)), (vI (0 : Int)), (vI (0 : Int)), (vT (⟨#[]⟩ : ByteArray))]).bind fun h10 =>
(loopL (B208_1 base) [some (vA v2), some (vL v4 v4n), some (vT s4), some (vP (List.length r1.2)), some (.bool (((v4n : Nat) : Int) == (IntKind.wrap .i64 ((s4.size : Int) + (1 : Int))))), some (vI (0 : Int))] h10).bind fun q11 =>
(if q11.1 = 4 then
j_AAB q11.2.1 fun d12 d13 b14 =>
c_IIIIIT q11.2.2 d13.block d13.off fun n15 n16 n17 n18 n19 s20 =>
(wr base q11.2.2 d12.block d12.off [(vI n15), (vI n16), (vI n17), (vI n18), (vI n19), (vT s20)]).bind fun h21 =>
some (1, [some (vA d12), some (.bool b14)], h21)
else
none))
else none)
else none)
else none)
else
some (2, [some (vA v2)], h)) : Option (Nat × Slots × AH)) := by kernel_rfl
theorem r208 {base : Nat} {v0 : ByteArray} {h : AH} {r : Value × AH} (hx : (nw1 h 139 [(vI 0), (vI 0), (vI 0), (vI 0), (vI 0), (vT ⟨#[]⟩)] fun h1 =>
(run (Et base) 207 [(vT v0), (.int .u8 (32 : Int))] h1).bind fun r2 =>
((some r2.1).bind getS).bind fun l3 =>
(run (Et base) 219 [] r2.2).bind fun r4 =>
((some r4.1).bind getS).bind fun l5 =>
(loopL (B208_0 base) [some (vP (List.length h)), some (vL l3.1 l3.2), some (vL l5.1 l5.2), some (vI (0 : Int))] r4.2).bind fun q6 =>
(if q6.1 = 1 then
j_AB q6.2.1 fun d7 b8 =>
c_IIIIIT q6.2.2 d7.block d7.off fun n9 n10 n11 n12 n13 s14 =>
some ((.tuple #[(.agg #[(vI n9), (vI n10), (vI n11), (vI n12), (vI n13), (vT s14)]), (.bool b8)]), q6.2.2)
else
(if q6.1 = 2 then
((sget q6.2.1 0).bind getA).bind fun d15 =>
(wr base q6.2.2 d15.block d15.off [(vI (0 : Int)), (vI (0 : Int)), (vI (0 : Int)), (vI (0 : Int)), (vI (0 : Int)), (vT (⟨#[]⟩ : ByteArray))]).bind fun h16 =>
c_IIIIIT h16 d15.block d15.off fun n17 n18 n19 n20 n21 s22 =>
some ((.tuple #[(.agg #[(vI n17), (vI n18), (vI n19), (vI n20), (vI n21), (vT s22)]), (.bool false)]), h16)
else
none))) = some r) : run (Et base) 208 [(vT v0)] h = some r := run_i (an := a208) Try.func208 (by kernel_rfl) (.trans (by kernel_rfl) hx)
noncomputable def B209_0 (base : Nat) : Body := fun l h => lay s209_0 l fun s => exCode (Et base) (run (Et base)) loopL a209_0 (subC [1, 0, 1, 0, 0] (bodyC Try.f209)) s h (keepK s209_0 e209_0)
theorem B209_0_eq (base : Nat) (v0 : ByteArray) (v1 : Int) (v5 : Int) (h : AH) : B209_0 base [some (vT v0), some (.int .u8 v1), some (vI v5)] h =
((if (decide (v5 < (v0.size : Int))) = true then
(if 0 ≤ v5 ∧ v5 < (v0.size : Int) then
(if (((v0.data.toList.getD (Int.toNat v5) 0).toNat : Int) == v1) = true then
some (1, [some (.bool true)], h)
else
some (0, [some (.string v0), some (.int .u8 v1), some (.int .i64 (IntKind.wrap .i64 (v5 + (1 : Int))))], h))
else none)
else
some (2, [], h)) : Option (Nat × Slots × AH)) := by kernel_rfl
theorem r209 {base : Nat} {v0 : ByteArray} {v1 : Int} {h : AH} {r : Value × AH} (hx : ((loopL (B209_0 base) [some (.string v0), some (.int .u8 v1), some (.int .i64 (0 : Int))] h).bind fun q1 =>
(if q1.1 = 1 then
((sget q1.2.1 0).bind getB).bind fun b2 =>
some ((.bool b2), q1.2.2)
else
(if q1.1 = 2 then
some ((.bool false), q1.2.2)
else
none))) = some r) : run (Et base) 209 [(vT v0), (.int .u8 v1)] h = some r := run_i (an := a209) Try.func209 (by kernel_rfl) (.trans (by kernel_rfl) hx)
noncomputable def B210_0 (base : Nat) : Body := fun l h => lay s210_0 l fun s => exCode (Et base) (run (Et base)) loopL a210_0 (subC [1, 1, 1, 0, 1, 0, 0] (bodyC Try.f210)) s h (keepK s210_0 e210_0)
theorem B210_0_eq (base : Nat) (v6 : Addr) (v7 : Addr) (v8 : Int) (h : AH) : B210_0 base [some (vA v6), some (vA v7), some (vI v8)] h =
((if (decide (v8 < (8 : Int))) = true then
((cell h v7.block (v7.off + 2)).bind getS).bind fun l1 =>
(run (Et base) 222 [(.int .i64 (0 : Int))] h).bind fun r2 =>
((some r2.1).bind (getAgg 4)).bind fun l3 =>
((l3[0]?).bind (getI .i64)).bind fun n4 =>
((l3[1]?).bind (getI .i64)).bind fun n5 =>
((l3[2]?).bind getStr).bind fun s6 =>
((l3[3]?).bind getS).bind fun l7 =>
(gate (sameA h r2.2 (some ⟨v7.block, (v7.off + 2), none⟩) 1)
((gate (neA (some ⟨v7.block, (v7.off + 2), none⟩) (List.length r2.2))
((some (r2.2 ++ [some ⟨[(.int .i64 n4), (.int .i64 n5), (.string s6), (.slice l7.1 l7.2 l7.2)], 39⟩])).bind fun h8 =>
(app base h8 39 4 56 l1.1 l1.2 (rawAt h8 (some ⟨(List.length r2.2), 0, none⟩) (1 * 4)) 1).bind fun p9 =>
((some p9.1).bind getS).bind fun l10 =>
(wr base p9.2 v7.block (v7.off + 2) [(.slice l10.1 l10.2 l10.2)]).bind fun h11 =>
some (0, [some (.pointer (some v6)), some (.pointer (some v7)), some (.int .i64 (IntKind.wrap .i64 (v8 + (1 : Int))))], h11)))))
else
some (2, [some (.pointer (some v6)), some (.pointer (some v7))], h)) : Option (Nat × Slots × AH)) := by kernel_rfl
noncomputable abbrev qf210 (base : Nat) (v0 : Int) (v1 : Int) (v2_0 : Int) (v2_1 : Int) (v2_2 : ByteArray) (v2_3 : Option Addr) (v2_3n : Nat) (h : AH) : Option (Value × AH) :=
nw1 h 39 [(vI v2_0), (vI v2_1), (vT v2_2), (vL v2_3 v2_3n)] fun h1 =>
nw1 h1 65 [(vI 0), (vI 0), (vL none 0), (vL none 0), (vL none 0)] fun h2 =>
((run (Et base) 83 [(vI v0), (vI (1 : Int)), (vI (99999 : Int))] h2).bind fun r4 =>
((some r4.1).bind getB).bind fun b5 =>
(if (!b5) = true then
some (.inl ([some (vI v0), some (vI v1), some (vP (List.length h)), some (vP (List.length h1)), some (.bool true)], r4.2))
else
(if (decide (v1 < (0 : Int))) = true then
some (.inl ([some (vI v0), some (vI v1), some (vP (List.length h)), some (vP (List.length h1)), some (.bool true)], r4.2))
else
c_IITL r4.2 (List.length h) 0 fun n6 n7 s8 l9 =>
(run (Et base) 70 [(.agg #[(vI n6), (vI n7), (vT s8), (vL l9.1 l9.2)])] r4.2).bind fun r10 =>
((some r10.1).bind getB).bind fun b11 =>
some (.inl ([some (vI v0), some (vI v1), some (vP (List.length h)), some (vP (List.length h1)), some (.bool (!b11))], r10.2))))).bind fun j3 => joinK j3 fun j3 =>
j_IIAAB j3.1 fun n12 n13 d14 d15 b16 =>
(if b16 = true then
(wr base j3.2 d15.block d15.off [(vI (0 : Int)), (vI (0 : Int)), (vL none 0), (vL none 0), (vL none 0)]).bind fun h17 =>
c_IILLL h17 d15.block d15.off fun n18 n19 l20 l21 l22 =>
some ((.agg #[(vI n18), (vI n19), (vL l20.1 l20.2), (vL l21.1 l21.2), (vL l22.1 l22.2)]), h17)
else
c_IITL j3.2 d14.block d14.off fun n23 n24 s25 l26 =>
(run (Et base) 221 [(.agg #[(vI n23), (vI n24), (vT s25), (vL l26.1 l26.2)])] j3.2).bind fun r27 =>
gG (some r27.1) 4 fun l28 =>
l_IITL l28 fun n29 n30 s31 l32 =>
nw1 r27.2 39 [(vI n29), (vI n30), (vT s31), (vL l32.1 l32.2)] fun h33 =>
nw1 h33 65 [(vI 0), (vI 0), (vL none 0), (vL none 0), (vL none 0)] fun h34 =>
(wr base h34 (List.length h33) 0 [(vI n12), (vI n13), (vL (some ⟨(List.length r27.2), 0, none⟩) 1), (vL none 0), (vL none 0)]).bind fun h35 =>
(loopL (B210_0 base) [some (vA d15), some (vP (List.length h33)), some (vI (1 : Int))] h35).bind fun q36 =>
(if q36.1 = 2 then
j_AA q36.2.1 fun d37 d38 =>
c_IILLL q36.2.2 d38.block d38.off fun n39 n40 l41 l42 l43 =>
(wr base q36.2.2 d37.block d37.off [(vI n39), (vI n40), (vL l41.1 l41.2), (vL l42.1 l42.2), (vL l43.1 l43.2)]).bind fun h44 =>
c_IILLL h44 d37.block d37.off fun n45 n46 l47 l48 l49 =>
some ((.agg #[(vI n45), (vI n46), (vL l47.1 l47.2), (vL l48.1 l48.2), (vL l49.1 l49.2)]), h44)
else
none))
theorem r210 {base : Nat} {v0 : Int} {v1 : Int} {v2_0 : Int} {v2_1 : Int} {v2_2 : ByteArray} {v2_3 : Option Addr} {v2_3n : Nat} {h : AH} {r : Value × AH} (hx : qf210 base v0 v1 v2_0 v2_1 v2_2 v2_3 v2_3n h = some r) : run (Et base) 210 [(vI v0), (vI v1), (.agg #[(vI v2_0), (vI v2_1), (vT v2_2), (vL v2_3 v2_3n)])] h = some r := run_i (an := a210) Try.func210 (by kernel_rfl) (.trans (by kernel_rfl) hx)
end Go.Proofs.Ytjmkbglnjklbcaa.Am
