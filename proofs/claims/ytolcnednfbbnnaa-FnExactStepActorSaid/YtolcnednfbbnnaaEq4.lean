/- What each of these functions comes to on the abstract machine, one equation a function and one a loop.
Conditions: none. -/
import Derived.Test.YtolcnednfbbnnaaTb
set_option linter.unusedVariables false
set_option maxRecDepth 100000
namespace Go.Proofs.Ytolcnednfbbnnaa.Am
open Go Go.RowKit
/-! spec.l9Part (gates 2) -/
noncomputable abbrev qf133 (base : Nat) (v0_0 : Int) (v0_1 : Int) (v0_2 : Int) (v0_3 : Int) (v0_4 : Int) (v0_5 : ByteArray) (v1_0 : Int) (v1_1 : Int) (v1_2 : Option Addr) (v1_2n : Nat) (v1_3 : Option Addr) (v1_3n : Nat) (v1_4 : Option Addr) (v1_4n : Nat) (h : AH) : Option (Value × AH) :=
nw1 h 82 [(vI v0_0), (vI v0_1), (vI v0_2), (vI v0_3), (vI v0_4), (vT v0_5)] fun h1 =>
nw1 h1 52 [(vI v1_0), (vI v1_1), (vL v1_2 v1_2n), (vL v1_3 v1_3n), (vL v1_4 v1_4n)] fun h2 =>
nw1 h2 38 [(vI 0), (vI 0), (vT ⟨#[]⟩), (vL none 0)] fun h3 =>
((cell h3 (List.length h1) 2).bind getS).bind fun l4 =>
((cell h3 (List.length h) 2).bind (getI .i64)).bind fun n5 =>
(if 0 ≤ n5 ∧ n5 < ((l4.2 : Nat) : Int) then
((l4.1 : Option Addr)).bind fun a6 =>
c_IITL h3 a6.block (a6.off + Int.toNat n5 * 4) fun n7 n8 s9 l10 =>
nw1 h3 38 [(vI 0), (vI 0), (vT ⟨#[]⟩), (vL none 0)] fun h11 =>
(wr base h11 (List.length h3) 0 [(vI n7), (vI n8), (vT s9), (vL l10.1 l10.2)]).bind fun h12 =>
((cell h12 (List.length h) 0).bind (getI .i64)).bind fun n13 =>
(if (n13 == (6 : Int)) = true then
(((cell h12 (List.length h3) 0).bind (getI .i64)).bind fun n15 =>
(if (n15 != (4 : Int)) = true then
some (.inl ([some (vP (List.length h)), some (vP (List.length h2)), some (vP (List.length h3)), some (.bool true)], h12))
else
((cell h12 (List.length h) 4).bind (getI .i64)).bind fun n16 =>
((cell h12 (List.length h3) 3).bind getS).bind fun l17 =>
some (.inl ([some (vP (List.length h)), some (vP (List.length h2)), some (vP (List.length h3)), some (.bool (decide (n16 ≥ ((l17.2 : Nat) : Int))))], h12)))).bind fun j14 => joinK j14 fun j14 =>
j_AAAB j14.1 fun d18 d19 d20 b21 =>
(if b21 = true then
(wr base j14.2 d19.block d19.off [(vI (0 : Int)), (vI (0 : Int)), (vT (⟨#[]⟩ : ByteArray)), (vL none 0)]).bind fun h22 =>
c_IITL h22 d19.block d19.off fun n23 n24 s25 l26 =>
some ((.tuple #[(.agg #[(vI n23), (vI n24), (vT s25), (vL l26.1 l26.2)]), (.bool false)]), h22)
else
((cell j14.2 d20.block (d20.off + 3)).bind getS).bind fun l27 =>
((cell j14.2 d18.block (d18.off + 4)).bind (getI .i64)).bind fun n28 =>
(if 0 ≤ n28 ∧ n28 < ((l27.2 : Nat) : Int) then
((l27.1 : Option Addr)).bind fun a29 =>
c_IITL j14.2 a29.block (a29.off + Int.toNat n28 * 4) fun n30 n31 s32 l33 =>
(run (Et base) 101 [(.agg #[(vI n30), (vI n31), (vT s32), (vL l33.1 l33.2)])] j14.2).bind fun r34 =>
gG (some r34.1) 4 fun l35 =>
l_IITL l35 fun n36 n37 s38 l39 =>
(wr base r34.2 d19.block d19.off [(vI n36), (vI n37), (vT s38), (vL l39.1 l39.2)]).bind fun h40 =>
c_IITL h40 d19.block d19.off fun n41 n42 s43 l44 =>
some ((.tuple #[(.agg #[(vI n41), (vI n42), (vT s43), (vL l44.1 l44.2)]), (.bool true)]), h40)
else none))
else
((if (n13 == (7 : Int)) = true then
some (.inl ([some (vP (List.length h)), some (vP (List.length h1)), some (vP (List.length h2)), some (vP (List.length h3)), some (.bool (n13 == (7 : Int)))], h12))
else
some (.inl ([some (vP (List.length h)), some (vP (List.length h1)), some (vP (List.length h2)), some (vP (List.length h3)), some (.bool (n13 == (8 : Int)))], h12)))).bind fun j45 => joinK j45 fun j45 =>
j_AAAAB j45.1 fun d46 d47 d48 d49 b50 =>
(if b50 = true then
(((cell j45.2 d49.block (d49.off + 0)).bind (getI .i64)).bind fun n52 =>
(if (n52 != (5 : Int)) = true then
some (.inl ([some (vA d46), some (vA d48), some (vA d49), some (.bool true)], j45.2))
else
((cell j45.2 d49.block (d49.off + 3)).bind getS).bind fun l53 =>
some (.inl ([some (vA d46), some (vA d48), some (vA d49), some (.bool (((l53.2 : Nat) : Int) == (0 : Int)))], j45.2)))).bind fun j51 => joinK j51 fun j51 =>
j_AAAB j51.1 fun d54 d55 d56 b57 =>
(if b57 = true then
(wr base j51.2 d55.block d55.off [(vI (0 : Int)), (vI (0 : Int)), (vT (⟨#[]⟩ : ByteArray)), (vL none 0)]).bind fun h58 =>
c_IITL h58 d55.block d55.off fun n59 n60 s61 l62 =>
some ((.tuple #[(.agg #[(vI n59), (vI n60), (vT s61), (vL l62.1 l62.2)]), (.bool false)]), h58)
else
((cell j51.2 d54.block (d54.off + 0)).bind (getI .i64)).bind fun n63 =>
(if (n63 == (7 : Int)) = true then
((cell j51.2 d56.block (d56.off + 3)).bind getS).bind fun l64 =>
(if 0 ≤ (0 : Int) ∧ (0 : Int) < ((l64.2 : Nat) : Int) then
((l64.1 : Option Addr)).bind fun a65 =>
c_IITL j51.2 a65.block (a65.off + Int.toNat (0 : Int) * 4) fun n66 n67 s68 l69 =>
(run (Et base) 101 [(.agg #[(vI n66), (vI n67), (vT s68), (vL l69.1 l69.2)])] j51.2).bind fun r70 =>
gG (some r70.1) 4 fun l71 =>
l_IITL l71 fun n72 n73 s74 l75 =>
(wr base r70.2 d55.block d55.off [(vI n72), (vI n73), (vT s74), (vL l75.1 l75.2)]).bind fun h76 =>
c_IITL h76 d55.block d55.off fun n77 n78 s79 l80 =>
some ((.tuple #[(.agg #[(vI n77), (vI n78), (vT s79), (vL l80.1 l80.2)]), (.bool true)]), h76)
else none)
else
((cell j51.2 d56.block (d56.off + 3)).bind getS).bind fun l81 =>
(if 0 ≤ (1 : Int) ∧ (1 : Int) ≤ ((l81.2 : Nat) : Int) ∧ ((l81.2 : Nat) : Int) ≤ ((l81.2 : Nat) : Int) ∧ okTy base j51.2 l81.1 38 (Int.toNat (1 : Int)) = true then
(run (Et base) 106 [(.slice (shiftA l81.1 (Int.toNat (1 : Int) * 4)) (Int.toNat ((l81.2 : Nat) : Int) - Int.toNat (1 : Int)) (Int.toNat ((l81.2 : Nat) : Int) - Int.toNat (1 : Int)))] j51.2).bind fun r82 =>
((some r82.1).bind getS).bind fun l83 =>
(wr base r82.2 d55.block d55.off [(vI (5 : Int)), (vI (0 : Int)), (vT (⟨#[]⟩ : ByteArray)), (vL l83.1 l83.2)]).bind fun h84 =>
c_IITL h84 d55.block d55.off fun n85 n86 s87 l88 =>
some ((.tuple #[(.agg #[(vI n85), (vI n86), (vT s87), (vL l88.1 l88.2)]), (.bool true)]), h84)
else none)))
else
((cell j45.2 d47.block (d47.off + 2)).bind getS).bind fun l89 =>
((cell j45.2 d46.block (d46.off + 3)).bind (getI .i64)).bind fun n90 =>
(if 0 ≤ n90 ∧ n90 < ((l89.2 : Nat) : Int) then
((l89.1 : Option Addr)).bind fun a91 =>
c_IITL j45.2 a91.block (a91.off + Int.toNat n90 * 4) fun n92 n93 s94 l95 =>
nw1 j45.2 38 [(vI 0), (vI 0), (vT ⟨#[]⟩), (vL none 0)] fun h96 =>
(wr base h96 (List.length j45.2) 0 [(vI n92), (vI n93), (vT s94), (vL l95.1 l95.2)]).bind fun h97 =>
((cell h97 d49.block (d49.off + 1)).bind (getI .i64)).bind fun n98 =>
((cell h97 (List.length j45.2) 1).bind (getI .i64)).bind fun n99 =>
(run (Et base) 102 [(vI (IntKind.wrap .i64 (n98 + n99)))] h97).bind fun r100 =>
gG (some r100.1) 4 fun l101 =>
l_IITL l101 fun n102 n103 s104 l105 =>
(gate (sameA h97 r100.2 (some ⟨d49.block, (d49.off + 0), none⟩) 1)
(((cell r100.2 d49.block (d49.off + 0)).bind (getI .i64)).bind fun n106 =>
(if (n106 == (1 : Int)) = true then
((cell r100.2 (List.length j45.2) 0).bind (getI .i64)).bind fun n107 =>
(wr base r100.2 d48.block d48.off [(vI n102), (vI n103), (vT s104), (vL l105.1 l105.2)]).bind fun h108 =>
(gate (sameA r100.2 h108 (some ⟨(List.length j45.2), 0, none⟩) 1)
(c_IITL h108 d48.block d48.off fun n109 n110 s111 l112 =>
some ((.tuple #[(.agg #[(vI n109), (vI n110), (vT s111), (vL l112.1 l112.2)]), (.bool (n107 == (1 : Int)))]), h108)))
else
(wr base r100.2 d48.block d48.off [(vI n102), (vI n103), (vT s104), (vL l105.1 l105.2)]).bind fun h113 =>
c_IITL h113 d48.block d48.off fun n114 n115 s116 l117 =>
some ((.tuple #[(.agg #[(vI n114), (vI n115), (vT s116), (vL l117.1 l117.2)]), (.bool false)]), h113))))
else none)))
else none)
theorem f133_eq (base : Nat) (v0_0 : Int) (v0_1 : Int) (v0_2 : Int) (v0_3 : Int) (v0_4 : Int) (v0_5 : ByteArray) (v1_0 : Int) (v1_1 : Int) (v1_2 : Option Addr) (v1_2n : Nat) (v1_3 : Option Addr) (v1_3n : Nat) (v1_4 : Option Addr) (v1_4n : Nat) (h : AH) : exFun (Et base) (run (Et base)) loopL a133 Try.f133 [(.agg #[(vI v0_0), (vI v0_1), (vI v0_2), (vI v0_3), (vI v0_4), (vT v0_5)]), (.agg #[(vI v1_0), (vI v1_1), (vL v1_2 v1_2n), (vL v1_3 v1_3n), (vL v1_4 v1_4n)])] h = qf133 base v0_0 v0_1 v0_2 v0_3 v0_4 v0_5 v1_0 v1_1 v1_2 v1_2n v1_3 v1_3n v1_4 v1_4n h := by kernel_rfl
theorem r133 {base : Nat} {v0_0 : Int} {v0_1 : Int} {v0_2 : Int} {v0_3 : Int} {v0_4 : Int} {v0_5 : ByteArray} {v1_0 : Int} {v1_1 : Int} {v1_2 : Option Addr} {v1_2n : Nat} {v1_3 : Option Addr} {v1_3n : Nat} {v1_4 : Option Addr} {v1_4n : Nat} {h : AH} {r : Value × AH} (hx : qf133 base v0_0 v0_1 v0_2 v0_3 v0_4 v0_5 v1_0 v1_1 v1_2 v1_2n v1_3 v1_3n v1_4 v1_4n h = some r) : run (Et base) 133 [(.agg #[(vI v0_0), (vI v0_1), (vI v0_2), (vI v0_3), (vI v0_4), (vT v0_5)]), (.agg #[(vI v1_0), (vI v1_1), (vL v1_2 v1_2n), (vL v1_3 v1_3n), (vL v1_4 v1_4n)])] h = some r := run_i Try.func133 (by kernel_rfl) ((f133_eq base v0_0 v0_1 v0_2 v0_3 v0_4 v0_5 v1_0 v1_1 v1_2 v1_2n v1_3 v1_3n v1_4 v1_4n h).trans hx)
/-! impl.fieldsOk (gates 0) -/
noncomputable abbrev qf134 (base : Nat) (v0_0 : Int) (v0_1 : Int) (v0_2 : ByteArray) (v0_3 : Option Addr) (v0_3n : Nat) (h : AH) : Option (Value × AH) :=
nw1 h 38 [(vI v0_0), (vI v0_1), (vT v0_2), (vL v0_3 v0_3n)] fun h1 =>
((cell h1 (List.length h) 0).bind (getI .i64)).bind fun n2 =>
(if (n2 == (1 : Int)) = true then
((cell h1 (List.length h) 1).bind (getI .i64)).bind fun n3 =>
(run (Et base) 66 [(vI n3), (vI (-1000000 : Int)), (vI (1000000 : Int))] h1).bind fun r4 =>
((some r4.1).bind getB).bind fun b5 =>
(if b5 = true then
((cell r4.2 (List.length h) 2).bind getStr).bind fun s6 =>
(if (s6.toList == (⟨#[]⟩ : ByteArray).toList) = true then
((cell r4.2 (List.length h) 3).bind getS).bind fun l7 =>
some ((.bool (((l7.2 : Nat) : Int) == (0 : Int))), r4.2)
else
some ((.bool false), r4.2))
else
some ((.bool false), r4.2))
else
(if (n2 == (2 : Int)) = true then
((cell h1 (List.length h) 1).bind (getI .i64)).bind fun n8 =>
(if (n8 == (0 : Int)) = true then
((cell h1 (List.length h) 2).bind getStr).bind fun s9 =>
(run (Et base) 148 [(vT s9)] h1).bind fun r10 =>
((some r10.1).bind getB).bind fun b11 =>
(if b11 = true then
((cell r10.2 (List.length h) 3).bind getS).bind fun l12 =>
some ((.bool (((l12.2 : Nat) : Int) == (0 : Int))), r10.2)
else
some ((.bool false), r10.2))
else
some ((.bool false), h1))
else
(if (n2 == (3 : Int)) = true then
((cell h1 (List.length h) 1).bind (getI .i64)).bind fun n13 =>
(run (Et base) 66 [(vI n13), (vI (0 : Int)), (vI (99999 : Int))] h1).bind fun r14 =>
((some r14.1).bind getB).bind fun b15 =>
(if b15 = true then
((cell r14.2 (List.length h) 2).bind getStr).bind fun s16 =>
(if (s16.toList == (⟨#[]⟩ : ByteArray).toList) = true then
((cell r14.2 (List.length h) 3).bind getS).bind fun l17 =>
some ((.bool (((l17.2 : Nat) : Int) == (0 : Int))), r14.2)
else
some ((.bool false), r14.2))
else
some ((.bool false), r14.2))
else
(if (n2 == (4 : Int)) = true then
((cell h1 (List.length h) 1).bind (getI .i64)).bind fun n18 =>
(if (n18 == (0 : Int)) = true then
((cell h1 (List.length h) 2).bind getStr).bind fun s19 =>
(if (s19.toList == (⟨#[]⟩ : ByteArray).toList) = true then
((cell h1 (List.length h) 3).bind getS).bind fun l20 =>
some ((.bool (decide (((l20.2 : Nat) : Int) ≤ (8 : Int)))), h1)
else
some ((.bool false), h1))
else
some ((.bool false), h1))
else
(if (n2 == (5 : Int)) = true then
((cell h1 (List.length h) 1).bind (getI .i64)).bind fun n21 =>
(if (n21 == (0 : Int)) = true then
((cell h1 (List.length h) 2).bind getStr).bind fun s22 =>
(if (s22.toList == (⟨#[]⟩ : ByteArray).toList) = true then
((cell h1 (List.length h) 3).bind getS).bind fun l23 =>
some ((.bool (decide (((l23.2 : Nat) : Int) ≤ (20 : Int)))), h1)
else
some ((.bool false), h1))
else
some ((.bool false), h1))
else
(if (n2 == (6 : Int)) = true then
((cell h1 (List.length h) 1).bind (getI .i64)).bind fun n24 =>
(if (n24 == (0 : Int)) = true then
((cell h1 (List.length h) 2).bind getStr).bind fun s25 =>
(if (decide ((s25.size : Int) ≤ (40 : Int))) = true then
((cell h1 (List.length h) 3).bind getS).bind fun l26 =>
some ((.bool (((l26.2 : Nat) : Int) == (0 : Int))), h1)
else
some ((.bool false), h1))
else
some ((.bool false), h1))
else
some ((.bool false), h1)))))))
theorem f134_eq (base : Nat) (v0_0 : Int) (v0_1 : Int) (v0_2 : ByteArray) (v0_3 : Option Addr) (v0_3n : Nat) (h : AH) : exFun (Et base) (run (Et base)) loopL a134 Try.f134 [(.agg #[(vI v0_0), (vI v0_1), (vT v0_2), (vL v0_3 v0_3n)])] h = qf134 base v0_0 v0_1 v0_2 v0_3 v0_3n h := by kernel_rfl
theorem r134 {base : Nat} {v0_0 : Int} {v0_1 : Int} {v0_2 : ByteArray} {v0_3 : Option Addr} {v0_3n : Nat} {h : AH} {r : Value × AH} (hx : qf134 base v0_0 v0_1 v0_2 v0_3 v0_3n h = some r) : run (Et base) 134 [(.agg #[(vI v0_0), (vI v0_1), (vT v0_2), (vL v0_3 v0_3n)])] h = some r := run_i Try.func134 (by kernel_rfl) ((f134_eq base v0_0 v0_1 v0_2 v0_3 v0_3n h).trans hx)
/-! impl.onlyNamed (gates 0) -/
noncomputable abbrev qf146 (base : Nat) (v0_0 : Int) (v0_1 : Int) (v0_2 : Int) (v0_3 : Int) (v0_4 : Int) (v0_5 : ByteArray) (h : AH) : Option (Value × AH) :=
nw1 h 82 [(vI v0_0), (vI v0_1), (vI v0_2), (vI v0_3), (vI v0_4), (vT v0_5)] fun h1 =>
((cell h1 (List.length h) 0).bind (getI .i64)).bind fun n2 =>
(run (Et base) 160 [(vI n2)] h1).bind fun r3 =>
((some r3.1).bind getStr).bind fun s4 =>
nw1 r3.2 9 [(vT ⟨#[]⟩)] fun h5 =>
(wr base h5 (List.length r3.2) 0 [(vT s4)]).bind fun h6 =>
((cell h6 (List.length r3.2) 0).bind getStr).bind fun s7 =>
(if (!(s7.toList == (⟨#[]⟩ : ByteArray).toList)) = true then
((run (Et base) 161 [(.int .u8 (65 : Int)), (vP (List.length r3.2))] h6).bind fun r9 =>
((some r9.1).bind getB).bind fun b10 =>
some ((.bool b10), r9.2)).bind fun r8 =>
((some r8.1).bind getB).bind fun b11 =>
(if b11 = true then
((run (Et base) 161 [(.int .u8 (66 : Int)), (vP (List.length r3.2))] r8.2).bind fun r13 =>
((some r13.1).bind getB).bind fun b14 =>
some ((.bool b14), r13.2)).bind fun r12 =>
((some r12.1).bind getB).bind fun b15 =>
(if b15 = true then
((run (Et base) 161 [(.int .u8 (67 : Int)), (vP (List.length r3.2))] r12.2).bind fun r17 =>
((some r17.1).bind getB).bind fun b18 =>
some ((.bool b18), r17.2)).bind fun r16 =>
((some r16.1).bind getB).bind fun b19 =>
(if b19 = true then
((run (Et base) 161 [(.int .u8 (78 : Int)), (vP (List.length r3.2))] r16.2).bind fun r21 =>
((some r21.1).bind getB).bind fun b22 =>
some ((.bool b22), r21.2)).bind fun r20 =>
((some r20.1).bind getB).bind fun b23 =>
(if b23 = true then
((run (Et base) 161 [(.int .u8 (83 : Int)), (vP (List.length r3.2))] r20.2).bind fun r25 =>
((some r25.1).bind getB).bind fun b26 =>
some ((.bool b26), r25.2)).bind fun r24 =>
((some r24.1).bind getB).bind fun b27 =>
(if b27 = true then
some ((.bool true), r24.2)
else
((cell r24.2 (List.length h) 5).bind getStr).bind fun s28 =>
some ((.bool (s28.toList == (⟨#[]⟩ : ByteArray).toList)), r24.2))
else
((cell r20.2 (List.length h) 4).bind (getI .i64)).bind fun n29 =>
(if (n29 == (0 : Int)) = true then
((run (Et base) 161 [(.int .u8 (83 : Int)), (vP (List.length r3.2))] r20.2).bind fun r31 =>
((some r31.1).bind getB).bind fun b32 =>
some ((.bool b32), r31.2)).bind fun r30 =>
((some r30.1).bind getB).bind fun b33 =>
(if b33 = true then
some ((.bool true), r30.2)
else
((cell r30.2 (List.length h) 5).bind getStr).bind fun s34 =>
some ((.bool (s34.toList == (⟨#[]⟩ : ByteArray).toList)), r30.2))
else
some ((.bool false), r20.2)))
else
((cell r16.2 (List.length h) 3).bind (getI .i64)).bind fun n35 =>
(if (n35 == (0 : Int)) = true then
((run (Et base) 161 [(.int .u8 (78 : Int)), (vP (List.length r3.2))] r16.2).bind fun r37 =>
((some r37.1).bind getB).bind fun b38 =>
some ((.bool b38), r37.2)).bind fun r36 =>
((some r36.1).bind getB).bind fun b39 =>
(if b39 = true then
((run (Et base) 161 [(.int .u8 (83 : Int)), (vP (List.length r3.2))] r36.2).bind fun r41 =>
((some r41.1).bind getB).bind fun b42 =>
some ((.bool b42), r41.2)).bind fun r40 =>
((some r40.1).bind getB).bind fun b43 =>
(if b43 = true then
some ((.bool true), r40.2)
else
((cell r40.2 (List.length h) 5).bind getStr).bind fun s44 =>
some ((.bool (s44.toList == (⟨#[]⟩ : ByteArray).toList)), r40.2))
else
((cell r36.2 (List.length h) 4).bind (getI .i64)).bind fun n45 =>
(if (n45 == (0 : Int)) = true then
((run (Et base) 161 [(.int .u8 (83 : Int)), (vP (List.length r3.2))] r36.2).bind fun r47 =>
((some r47.1).bind getB).bind fun b48 =>
some ((.bool b48), r47.2)).bind fun r46 =>
((some r46.1).bind getB).bind fun b49 =>
(if b49 = true then
some ((.bool true), r46.2)
else
((cell r46.2 (List.length h) 5).bind getStr).bind fun s50 =>
some ((.bool (s50.toList == (⟨#[]⟩ : ByteArray).toList)), r46.2))
else
some ((.bool false), r36.2)))
else
some ((.bool false), r16.2)))
else
((cell r12.2 (List.length h) 2).bind (getI .i64)).bind fun n51 =>
(if (n51 == (0 : Int)) = true then
((run (Et base) 161 [(.int .u8 (67 : Int)), (vP (List.length r3.2))] r12.2).bind fun r53 =>
((some r53.1).bind getB).bind fun b54 =>
some ((.bool b54), r53.2)).bind fun r52 =>
((some r52.1).bind getB).bind fun b55 =>
(if b55 = true then
((run (Et base) 161 [(.int .u8 (78 : Int)), (vP (List.length r3.2))] r52.2).bind fun r57 =>
((some r57.1).bind getB).bind fun b58 =>
some ((.bool b58), r57.2)).bind fun r56 =>
((some r56.1).bind getB).bind fun b59 =>
(if b59 = true then
((run (Et base) 161 [(.int .u8 (83 : Int)), (vP (List.length r3.2))] r56.2).bind fun r61 =>
((some r61.1).bind getB).bind fun b62 =>
some ((.bool b62), r61.2)).bind fun r60 =>
((some r60.1).bind getB).bind fun b63 =>
(if b63 = true then
some ((.bool true), r60.2)
else
((cell r60.2 (List.length h) 5).bind getStr).bind fun s64 =>
some ((.bool (s64.toList == (⟨#[]⟩ : ByteArray).toList)), r60.2))
else
((cell r56.2 (List.length h) 4).bind (getI .i64)).bind fun n65 =>
(if (n65 == (0 : Int)) = true then
((run (Et base) 161 [(.int .u8 (83 : Int)), (vP (List.length r3.2))] r56.2).bind fun r67 =>
((some r67.1).bind getB).bind fun b68 =>
some ((.bool b68), r67.2)).bind fun r66 =>
((some r66.1).bind getB).bind fun b69 =>
(if b69 = true then
some ((.bool true), r66.2)
else
((cell r66.2 (List.length h) 5).bind getStr).bind fun s70 =>
some ((.bool (s70.toList == (⟨#[]⟩ : ByteArray).toList)), r66.2))
else
some ((.bool false), r56.2)))
else
((cell r52.2 (List.length h) 3).bind (getI .i64)).bind fun n71 =>
(if (n71 == (0 : Int)) = true then
((run (Et base) 161 [(.int .u8 (78 : Int)), (vP (List.length r3.2))] r52.2).bind fun r73 =>
((some r73.1).bind getB).bind fun b74 =>
some ((.bool b74), r73.2)).bind fun r72 =>
((some r72.1).bind getB).bind fun b75 =>
(if b75 = true then
((run (Et base) 161 [(.int .u8 (83 : Int)), (vP (List.length r3.2))] r72.2).bind fun r77 =>
((some r77.1).bind getB).bind fun b78 =>
some ((.bool b78), r77.2)).bind fun r76 =>
((some r76.1).bind getB).bind fun b79 =>
(if b79 = true then
some ((.bool true), r76.2)
else
((cell r76.2 (List.length h) 5).bind getStr).bind fun s80 =>
some ((.bool (s80.toList == (⟨#[]⟩ : ByteArray).toList)), r76.2))
else
((cell r72.2 (List.length h) 4).bind (getI .i64)).bind fun n81 =>
(if (n81 == (0 : Int)) = true then
((run (Et base) 161 [(.int .u8 (83 : Int)), (vP (List.length r3.2))] r72.2).bind fun r83 =>
((some r83.1).bind getB).bind fun b84 =>
some ((.bool b84), r83.2)).bind fun r82 =>
((some r82.1).bind getB).bind fun b85 =>
(if b85 = true then
some ((.bool true), r82.2)
else
((cell r82.2 (List.length h) 5).bind getStr).bind fun s86 =>
some ((.bool (s86.toList == (⟨#[]⟩ : ByteArray).toList)), r82.2))
else
some ((.bool false), r72.2)))
else
some ((.bool false), r52.2)))
else
some ((.bool false), r12.2)))
else
((cell r8.2 (List.length h) 1).bind (getI .i64)).bind fun n87 =>
(if (n87 == (0 : Int)) = true then
((run (Et base) 161 [(.int .u8 (66 : Int)), (vP (List.length r3.2))] r8.2).bind fun r89 =>
((some r89.1).bind getB).bind fun b90 =>
some ((.bool b90), r89.2)).bind fun r88 =>
((some r88.1).bind getB).bind fun b91 =>
(if b91 = true then
((run (Et base) 161 [(.int .u8 (67 : Int)), (vP (List.length r3.2))] r88.2).bind fun r93 =>
((some r93.1).bind getB).bind fun b94 =>
some ((.bool b94), r93.2)).bind fun r92 =>
((some r92.1).bind getB).bind fun b95 =>
(if b95 = true then
((run (Et base) 161 [(.int .u8 (78 : Int)), (vP (List.length r3.2))] r92.2).bind fun r97 =>
((some r97.1).bind getB).bind fun b98 =>
some ((.bool b98), r97.2)).bind fun r96 =>
((some r96.1).bind getB).bind fun b99 =>
(if b99 = true then
((run (Et base) 161 [(.int .u8 (83 : Int)), (vP (List.length r3.2))] r96.2).bind fun r101 =>
((some r101.1).bind getB).bind fun b102 =>
some ((.bool b102), r101.2)).bind fun r100 =>
((some r100.1).bind getB).bind fun b103 =>
(if b103 = true then
some ((.bool true), r100.2)
else
((cell r100.2 (List.length h) 5).bind getStr).bind fun s104 =>
some ((.bool (s104.toList == (⟨#[]⟩ : ByteArray).toList)), r100.2))
else
((cell r96.2 (List.length h) 4).bind (getI .i64)).bind fun n105 =>
(if (n105 == (0 : Int)) = true then
((run (Et base) 161 [(.int .u8 (83 : Int)), (vP (List.length r3.2))] r96.2).bind fun r107 =>
((some r107.1).bind getB).bind fun b108 =>
some ((.bool b108), r107.2)).bind fun r106 =>
((some r106.1).bind getB).bind fun b109 =>
(if b109 = true then
some ((.bool true), r106.2)
else
((cell r106.2 (List.length h) 5).bind getStr).bind fun s110 =>
some ((.bool (s110.toList == (⟨#[]⟩ : ByteArray).toList)), r106.2))
else
some ((.bool false), r96.2)))
else
((cell r92.2 (List.length h) 3).bind (getI .i64)).bind fun n111 =>
(if (n111 == (0 : Int)) = true then
((run (Et base) 161 [(.int .u8 (78 : Int)), (vP (List.length r3.2))] r92.2).bind fun r113 =>
((some r113.1).bind getB).bind fun b114 =>
some ((.bool b114), r113.2)).bind fun r112 =>
((some r112.1).bind getB).bind fun b115 =>
(if b115 = true then
((run (Et base) 161 [(.int .u8 (83 : Int)), (vP (List.length r3.2))] r112.2).bind fun r117 =>
((some r117.1).bind getB).bind fun b118 =>
some ((.bool b118), r117.2)).bind fun r116 =>
((some r116.1).bind getB).bind fun b119 =>
(if b119 = true then
some ((.bool true), r116.2)
else
((cell r116.2 (List.length h) 5).bind getStr).bind fun s120 =>
some ((.bool (s120.toList == (⟨#[]⟩ : ByteArray).toList)), r116.2))
else
((cell r112.2 (List.length h) 4).bind (getI .i64)).bind fun n121 =>
(if (n121 == (0 : Int)) = true then
((run (Et base) 161 [(.int .u8 (83 : Int)), (vP (List.length r3.2))] r112.2).bind fun r123 =>
((some r123.1).bind getB).bind fun b124 =>
some ((.bool b124), r123.2)).bind fun r122 =>
((some r122.1).bind getB).bind fun b125 =>
(if b125 = true then
some ((.bool true), r122.2)
else
((cell r122.2 (List.length h) 5).bind getStr).bind fun s126 =>
some ((.bool (s126.toList == (⟨#[]⟩ : ByteArray).toList)), r122.2))
else
some ((.bool false), r112.2)))
else
some ((.bool false), r92.2)))
else
((cell r88.2 (List.length h) 2).bind (getI .i64)).bind fun n127 =>
(if (n127 == (0 : Int)) = true then
((run (Et base) 161 [(.int .u8 (67 : Int)), (vP (List.length r3.2))] r88.2).bind fun r129 =>
((some r129.1).bind getB).bind fun b130 =>
some ((.bool b130), r129.2)).bind fun r128 =>
((some r128.1).bind getB).bind fun b131 =>
(if b131 = true then
((run (Et base) 161 [(.int .u8 (78 : Int)), (vP (List.length r3.2))] r128.2).bind fun r133 =>
((some r133.1).bind getB).bind fun b134 =>
some ((.bool b134), r133.2)).bind fun r132 =>
((some r132.1).bind getB).bind fun b135 =>
(if b135 = true then
((run (Et base) 161 [(.int .u8 (83 : Int)), (vP (List.length r3.2))] r132.2).bind fun r137 =>
((some r137.1).bind getB).bind fun b138 =>
some ((.bool b138), r137.2)).bind fun r136 =>
((some r136.1).bind getB).bind fun b139 =>
(if b139 = true then
some ((.bool true), r136.2)
else
((cell r136.2 (List.length h) 5).bind getStr).bind fun s140 =>
some ((.bool (s140.toList == (⟨#[]⟩ : ByteArray).toList)), r136.2))
else
((cell r132.2 (List.length h) 4).bind (getI .i64)).bind fun n141 =>
(if (n141 == (0 : Int)) = true then
((run (Et base) 161 [(.int .u8 (83 : Int)), (vP (List.length r3.2))] r132.2).bind fun r143 =>
((some r143.1).bind getB).bind fun b144 =>
some ((.bool b144), r143.2)).bind fun r142 =>
((some r142.1).bind getB).bind fun b145 =>
(if b145 = true then
some ((.bool true), r142.2)
else
((cell r142.2 (List.length h) 5).bind getStr).bind fun s146 =>
some ((.bool (s146.toList == (⟨#[]⟩ : ByteArray).toList)), r142.2))
else
some ((.bool false), r132.2)))
else
((cell r128.2 (List.length h) 3).bind (getI .i64)).bind fun n147 =>
(if (n147 == (0 : Int)) = true then
((run (Et base) 161 [(.int .u8 (78 : Int)), (vP (List.length r3.2))] r128.2).bind fun r149 =>
((some r149.1).bind getB).bind fun b150 =>
some ((.bool b150), r149.2)).bind fun r148 =>
((some r148.1).bind getB).bind fun b151 =>
(if b151 = true then
((run (Et base) 161 [(.int .u8 (83 : Int)), (vP (List.length r3.2))] r148.2).bind fun r153 =>
((some r153.1).bind getB).bind fun b154 =>
some ((.bool b154), r153.2)).bind fun r152 =>
((some r152.1).bind getB).bind fun b155 =>
(if b155 = true then
some ((.bool true), r152.2)
else
((cell r152.2 (List.length h) 5).bind getStr).bind fun s156 =>
some ((.bool (s156.toList == (⟨#[]⟩ : ByteArray).toList)), r152.2))
else
((cell r148.2 (List.length h) 4).bind (getI .i64)).bind fun n157 =>
(if (n157 == (0 : Int)) = true then
((run (Et base) 161 [(.int .u8 (83 : Int)), (vP (List.length r3.2))] r148.2).bind fun r159 =>
((some r159.1).bind getB).bind fun b160 =>
some ((.bool b160), r159.2)).bind fun r158 =>
((some r158.1).bind getB).bind fun b161 =>
(if b161 = true then
some ((.bool true), r158.2)
else
((cell r158.2 (List.length h) 5).bind getStr).bind fun s162 =>
some ((.bool (s162.toList == (⟨#[]⟩ : ByteArray).toList)), r158.2))
else
some ((.bool false), r148.2)))
else
some ((.bool false), r128.2)))
else
some ((.bool false), r88.2)))
else
some ((.bool false), r8.2)))
else
some ((.bool false), h6))
theorem f146_eq (base : Nat) (v0_0 : Int) (v0_1 : Int) (v0_2 : Int) (v0_3 : Int) (v0_4 : Int) (v0_5 : ByteArray) (h : AH) : exFun (Et base) (run (Et base)) loopL a146 Try.f146 [(.agg #[(vI v0_0), (vI v0_1), (vI v0_2), (vI v0_3), (vI v0_4), (vT v0_5)])] h = qf146 base v0_0 v0_1 v0_2 v0_3 v0_4 v0_5 h := by kernel_rfl
theorem r146 {base : Nat} {v0_0 : Int} {v0_1 : Int} {v0_2 : Int} {v0_3 : Int} {v0_4 : Int} {v0_5 : ByteArray} {h : AH} {r : Value × AH} (hx : qf146 base v0_0 v0_1 v0_2 v0_3 v0_4 v0_5 h = some r) : run (Et base) 146 [(.agg #[(vI v0_0), (vI v0_1), (vI v0_2), (vI v0_3), (vI v0_4), (vT v0_5)])] h = some r := run_i Try.func146 (by kernel_rfl) ((f146_eq base v0_0 v0_1 v0_2 v0_3 v0_4 v0_5 h).trans hx)
/-! impl.isReg (gates 0) -/
theorem f147_eq (base : Nat) (v0 : Int) (h : AH) : exFun (Et base) (run (Et base)) loopL a147 Try.f147 [(vI v0)] h =
((run (Et base) 66 [(.int .i64 v0), (.int .i64 (0 : Int)), (.int .i64 (7 : Int))] h).bind fun r1 =>
((some r1.1).bind getB).bind fun b2 =>
some ((.bool b2), r1.2) : Option (Value × AH)) := by kernel_rfl
theorem r147 {base : Nat} {v0 : Int} {h : AH} {r : Value × AH} (hx : ((run (Et base) 66 [(.int .i64 v0), (.int .i64 (0 : Int)), (.int .i64 (7 : Int))] h).bind fun r1 =>
((some r1.1).bind getB).bind fun b2 =>
some ((.bool b2), r1.2)) = some r) : run (Et base) 147 [(vI v0)] h = some r := run_i Try.func147 (by kernel_rfl) ((f147_eq base v0 h).trans hx)
/-! impl.AtomOk (gates 0) -/
noncomputable def B148_0 (base : Nat) : Body := fun l h => lay s148_0 l fun s => exCode (Et base) (run (Et base)) loopL a148_0 (subC [1, 0, 1, 0, 0] (bodyC Try.f148)) s h (keepK s148_0 e148_0)
theorem B148_0_eq (base : Nat) (v0 : ByteArray) (v3 : Int) (h : AH) : B148_0 base [some (vT v0), some (vI v3)] h =
((if (decide (v3 < (v0.size : Int))) = true then
((if 0 ≤ v3 ∧ v3 < (v0.size : Int) then
(run (Et base) 163 [(.int .u8 ((v0.data.toList.getD (Int.toNat v3) 0).toNat : Int))] h).bind fun r2 =>
((some r2.1).bind getB).bind fun b3 =>
(if (!b3) = true then
(if (v3 == (0 : Int)) = true then
some (.inl ([some (.string v0), some (.int .i64 v3), some (.bool true)], r2.2))
else
(if 0 ≤ v3 ∧ v3 < (v0.size : Int) then
(run (Et base) 164 [(.int .u8 ((v0.data.toList.getD (Int.toNat v3) 0).toNat : Int))] r2.2).bind fun r4 =>
((some r4.1).bind getB).bind fun b5 =>
some (.inl ([some (.string v0), some (.int .i64 v3), some (.bool (!b5))], r4.2))
else none))
else
some (.inl ([some (.string v0), some (.int .i64 v3), some (.bool false)], r2.2)))
else none)).bind fun j1 => joinK j1 fun j1 =>
((sget j1.1 0).bind getStr).bind fun s6 =>
((sget (j1.1.tail) 0).bind (getI .i64)).bind fun n7 =>
((sget (j1.1.tail.tail) 0).bind getB).bind fun b8 =>
(if b8 = true then
some (1, [some (.bool false)], j1.2)
else
some (0, [some (.string s6), some (.int .i64 (IntKind.wrap .i64 (n7 + (1 : Int))))], j1.2))
else
some (2, [some (.string v0)], h)) : Option (Nat × Slots × AH)) := by kernel_rfl
theorem f148_eq (base : Nat) (v0 : ByteArray) (h : AH) : exFun (Et base) (run (Et base)) loopL a148 Try.f148 [(vT v0)] h =
((loopL (B148_0 base) [some (.string v0), some (.int .i64 (0 : Int))] h).bind fun q1 =>
(if q1.1 = 1 then
((sget q1.2.1 0).bind getB).bind fun b2 =>
some ((.bool b2), q1.2.2)
else
(if q1.1 = 2 then
((sget q1.2.1 0).bind getStr).bind fun s3 =>
(run (Et base) 66 [(.int .i64 (s3.size : Int)), (.int .i64 (1 : Int)), (.int .i64 (12 : Int))] q1.2.2).bind fun r4 =>
((some r4.1).bind getB).bind fun b5 =>
some ((.bool b5), r4.2)
else
none)) : Option (Value × AH)) := by kernel_rfl
theorem r148 {base : Nat} {v0 : ByteArray} {h : AH} {r : Value × AH} (hx : ((loopL (B148_0 base) [some (.string v0), some (.int .i64 (0 : Int))] h).bind fun q1 =>
(if q1.1 = 1 then
((sget q1.2.1 0).bind getB).bind fun b2 =>
some ((.bool b2), q1.2.2)
else
(if q1.1 = 2 then
((sget q1.2.1 0).bind getStr).bind fun s3 =>
(run (Et base) 66 [(.int .i64 (s3.size : Int)), (.int .i64 (1 : Int)), (.int .i64 (12 : Int))] q1.2.2).bind fun r4 =>
((some r4.1).bind getB).bind fun b5 =>
some ((.bool b5), r4.2)
else
none))) = some r) : run (Et base) 148 [(vT v0)] h = some r := run_i Try.func148 (by kernel_rfl) ((f148_eq base v0 h).trans hx)
/-! spec.l8Uses (gates 0) -/
theorem f149_eq (base : Nat)  (h : AH) : exFun (Et base) (run (Et base)) loopL a149 Try.f149 [] h =
((some (h ++ [some ⟨[(.string (⟨#[65, 78]⟩ : ByteArray)), (.string (⟨#[65, 83]⟩ : ByteArray)), (.string (⟨#[65, 66]⟩ : ByteArray)), (.string (⟨#[65, 66, 78]⟩ : ByteArray)), (.string (⟨#[65, 66, 67]⟩ : ByteArray)), (.string (⟨#[65, 66, 78]⟩ : ByteArray)), (.string (⟨#[65, 66]⟩ : ByteArray)), (.string (⟨#[65, 66]⟩ : ByteArray)), (.string (⟨#[65, 66, 67]⟩ : ByteArray)), (.string (⟨#[65, 66, 78]⟩ : ByteArray)), (.string (⟨#[65, 66, 78]⟩ : ByteArray)), (.string (⟨#[78]⟩ : ByteArray)), (.string (⟨#[65, 66]⟩ : ByteArray)), (.string (⟨#[65]⟩ : ByteArray)), (.string (⟨#[65]⟩ : ByteArray)), (.string (⟨#[65, 66, 78]⟩ : ByteArray)), (.string (⟨#[65]⟩ : ByteArray)), (.string (⟨#[65]⟩ : ByteArray)), (.string (⟨#[65]⟩ : ByteArray)), (.string (⟨#[65]⟩ : ByteArray))], 9⟩])).bind fun h1 =>
some ((.slice (some ⟨(List.length h), 0, none⟩) 20 20), h1) : Option (Value × AH)) := by kernel_rfl
theorem r149 {base : Nat}  {h : AH} {r : Value × AH} (hx : ((some (h ++ [some ⟨[(.string (⟨#[65, 78]⟩ : ByteArray)), (.string (⟨#[65, 83]⟩ : ByteArray)), (.string (⟨#[65, 66]⟩ : ByteArray)), (.string (⟨#[65, 66, 78]⟩ : ByteArray)), (.string (⟨#[65, 66, 67]⟩ : ByteArray)), (.string (⟨#[65, 66, 78]⟩ : ByteArray)), (.string (⟨#[65, 66]⟩ : ByteArray)), (.string (⟨#[65, 66]⟩ : ByteArray)), (.string (⟨#[65, 66, 67]⟩ : ByteArray)), (.string (⟨#[65, 66, 78]⟩ : ByteArray)), (.string (⟨#[65, 66, 78]⟩ : ByteArray)), (.string (⟨#[78]⟩ : ByteArray)), (.string (⟨#[65, 66]⟩ : ByteArray)), (.string (⟨#[65]⟩ : ByteArray)), (.string (⟨#[65]⟩ : ByteArray)), (.string (⟨#[65, 66, 78]⟩ : ByteArray)), (.string (⟨#[65]⟩ : ByteArray)), (.string (⟨#[65]⟩ : ByteArray)), (.string (⟨#[65]⟩ : ByteArray)), (.string (⟨#[65]⟩ : ByteArray))], 9⟩])).bind fun h1 =>
some ((.slice (some ⟨(List.length h), 0, none⟩) 20 20), h1)) = some r) : run (Et base) 149 [] h = some r := run_i Try.func149 (by kernel_rfl) ((f149_eq base  h).trans hx)
/-! spec.l8Reg (gates 0) -/
theorem f150_eq (base : Nat) (v0 : ByteArray) (v1 : Int) (v2 : Int) (h : AH) : exFun (Et base) (run (Et base)) loopL a150 Try.f150 [(vT v0), (.int .u8 v1), (vI v2)] h =
((run (Et base) 156 [(.string v0), (.int .u8 v1)] h).bind fun r1 =>
((some r1.1).bind getB).bind fun b2 =>
(if (!b2) = true then
some ((.bool (v2 == (0 : Int))), r1.2)
else
(run (Et base) 61 [(.int .i64 v2), (.int .i64 (0 : Int)), (.int .i64 (7 : Int))] r1.2).bind fun r3 =>
((some r3.1).bind getB).bind fun b4 =>
some ((.bool b4), r3.2)) : Option (Value × AH)) := by kernel_rfl
theorem r150 {base : Nat} {v0 : ByteArray} {v1 : Int} {v2 : Int} {h : AH} {r : Value × AH} (hx : ((run (Et base) 156 [(.string v0), (.int .u8 v1)] h).bind fun r1 =>
((some r1.1).bind getB).bind fun b2 =>
(if (!b2) = true then
some ((.bool (v2 == (0 : Int))), r1.2)
else
(run (Et base) 61 [(.int .i64 v2), (.int .i64 (0 : Int)), (.int .i64 (7 : Int))] r1.2).bind fun r3 =>
((some r3.1).bind getB).bind fun b4 =>
some ((.bool b4), r3.2))) = some r) : run (Et base) 150 [(vT v0), (.int .u8 v1), (vI v2)] h = some r := run_i Try.func150 (by kernel_rfl) ((f150_eq base v0 v1 v2 h).trans hx)
/-! spec.AtomOk (gates 0) -/
noncomputable def B151_0 (base : Nat) : Body := fun l h => lay s151_0 l fun s => exCode (Et base) (run (Et base)) loopL a151_0 (subC [1, 0, 1, 0, 0] (bodyC Try.f151)) s h (keepK s151_0 e151_0)
theorem B151_0_eq (base : Nat) (v0 : ByteArray) (v3 : Int) (h : AH) : B151_0 base [some (vT v0), some (vI v3)] h =
((if (decide (v3 < (v0.size : Int))) = true then
(if 0 ≤ v3 ∧ v3 < (v0.size : Int) then
(run (Et base) 61 [(.int .i64 (IntKind.wrap .i64 ((v0.data.toList.getD (Int.toNat v3) 0).toNat : Int))), (.int .i64 (97 : Int)), (.int .i64 (122 : Int))] h).bind fun r1 =>
((some r1.1).bind getB).bind fun b2 =>
((if (!b2) = true then
(if (v3 == (0 : Int)) = true then
some (.inl ([some (.string v0), some (.int .i64 v3), some (.bool true)], r1.2))
else
(if 0 ≤ v3 ∧ v3 < (v0.size : Int) then
(run (Et base) 61 [(.int .i64 (IntKind.wrap .i64 ((v0.data.toList.getD (Int.toNat v3) 0).toNat : Int))), (.int .i64 (48 : Int)), (.int .i64 (57 : Int))] r1.2).bind fun r4 =>
((some r4.1).bind getB).bind fun b5 =>
some (.inl ([some (.string v0), some (.int .i64 v3), some (.bool (!b5))], r4.2))
else none))
else
some (.inl ([some (.string v0), some (.int .i64 v3), some (.bool false)], r1.2)))).bind fun j3 => joinK j3 fun j3 =>
((sget j3.1 0).bind getStr).bind fun s6 =>
((sget (j3.1.tail) 0).bind (getI .i64)).bind fun n7 =>
((sget (j3.1.tail.tail) 0).bind getB).bind fun b8 =>
(if b8 = true then
some (1, [some (.bool false)], j3.2)
else
some (0, [some (.string s6), some (.int .i64 (IntKind.wrap .i64 (n7 + (1 : Int))))], j3.2))
else none)
else
some (2, [some (.string v0)], h)) : Option (Nat × Slots × AH)) := by kernel_rfl
theorem f151_eq (base : Nat) (v0 : ByteArray) (h : AH) : exFun (Et base) (run (Et base)) loopL a151 Try.f151 [(vT v0)] h =
((loopL (B151_0 base) [some (.string v0), some (.int .i64 (0 : Int))] h).bind fun q1 =>
(if q1.1 = 1 then
((sget q1.2.1 0).bind getB).bind fun b2 =>
some ((.bool b2), q1.2.2)
else
(if q1.1 = 2 then
((sget q1.2.1 0).bind getStr).bind fun s3 =>
(run (Et base) 61 [(.int .i64 (s3.size : Int)), (.int .i64 (1 : Int)), (.int .i64 (12 : Int))] q1.2.2).bind fun r4 =>
((some r4.1).bind getB).bind fun b5 =>
some ((.bool b5), r4.2)
else
none)) : Option (Value × AH)) := by kernel_rfl
theorem r151 {base : Nat} {v0 : ByteArray} {h : AH} {r : Value × AH} (hx : ((loopL (B151_0 base) [some (.string v0), some (.int .i64 (0 : Int))] h).bind fun q1 =>
(if q1.1 = 1 then
((sget q1.2.1 0).bind getB).bind fun b2 =>
some ((.bool b2), q1.2.2)
else
(if q1.1 = 2 then
((sget q1.2.1 0).bind getStr).bind fun s3 =>
(run (Et base) 61 [(.int .i64 (s3.size : Int)), (.int .i64 (1 : Int)), (.int .i64 (12 : Int))] q1.2.2).bind fun r4 =>
((some r4.1).bind getB).bind fun b5 =>
some ((.bool b5), r4.2)
else
none))) = some r) : run (Et base) 151 [(vT v0)] h = some r := run_i Try.func151 (by kernel_rfl) ((f151_eq base v0 h).trans hx)
/-! spec.l8Num (gates 0) -/
theorem f152_eq (base : Nat) (v0_0 : Int) (v0_1 : Int) (v0_2 : Int) (v0_3 : Int) (v0_4 : Int) (v0_5 : ByteArray) (v1 : Int) (h : AH) : exFun (Et base) (run (Et base)) loopL a152 Try.f152 [(.agg #[(vI v0_0), (vI v0_1), (vI v0_2), (vI v0_3), (vI v0_4), (vT v0_5)]), (vI v1)] h =
(nw1 h 82 [(vI v0_0), (vI v0_1), (vI v0_2), (vI v0_3), (vI v0_4), (vT v0_5)] fun h1 =>
((cell h1 (List.length h) 0).bind (getI .i64)).bind fun n2 =>
(if (n2 == (1 : Int)) = true then
((cell h1 (List.length h) 4).bind (getI .i64)).bind fun n3 =>
(run (Et base) 61 [(vI n3), (vI (-1000000 : Int)), (vI (1000000 : Int))] h1).bind fun r4 =>
((some r4.1).bind getB).bind fun b5 =>
some ((.bool b5), r4.2)
else
(if (n2 == (4 : Int)) = true then
((cell h1 (List.length h) 4).bind (getI .i64)).bind fun n6 =>
(run (Et base) 61 [(vI n6), (vI (0 : Int)), (vI (8 : Int))] h1).bind fun r7 =>
((some r7.1).bind getB).bind fun b8 =>
(if b8 = true then
((cell r7.2 (List.length h) 2).bind (getI .i64)).bind fun n9 =>
((cell r7.2 (List.length h) 4).bind (getI .i64)).bind fun n10 =>
some ((.bool (decide ((IntKind.wrap .i64 (n9 + n10)) ≤ (8 : Int)))), r7.2)
else
some ((.bool false), r7.2))
else
(if (n2 == (6 : Int)) = true then
((cell h1 (List.length h) 4).bind (getI .i64)).bind fun n11 =>
(run (Et base) 61 [(vI n11), (vI (0 : Int)), (vI (7 : Int))] h1).bind fun r12 =>
((some r12.1).bind getB).bind fun b13 =>
some ((.bool b13), r12.2)
else
((if (n2 == (10 : Int)) = true then
some (.inl ([some (vI v1), some (vP (List.length h)), some (.bool (n2 == (10 : Int)))], h1))
else
(if (n2 == (11 : Int)) = true then
some (.inl ([some (vI v1), some (vP (List.length h)), some (.bool (n2 == (11 : Int)))], h1))
else
(if (n2 == (12 : Int)) = true then
some (.inl ([some (vI v1), some (vP (List.length h)), some (.bool (n2 == (12 : Int)))], h1))
else
some (.inl ([some (vI v1), some (vP (List.length h)), some (.bool (n2 == (16 : Int)))], h1)))))).bind fun j14 => joinK j14 fun j14 =>
j_IAB j14.1 fun n15 d16 b17 =>
(if b17 = true then
((cell j14.2 d16.block (d16.off + 4)).bind (getI .i64)).bind fun n18 =>
(if (decide (n18 ≥ (0 : Int))) = true then
((cell j14.2 d16.block (d16.off + 4)).bind (getI .i64)).bind fun n19 =>
some ((.bool (decide (n19 < n15))), j14.2)
else
some ((.bool false), j14.2))
else
((cell j14.2 d16.block (d16.off + 4)).bind (getI .i64)).bind fun n20 =>
some ((.bool (n20 == (0 : Int))), j14.2))))) : Option (Value × AH)) := by kernel_rfl
theorem r152 {base : Nat} {v0_0 : Int} {v0_1 : Int} {v0_2 : Int} {v0_3 : Int} {v0_4 : Int} {v0_5 : ByteArray} {v1 : Int} {h : AH} {r : Value × AH} (hx : (nw1 h 82 [(vI v0_0), (vI v0_1), (vI v0_2), (vI v0_3), (vI v0_4), (vT v0_5)] fun h1 =>
((cell h1 (List.length h) 0).bind (getI .i64)).bind fun n2 =>
(if (n2 == (1 : Int)) = true then
((cell h1 (List.length h) 4).bind (getI .i64)).bind fun n3 =>
(run (Et base) 61 [(vI n3), (vI (-1000000 : Int)), (vI (1000000 : Int))] h1).bind fun r4 =>
((some r4.1).bind getB).bind fun b5 =>
some ((.bool b5), r4.2)
else
(if (n2 == (4 : Int)) = true then
((cell h1 (List.length h) 4).bind (getI .i64)).bind fun n6 =>
(run (Et base) 61 [(vI n6), (vI (0 : Int)), (vI (8 : Int))] h1).bind fun r7 =>
((some r7.1).bind getB).bind fun b8 =>
(if b8 = true then
((cell r7.2 (List.length h) 2).bind (getI .i64)).bind fun n9 =>
((cell r7.2 (List.length h) 4).bind (getI .i64)).bind fun n10 =>
some ((.bool (decide ((IntKind.wrap .i64 (n9 + n10)) ≤ (8 : Int)))), r7.2)
else
some ((.bool false), r7.2))
else
(if (n2 == (6 : Int)) = true then
((cell h1 (List.length h) 4).bind (getI .i64)).bind fun n11 =>
(run (Et base) 61 [(vI n11), (vI (0 : Int)), (vI (7 : Int))] h1).bind fun r12 =>
((some r12.1).bind getB).bind fun b13 =>
some ((.bool b13), r12.2)
else
((if (n2 == (10 : Int)) = true then
some (.inl ([some (vI v1), some (vP (List.length h)), some (.bool (n2 == (10 : Int)))], h1))
else
(if (n2 == (11 : Int)) = true then
some (.inl ([some (vI v1), some (vP (List.length h)), some (.bool (n2 == (11 : Int)))], h1))
else
(if (n2 == (12 : Int)) = true then
some (.inl ([some (vI v1), some (vP (List.length h)), some (.bool (n2 == (12 : Int)))], h1))
else
some (.inl ([some (vI v1), some (vP (List.length h)), some (.bool (n2 == (16 : Int)))], h1)))))).bind fun j14 => joinK j14 fun j14 =>
j_IAB j14.1 fun n15 d16 b17 =>
(if b17 = true then
((cell j14.2 d16.block (d16.off + 4)).bind (getI .i64)).bind fun n18 =>
(if (decide (n18 ≥ (0 : Int))) = true then
((cell j14.2 d16.block (d16.off + 4)).bind (getI .i64)).bind fun n19 =>
some ((.bool (decide (n19 < n15))), j14.2)
else
some ((.bool false), j14.2))
else
((cell j14.2 d16.block (d16.off + 4)).bind (getI .i64)).bind fun n20 =>
some ((.bool (n20 == (0 : Int))), j14.2)))))) = some r) : run (Et base) 152 [(.agg #[(vI v0_0), (vI v0_1), (vI v0_2), (vI v0_3), (vI v0_4), (vT v0_5)]), (vI v1)] h = some r := run_i Try.func152 (by kernel_rfl) ((f152_eq base v0_0 v0_1 v0_2 v0_3 v0_4 v0_5 v1 h).trans hx)
/-! spec.l1Shape (gates 0) -/
noncomputable abbrev qf153 (base : Nat) (v0_0 : Int) (v0_1 : Int) (v0_2 : ByteArray) (v0_3 : Option Addr) (v0_3n : Nat) (h : AH) : Option (Value × AH) :=
nw1 h 38 [(vI v0_0), (vI v0_1), (vT v0_2), (vL v0_3 v0_3n)] fun h1 =>
((cell h1 (List.length h) 3).bind getS).bind fun l2 =>
((cell h1 (List.length h) 0).bind (getI .i64)).bind fun n3 =>
(if (n3 == (1 : Int)) = true then
((cell h1 (List.length h) 1).bind (getI .i64)).bind fun n4 =>
(run (Et base) 61 [(vI n4), (vI (-1000000 : Int)), (vI (1000000 : Int))] h1).bind fun r5 =>
((some r5.1).bind getB).bind fun b6 =>
(if b6 = true then
((cell r5.2 (List.length h) 2).bind getStr).bind fun s7 =>
(if (s7.toList == (⟨#[]⟩ : ByteArray).toList) = true then
some ((.bool (((l2.2 : Nat) : Int) == (0 : Int))), r5.2)
else
some ((.bool false), r5.2))
else
some ((.bool false), r5.2))
else
(if (n3 == (2 : Int)) = true then
((cell h1 (List.length h) 2).bind getStr).bind fun s8 =>
(run (Et base) 151 [(vT s8)] h1).bind fun r9 =>
((some r9.1).bind getB).bind fun b10 =>
(if b10 = true then
((cell r9.2 (List.length h) 1).bind (getI .i64)).bind fun n11 =>
(if (n11 == (0 : Int)) = true then
some ((.bool (((l2.2 : Nat) : Int) == (0 : Int))), r9.2)
else
some ((.bool false), r9.2))
else
some ((.bool false), r9.2))
else
(if (n3 == (3 : Int)) = true then
((cell h1 (List.length h) 1).bind (getI .i64)).bind fun n12 =>
(run (Et base) 61 [(vI n12), (vI (0 : Int)), (vI (99999 : Int))] h1).bind fun r13 =>
((some r13.1).bind getB).bind fun b14 =>
(if b14 = true then
((cell r13.2 (List.length h) 2).bind getStr).bind fun s15 =>
(if (s15.toList == (⟨#[]⟩ : ByteArray).toList) = true then
some ((.bool (((l2.2 : Nat) : Int) == (0 : Int))), r13.2)
else
some ((.bool false), r13.2))
else
some ((.bool false), r13.2))
else
(if (n3 == (4 : Int)) = true then
((cell h1 (List.length h) 1).bind (getI .i64)).bind fun n16 =>
(if (n16 == (0 : Int)) = true then
((cell h1 (List.length h) 2).bind getStr).bind fun s17 =>
(if (s17.toList == (⟨#[]⟩ : ByteArray).toList) = true then
some ((.bool (decide (((l2.2 : Nat) : Int) ≤ (8 : Int)))), h1)
else
some ((.bool false), h1))
else
some ((.bool false), h1))
else
(if (n3 == (5 : Int)) = true then
((cell h1 (List.length h) 1).bind (getI .i64)).bind fun n18 =>
(if (n18 == (0 : Int)) = true then
((cell h1 (List.length h) 2).bind getStr).bind fun s19 =>
(if (s19.toList == (⟨#[]⟩ : ByteArray).toList) = true then
some ((.bool (decide (((l2.2 : Nat) : Int) ≤ (20 : Int)))), h1)
else
some ((.bool false), h1))
else
some ((.bool false), h1))
else
(if (n3 == (6 : Int)) = true then
((cell h1 (List.length h) 1).bind (getI .i64)).bind fun n20 =>
(if (n20 == (0 : Int)) = true then
((cell h1 (List.length h) 2).bind getStr).bind fun s21 =>
(if (decide ((s21.size : Int) ≤ (40 : Int))) = true then
some ((.bool (((l2.2 : Nat) : Int) == (0 : Int))), h1)
else
some ((.bool false), h1))
else
some ((.bool false), h1))
else
some ((.bool false), h1)))))))
theorem f153_eq (base : Nat) (v0_0 : Int) (v0_1 : Int) (v0_2 : ByteArray) (v0_3 : Option Addr) (v0_3n : Nat) (h : AH) : exFun (Et base) (run (Et base)) loopL a153 Try.f153 [(.agg #[(vI v0_0), (vI v0_1), (vT v0_2), (vL v0_3 v0_3n)])] h = qf153 base v0_0 v0_1 v0_2 v0_3 v0_3n h := by kernel_rfl
theorem r153 {base : Nat} {v0_0 : Int} {v0_1 : Int} {v0_2 : ByteArray} {v0_3 : Option Addr} {v0_3n : Nat} {h : AH} {r : Value × AH} (hx : qf153 base v0_0 v0_1 v0_2 v0_3 v0_3n h = some r) : run (Et base) 153 [(.agg #[(vI v0_0), (vI v0_1), (vT v0_2), (vL v0_3 v0_3n)])] h = some r := run_i Try.func153 (by kernel_rfl) ((f153_eq base v0_0 v0_1 v0_2 v0_3 v0_3n h).trans hx)
/-! spec.l8Letter (gates 0) -/
noncomputable def B156_0 (base : Nat) : Body := fun l h => lay s156_0 l fun s => exCode (Et base) (run (Et base)) loopL a156_0 (subC [1, 0, 1, 0, 0] (bodyC Try.f156)) s h (keepK s156_0 e156_0)
theorem B156_0_eq (base : Nat) (v0 : ByteArray) (v1 : Int) (v5 : Int) (h : AH) : B156_0 base [some (vT v0), some (.int .u8 v1), some (vI v5)] h =
((if (decide (v5 < (v0.size : Int))) = true then
(if 0 ≤ v5 ∧ v5 < (v0.size : Int) then
(if (((v0.data.toList.getD (Int.toNat v5) 0).toNat : Int) == v1) = true then
some (1, [some (.bool true)], h)
else
some (0, [some (.string v0), some (.int .u8 v1), some (.int .i64 (IntKind.wrap .i64 (v5 + (1 : Int))))], h))
else none)
else
some (2, [], h)) : Option (Nat × Slots × AH)) := by kernel_rfl
theorem f156_eq (base : Nat) (v0 : ByteArray) (v1 : Int) (h : AH) : exFun (Et base) (run (Et base)) loopL a156 Try.f156 [(vT v0), (.int .u8 v1)] h =
((loopL (B156_0 base) [some (.string v0), some (.int .u8 v1), some (.int .i64 (0 : Int))] h).bind fun q1 =>
(if q1.1 = 1 then
((sget q1.2.1 0).bind getB).bind fun b2 =>
some ((.bool b2), q1.2.2)
else
(if q1.1 = 2 then
some ((.bool false), q1.2.2)
else
none)) : Option (Value × AH)) := by kernel_rfl
theorem r156 {base : Nat} {v0 : ByteArray} {v1 : Int} {h : AH} {r : Value × AH} (hx : ((loopL (B156_0 base) [some (.string v0), some (.int .u8 v1), some (.int .i64 (0 : Int))] h).bind fun q1 =>
(if q1.1 = 1 then
((sget q1.2.1 0).bind getB).bind fun b2 =>
some ((.bool b2), q1.2.2)
else
(if q1.1 = 2 then
some ((.bool false), q1.2.2)
else
none))) = some r) : run (Et base) 156 [(vT v0), (.int .u8 v1)] h = some r := run_i Try.func156 (by kernel_rfl) ((f156_eq base v0 v1 h).trans hx)
/-! impl.shapeOf (gates 0) -/
noncomputable abbrev qf160 (base : Nat) (v0 : Int) (h : AH) : Option (Value × AH) :=
(if (v0 == (1 : Int)) = true then
some ((vT (⟨#[65, 78]⟩ : ByteArray)), h)
else
(if (v0 == (2 : Int)) = true then
some ((vT (⟨#[65, 83]⟩ : ByteArray)), h)
else
((if (v0 == (3 : Int)) = true then
some (.inl ([some (vI v0), some (.bool (v0 == (3 : Int)))], h))
else
(if (v0 == (7 : Int)) = true then
some (.inl ([some (vI v0), some (.bool (v0 == (7 : Int)))], h))
else
(if (v0 == (8 : Int)) = true then
some (.inl ([some (vI v0), some (.bool (v0 == (8 : Int)))], h))
else
some (.inl ([some (vI v0), some (.bool (v0 == (13 : Int)))], h)))))).bind fun j1 => joinK j1 fun j1 =>
j_IB j1.1 fun n2 b3 =>
(if b3 = true then
some ((vT (⟨#[65, 66]⟩ : ByteArray)), j1.2)
else
((if (n2 == (4 : Int)) = true then
some (.inl ([some (vI n2), some (.bool (n2 == (4 : Int)))], j1.2))
else
(if (n2 == (6 : Int)) = true then
some (.inl ([some (vI n2), some (.bool (n2 == (6 : Int)))], j1.2))
else
(if (n2 == (10 : Int)) = true then
some (.inl ([some (vI n2), some (.bool (n2 == (10 : Int)))], j1.2))
else
(if (n2 == (11 : Int)) = true then
some (.inl ([some (vI n2), some (.bool (n2 == (11 : Int)))], j1.2))
else
some (.inl ([some (vI n2), some (.bool (n2 == (16 : Int)))], j1.2))))))).bind fun j4 => joinK j4 fun j4 =>
j_IB j4.1 fun n5 b6 =>
(if b6 = true then
some ((vT (⟨#[65, 66, 78]⟩ : ByteArray)), j4.2)
else
((if (n5 == (5 : Int)) = true then
some (.inl ([some (vI n5), some (.bool (n5 == (5 : Int)))], j4.2))
else
some (.inl ([some (vI n5), some (.bool (n5 == (9 : Int)))], j4.2)))).bind fun j7 => joinK j7 fun j7 =>
j_IB j7.1 fun n8 b9 =>
(if b9 = true then
some ((vT (⟨#[65, 66, 67]⟩ : ByteArray)), j7.2)
else
(if (n8 == (12 : Int)) = true then
some ((vT (⟨#[78]⟩ : ByteArray)), j7.2)
else
((if (n8 == (14 : Int)) = true then
some (.inl ([some (.bool (n8 == (14 : Int)))], j7.2))
else
(if (n8 == (15 : Int)) = true then
some (.inl ([some (.bool (n8 == (15 : Int)))], j7.2))
else
(if (n8 == (17 : Int)) = true then
some (.inl ([some (.bool (n8 == (17 : Int)))], j7.2))
else
(if (n8 == (18 : Int)) = true then
some (.inl ([some (.bool (n8 == (18 : Int)))], j7.2))
else
(if (n8 == (19 : Int)) = true then
some (.inl ([some (.bool (n8 == (19 : Int)))], j7.2))
else
some (.inl ([some (.bool (n8 == (20 : Int)))], j7.2)))))))).bind fun j10 => joinK j10 fun j10 =>
((sget j10.1 0).bind getB).bind fun b11 =>
(if b11 = true then
some ((vT (⟨#[65]⟩ : ByteArray)), j10.2)
else
some ((vT (⟨#[]⟩ : ByteArray)), j10.2))))))))
theorem f160_eq (base : Nat) (v0 : Int) (h : AH) : exFun (Et base) (run (Et base)) loopL a160 Try.f160 [(vI v0)] h = qf160 base v0 h := by kernel_rfl
theorem r160 {base : Nat} {v0 : Int} {h : AH} {r : Value × AH} (hx : qf160 base v0 h = some r) : run (Et base) 160 [(vI v0)] h = some r := run_i Try.func160 (by kernel_rfl) ((f160_eq base v0 h).trans hx)
/-! impl.onlyNamed$1 (gates 0) -/
theorem f161_eq (base : Nat) (v0 : Int) (w0 : Addr) (h : AH) : exFun (Et base) (run (Et base)) loopL a161 Try.f161 [(.int .u8 v0), (vA w0)] h =
(((cell h w0.block w0.off).bind getStr).bind fun s1 =>
(run (Et base) 162 [(.string s1), (.int .u8 v0)] h).bind fun r2 =>
((some r2.1).bind (getI .i64)).bind fun n3 =>
some ((.bool (decide (n3 ≥ (0 : Int)))), r2.2) : Option (Value × AH)) := by kernel_rfl
theorem r161 {base : Nat} {v0 : Int} {w0 : Addr} {h : AH} {r : Value × AH} (hx : (((cell h w0.block w0.off).bind getStr).bind fun s1 =>
(run (Et base) 162 [(.string s1), (.int .u8 v0)] h).bind fun r2 =>
((some r2.1).bind (getI .i64)).bind fun n3 =>
some ((.bool (decide (n3 ≥ (0 : Int)))), r2.2)) = some r) : run (Et base) 161 [(.int .u8 v0), (vA w0)] h = some r := run_i Try.func161 (by kernel_rfl) ((f161_eq base v0 w0 h).trans hx)
/-! strings.IndexByte (gates 0) -/
theorem f162_eq (base : Nat) (v0 : ByteArray) (v1 : Int) (h : AH) : exFun (Et base) (run (Et base)) loopL a162 Try.f162 [(vT v0), (.int .u8 v1)] h =
((run (Et base) 168 [(.string v0), (.int .u8 v1)] h).bind fun r1 =>
((some r1.1).bind (getI .i64)).bind fun n2 =>
some ((.int .i64 n2), r1.2) : Option (Value × AH)) := by kernel_rfl
theorem r162 {base : Nat} {v0 : ByteArray} {v1 : Int} {h : AH} {r : Value × AH} (hx : ((run (Et base) 168 [(.string v0), (.int .u8 v1)] h).bind fun r1 =>
((some r1.1).bind (getI .i64)).bind fun n2 =>
some ((.int .i64 n2), r1.2)) = some r) : run (Et base) 162 [(vT v0), (.int .u8 v1)] h = some r := run_i Try.func162 (by kernel_rfl) ((f162_eq base v0 v1 h).trans hx)
/-! impl.isSmall (gates 0) -/
theorem f163_eq (base : Nat) (v0 : Int) (h : AH) : exFun (Et base) (run (Et base)) loopL a163 Try.f163 [(.int .u8 v0)] h =
((if (decide (v0 ≥ (97 : Int))) = true then
some ((.bool (decide (v0 ≤ (122 : Int)))), h)
else
some ((.bool false), h)) : Option (Value × AH)) := by kernel_rfl
theorem r163 {base : Nat} {v0 : Int} {h : AH} {r : Value × AH} (hx : ((if (decide (v0 ≥ (97 : Int))) = true then
some ((.bool (decide (v0 ≤ (122 : Int)))), h)
else
some ((.bool false), h))) = some r) : run (Et base) 163 [(.int .u8 v0)] h = some r := run_i Try.func163 (by kernel_rfl) ((f163_eq base v0 h).trans hx)
/-! impl.isDigit (gates 0) -/
theorem f164_eq (base : Nat) (v0 : Int) (h : AH) : exFun (Et base) (run (Et base)) loopL a164 Try.f164 [(.int .u8 v0)] h =
((if (decide (v0 ≥ (48 : Int))) = true then
some ((.bool (decide (v0 ≤ (57 : Int)))), h)
else
some ((.bool false), h)) : Option (Value × AH)) := by kernel_rfl
theorem r164 {base : Nat} {v0 : Int} {h : AH} {r : Value × AH} (hx : ((if (decide (v0 ≥ (48 : Int))) = true then
some ((.bool (decide (v0 ≤ (57 : Int)))), h)
else
some ((.bool false), h))) = some r) : run (Et base) 164 [(.int .u8 v0)] h = some r := run_i Try.func164 (by kernel_rfl) ((f164_eq base v0 h).trans hx)
/-! stringslite.IndexByte (gates 0) -/
theorem f168_eq (base : Nat) (v0 : ByteArray) (v1 : Int) (h : AH) : exFun (Et base) (run (Et base)) loopL a168 Try.f168 [(vT v0), (.int .u8 v1)] h =
(some ((.int .i64 (firstIdx v0 (Nat.toUInt8 (Int.toNat v1)))), h) : Option (Value × AH)) := by kernel_rfl
theorem r168 {base : Nat} {v0 : ByteArray} {v1 : Int} {h : AH} {r : Value × AH} (hx : (some ((.int .i64 (firstIdx v0 (Nat.toUInt8 (Int.toNat v1)))), h)) = some r) : run (Et base) 168 [(vT v0), (.int .u8 v1)] h = some r := run_i Try.func168 (by kernel_rfl) ((f168_eq base v0 v1 h).trans hx)
end Go.Proofs.Ytolcnednfbbnnaa.Am
