/- What each of these functions comes to on the abstract machine, one equation a function and one a loop.
Conditions: none. -/
import Derived.Test.YtkdenmdijdmnjaaTb
set_option linter.unusedVariables false
set_option maxRecDepth 100000
namespace Go.Proofs.Ytkdenmdijdmnjaa.Am
open Go Go.RowKit
noncomputable abbrev qf236 (base : Nat) (v0_0 : Int) (v0_1 : Int) (v0_2 : Int) (v0_3 : Int) (v0_4 : Int) (v0_5 : ByteArray) (v1_0 : Int) (v1_1 : Int) (v1_2 : Option Addr) (v1_2n : Nat) (v1_3 : Option Addr) (v1_3n : Nat) (v1_4 : Option Addr) (v1_4n : Nat) (h : AH) : Option (Value × AH):=
nw1 h 143 [(vI v0_0),(vI v0_1),(vI v0_2),(vI v0_3),(vI v0_4),(vT v0_5)] fun h1=>
nw1 h1 54 [(vI v1_0),(vI v1_1),(vL v1_2 v1_2n),(vL v1_3 v1_3n),(vL v1_4 v1_4n)] fun h2=>
nw1 h2 42 [(vI 0),(vI 0),(vT ⟨#[]⟩),(vL none 0)] fun h3=>
((cell h3 (List.length h1) 2).bind getS).bind fun l4=>
((cell h3 (List.length h) 2).bind (getI .i64)).bind fun n5=>
(if 0≤n5∧n5 < ((l4.2 : Nat) : Int) then
((l4.1 : Option Addr)).bind fun a6=>
c_IITL h3 a6.block (a6.off + Int.toNat n5 * 4) fun n7 n8 s9 l10=>
nw1 h3 42 [(vI 0),(vI 0),(vT ⟨#[]⟩),(vL none 0)] fun h11=>
(wr base h11 (List.length h3) 0 [(vI n7),(vI n8),(vT s9),(vL l10.1 l10.2)]).bind fun h12=>
((cell h12 (List.length h) 0).bind (getI .i64)).bind fun n13=>
(if (n13 == (6 : Int)) = true then
(((cell h12 (List.length h3) 0).bind (getI .i64)).bind fun n15=>
(if (n15 != (4 : Int)) = true then
some (.inl ([some (vP (List.length h)),some (vP (List.length h2)),some (vP (List.length h3)),some (.bool true)],h12))
else
((cell h12 (List.length h) 4).bind (getI .i64)).bind fun n16=>
((cell h12 (List.length h3) 3).bind getS).bind fun l17=>
some (.inl ([some (vP (List.length h)),some (vP (List.length h2)),some (vP (List.length h3)),some (.bool (decide (n16 ≥ ((l17.2 : Nat) : Int))))],h12)))).bind fun j14=>joinK j14 fun j14=>
j_AAAB j14.1 fun d18 d19 d20 b21=>
(if b21 = true then
(wr base j14.2 d19.block d19.off [(vI (0 : Int)),(vI (0 : Int)),(vT (⟨#[]⟩ : ByteArray)),(vL none 0)]).bind fun h22=>
c_IITL h22 d19.block d19.off fun n23 n24 s25 l26=>
some ((.tuple #[(.agg #[(vI n23),(vI n24),(vT s25),(vL l26.1 l26.2)]),(.bool false)]),h22)
else
((cell j14.2 d20.block (d20.off + 3)).bind getS).bind fun l27=>
((cell j14.2 d18.block (d18.off + 4)).bind (getI .i64)).bind fun n28=>
(if 0≤n28∧n28 < ((l27.2 : Nat) : Int) then
((l27.1 : Option Addr)).bind fun a29=>
c_IITL j14.2 a29.block (a29.off + Int.toNat n28 * 4) fun n30 n31 s32 l33=>
(run (Et base) 116 [(.agg #[(vI n30),(vI n31),(vT s32),(vL l33.1 l33.2)])] j14.2).bind fun r34=>
gG (some r34.1) 4 fun l35=>
l_IITL l35 fun n36 n37 s38 l39=>
(wr base r34.2 d19.block d19.off [(vI n36),(vI n37),(vT s38),(vL l39.1 l39.2)]).bind fun h40=>
c_IITL h40 d19.block d19.off fun n41 n42 s43 l44=>
some ((.tuple #[(.agg #[(vI n41),(vI n42),(vT s43),(vL l44.1 l44.2)]),(.bool true)]),h40)
else none))
else
((if (n13 == (7 : Int)) = true then
some (.inl ([some (vP (List.length h)),some (vP (List.length h1)),some (vP (List.length h2)),some (vP (List.length h3)),some (.bool (n13 == (7 : Int)))],h12))
else
some (.inl ([some (vP (List.length h)),some (vP (List.length h1)),some (vP (List.length h2)),some (vP (List.length h3)),some (.bool (n13 == (8 : Int)))],h12)))).bind fun j45=>joinK j45 fun j45=>
j_AAAAB j45.1 fun d46 d47 d48 d49 b50=>
(if b50 = true then
(((cell j45.2 d49.block (d49.off + 0)).bind (getI .i64)).bind fun n52=>
(if (n52 != (5 : Int)) = true then
some (.inl ([some (vA d46),some (vA d48),some (vA d49),some (.bool true)],j45.2))
else
((cell j45.2 d49.block (d49.off + 3)).bind getS).bind fun l53=>
some (.inl ([some (vA d46),some (vA d48),some (vA d49),some (.bool (((l53.2 : Nat) : Int) == (0 : Int)))],j45.2)))).bind fun j51=>joinK j51 fun j51=>
j_AAAB j51.1 fun d54 d55 d56 b57=>
(if b57 = true then
(wr base j51.2 d55.block d55.off [(vI (0 : Int)),(vI (0 : Int)),(vT (⟨#[]⟩ : ByteArray)),(vL none 0)]).bind fun h58=>
c_IITL h58 d55.block d55.off fun n59 n60 s61 l62=>
some ((.tuple #[(.agg #[(vI n59),(vI n60),(vT s61),(vL l62.1 l62.2)]),(.bool false)]),h58)
else
((cell j51.2 d54.block (d54.off + 0)).bind (getI .i64)).bind fun n63=>
(if (n63 == (7 : Int)) = true then
((cell j51.2 d56.block (d56.off + 3)).bind getS).bind fun l64=>
(if 0≤(0 : Int)∧(0 : Int) < ((l64.2 : Nat) : Int) then
((l64.1 : Option Addr)).bind fun a65=>
c_IITL j51.2 a65.block (a65.off + Int.toNat (0 : Int) * 4) fun n66 n67 s68 l69=>
(run (Et base) 116 [(.agg #[(vI n66),(vI n67),(vT s68),(vL l69.1 l69.2)])] j51.2).bind fun r70=>
gG (some r70.1) 4 fun l71=>
l_IITL l71 fun n72 n73 s74 l75=>
(wr base r70.2 d55.block d55.off [(vI n72),(vI n73),(vT s74),(vL l75.1 l75.2)]).bind fun h76=>
c_IITL h76 d55.block d55.off fun n77 n78 s79 l80=>
some ((.tuple #[(.agg #[(vI n77),(vI n78),(vT s79),(vL l80.1 l80.2)]),(.bool true)]),h76)
else none)
else
((cell j51.2 d56.block (d56.off + 3)).bind getS).bind fun l81=>
(if 0≤(1 : Int)∧(1 : Int)≤((l81.2 : Nat) : Int)∧((l81.2 : Nat) : Int)≤((l81.2 : Nat) : Int)∧okTy base j51.2 l81.1 42 (Int.toNat (1 : Int)) = true then
(run (Et base) 163 [(.slice (shiftA l81.1 (Int.toNat (1 : Int) * 4)) (Int.toNat ((l81.2 : Nat) : Int) - Int.toNat (1 : Int)) (Int.toNat ((l81.2 : Nat) : Int) - Int.toNat (1 : Int)))] j51.2).bind fun r82=>
((some r82.1).bind getS).bind fun l83=>
(wr base r82.2 d55.block d55.off [(vI (5 : Int)),(vI (0 : Int)),(vT (⟨#[]⟩ : ByteArray)),(vL l83.1 l83.2)]).bind fun h84=>
c_IITL h84 d55.block d55.off fun n85 n86 s87 l88=>
some ((.tuple #[(.agg #[(vI n85),(vI n86),(vT s87),(vL l88.1 l88.2)]),(.bool true)]),h84)
else none)))
else
((cell j45.2 d47.block (d47.off + 2)).bind getS).bind fun l89=>
((cell j45.2 d46.block (d46.off + 3)).bind (getI .i64)).bind fun n90=>
(if 0≤n90∧n90 < ((l89.2 : Nat) : Int) then
((l89.1 : Option Addr)).bind fun a91=>
c_IITL j45.2 a91.block (a91.off + Int.toNat n90 * 4) fun n92 n93 s94 l95=>
nw1 j45.2 42 [(vI 0),(vI 0),(vT ⟨#[]⟩),(vL none 0)] fun h96=>
(wr base h96 (List.length j45.2) 0 [(vI n92),(vI n93),(vT s94),(vL l95.1 l95.2)]).bind fun h97=>
((cell h97 d49.block (d49.off + 1)).bind (getI .i64)).bind fun n98=>
((cell h97 (List.length j45.2) 1).bind (getI .i64)).bind fun n99=>
(run (Et base) 201 [(vI (IntKind.wrap .i64 (n98 + n99)))] h97).bind fun r100=>
gG (some r100.1) 4 fun l101=>
l_IITL l101 fun n102 n103 s104 l105=>
(gate (sameA h97 r100.2 (some ⟨d49.block,(d49.off + 0),none⟩) 1)
(((cell r100.2 d49.block (d49.off + 0)).bind (getI .i64)).bind fun n106=>
(if (n106 == (1 : Int)) = true then
((cell r100.2 (List.length j45.2) 0).bind (getI .i64)).bind fun n107=>
(wr base r100.2 d48.block d48.off [(vI n102),(vI n103),(vT s104),(vL l105.1 l105.2)]).bind fun h108=>
(gate (sameA r100.2 h108 (some ⟨(List.length j45.2),0,none⟩) 1)
(c_IITL h108 d48.block d48.off fun n109 n110 s111 l112=>
some ((.tuple #[(.agg #[(vI n109),(vI n110),(vT s111),(vL l112.1 l112.2)]),(.bool (n107 == (1 : Int)))]),h108)))
else
(wr base r100.2 d48.block d48.off [(vI n102),(vI n103),(vT s104),(vL l105.1 l105.2)]).bind fun h113=>
c_IITL h113 d48.block d48.off fun n114 n115 s116 l117=>
some ((.tuple #[(.agg #[(vI n114),(vI n115),(vT s116),(vL l117.1 l117.2)]),(.bool false)]),h113))))
else none)))
else none)
theorem r236 {base : Nat} {v0_0 : Int} {v0_1 : Int} {v0_2 : Int} {v0_3 : Int} {v0_4 : Int} {v0_5 : ByteArray} {v1_0 : Int} {v1_1 : Int} {v1_2 : Option Addr} {v1_2n : Nat} {v1_3 : Option Addr} {v1_3n : Nat} {v1_4 : Option Addr} {v1_4n : Nat} {h : AH} {r : Value × AH} (hx : qf236 base v0_0 v0_1 v0_2 v0_3 v0_4 v0_5 v1_0 v1_1 v1_2 v1_2n v1_3 v1_3n v1_4 v1_4n h = some r) : run (Et base) 236 [(.agg #[(vI v0_0),(vI v0_1),(vI v0_2),(vI v0_3),(vI v0_4),(vT v0_5)]),(.agg #[(vI v1_0),(vI v1_1),(vL v1_2 v1_2n),(vL v1_3 v1_3n),(vL v1_4 v1_4n)])] h = some r:=run_i (an:=a236) Try.func236 (by kernel_rfl) (.trans (by kernel_rfl) hx)
noncomputable def B237_0 (base : Nat) : Body:=fun l h=>lay s237_0 l fun s=>exCode (Et base) (run (Et base)) loopL a237_0 (subC [1,1,1,1,0,0,0] (bodyC Try.f237)) s h (keepK s237_0 e237_0)
theorem B237_0_eq (base : Nat) (v1 : Int) (v5 : Option Addr) (v5n : Nat) (v6 : Int) (h : AH) : B237_0 base [some (vI v1),some (vL v5 v5n),some (vI v6)] h =
(((if (decide (v6 > (0 : Int))) = true then
(if 0≤(IntKind.wrap .i64 (v6 - (1 : Int)))∧(IntKind.wrap .i64 (v6 - (1 : Int))) < ((v5n : Nat) : Int) then
((v5 : Option Addr)).bind fun a2=>
((cell h a2.block (a2.off + Int.toNat (IntKind.wrap .i64 (v6 - (1 : Int))) * 1)).bind (getI .i64)).bind fun n3=>
some (.inl ([some (.int .i64 v1),some (.slice v5 v5n v5n),some (.int .i64 v6),some (.bool (decide (n3 > v1)))],h))
else none)
else
some (.inl ([some (.int .i64 v1),some (.slice v5 v5n v5n),some (.int .i64 v6),some (.bool false)],h)))).bind fun j1=>joinK j1 fun j1=>
((sget j1.1 0).bind (getI .i64)).bind fun n4=>
((sget (j1.1.tail) 0).bind getS).bind fun l5=>
((sget (j1.1.tail.tail) 0).bind (getI .i64)).bind fun n6=>
((sget (j1.1.tail.tail.tail) 0).bind getB).bind fun b7=>
(if b7 = true then
(if 0≤(IntKind.wrap .i64 (n6 - (1 : Int)))∧(IntKind.wrap .i64 (n6 - (1 : Int))) < ((l5.2 : Nat) : Int) then
((l5.1 : Option Addr)).bind fun a8=>
((cell j1.2 a8.block (a8.off + Int.toNat (IntKind.wrap .i64 (n6 - (1 : Int))) * 1)).bind (getI .i64)).bind fun n9=>
(if 0≤n6∧n6 < ((l5.2 : Nat) : Int) then
((l5.1 : Option Addr)).bind fun a10=>
(wr base j1.2 a10.block (a10.off + Int.toNat n6 * 1) [(.int .i64 n9)]).bind fun h11=>
some (0,[some (.int .i64 n4),some (.slice l5.1 l5.2 l5.2),some (.int .i64 (IntKind.wrap .i64 (n6 - (1 : Int))))],h11)
else none)
else none)
else
some (2,[some (.int .i64 n4),some (.slice l5.1 l5.2 l5.2),some (.int .i64 n6)],j1.2)) : Option (Nat × Slots × AH)):=by kernel_rfl
theorem r237 {base : Nat} {v0 : Option Addr} {v0n : Nat} {v1 : Int} {h : AH} {r : Value × AH} (hx : ((run (Et base) 143 [(.slice v0 v0n v0n),(.int .i64 v1)] h).bind fun r1=>
((some r1.1).bind getB).bind fun b2=>
(if b2 = true then
some ((.slice v0 v0n v0n),r1.2)
else
(some (r1.2++[some ⟨[],3⟩])).bind fun h3=>
(app base h3 3 1 8 (some ⟨(List.length r1.2),0,none⟩) 0 (rawAt h3 v0 (v0n * 1)) v0n).bind fun p4=>
((some p4.1).bind getS).bind fun l5=>
(some (p4.2++[some ⟨[(.int .i64 v1)],3⟩])).bind fun h6=>
(app base h6 3 1 8 l5.1 l5.2 (rawAt h6 (some ⟨(List.length p4.2),0,none⟩) (1 * 1)) 1).bind fun p7=>
((some p7.1).bind getS).bind fun l8=>
(loopL (B237_0 base) [some (.int .i64 v1),some (.slice l8.1 l8.2 l8.2),some (.int .i64 (IntKind.wrap .i64 (((l8.2 : Nat) : Int) - (1 : Int))))] p7.2).bind fun q9=>
(if q9.1 = 2 then
((sget q9.2.1 0).bind (getI .i64)).bind fun n10=>
((sget (q9.2.1.tail) 0).bind getS).bind fun l11=>
((sget (q9.2.1.tail.tail) 0).bind (getI .i64)).bind fun n12=>
(if 0≤n12∧n12 < ((l11.2 : Nat) : Int) then
((l11.1 : Option Addr)).bind fun a13=>
(wr base q9.2.2 a13.block (a13.off + Int.toNat n12 * 1) [(.int .i64 n10)]).bind fun h14=>
some ((.slice l11.1 l11.2 l11.2),h14)
else none)
else
none))) = some r) : run (Et base) 237 [(vL v0 v0n),(vI v1)] h = some r:=run_i (an:=a237) Try.func237 (by kernel_rfl) (.trans (by kernel_rfl) hx)
noncomputable def B239_0 (base : Nat) : Body:=fun l h=>lay s239_0 l fun s=>exCode (Et base) (run (Et base)) loopL a239_0 (subC [1,1,1,0,1,0,0] (bodyC Try.f239)) s h (keepK s239_0 e239_0)
theorem B239_0_eq (base : Nat) (v0 : ByteArray) (v3 : Int) (v4 : Int) (h : AH) : B239_0 base [some (vT v0),some (vI v3),some (vI v4)] h =
((if (decide (v4 < (v0.size : Int))) = true then
(if 0≤v4∧v4 < (v0.size : Int) then
(run (Et base) 90 [(.int .i64 (IntKind.wrap .i64 ((v0.data.toList.getD (Int.toNat v4) 0).toNat : Int))),(.int .i64 (48 : Int)),(.int .i64 (57 : Int))] h).bind fun r1=>
((some r1.1).bind getB).bind fun b2=>
(if (!b2) = true then
some (1,[some (.int .i64 (-1 : Int))],r1.2)
else
(if 0≤v4∧v4 < (v0.size : Int) then
some (0,[some (.string v0),some (.int .i64 (IntKind.wrap .i64 ((IntKind.wrap .i64 (v3 * (10 : Int))) + (IntKind.wrap .i64 (IntKind.wrap .u8 (((v0.data.toList.getD (Int.toNat v4) 0).toNat : Int) - (48 : Int))))))),some (.int .i64 (IntKind.wrap .i64 (v4 + (1 : Int))))],r1.2)
else none))
else none)
else
some (2,[some (.int .i64 v3)],h)) : Option (Nat × Slots × AH)):=by kernel_rfl
theorem r239 {base : Nat} {v0 : ByteArray} {h : AH} {r : Value × AH} (hx : (((run (Et base) 90 [(.int .i64 (v0.size : Int)),(.int .i64 (1 : Int)),(.int .i64 (7 : Int))] h).bind fun r2=>
((some r2.1).bind getB).bind fun b3=>
(if (!b3) = true then
some (.inl ([some (.string v0),some (.bool true)],r2.2))
else
(if (decide ((v0.size : Int) > (1 : Int))) = true then
(if 0≤(0 : Int)∧(0 : Int) < (v0.size : Int) then
some (.inl ([some (.string v0),some (.bool (((v0.data.toList.getD (Int.toNat (0 : Int)) 0).toNat : Int) == (48 : Int)))],r2.2))
else none)
else
some (.inl ([some (.string v0),some (.bool false)],r2.2))))).bind fun j1=>joinK j1 fun j1=>
((sget j1.1 0).bind getStr).bind fun s4=>
((sget (j1.1.tail) 0).bind getB).bind fun b5=>
(if b5 = true then
some ((.int .i64 (-1 : Int)),j1.2)
else
(loopL (B239_0 base) [some (.string s4),some (.int .i64 (0 : Int)),some (.int .i64 (0 : Int))] j1.2).bind fun q6=>
(if q6.1 = 1 then
((sget q6.2.1 0).bind (getI .i64)).bind fun n7=>
some ((.int .i64 n7),q6.2.2)
else
(if q6.1 = 2 then
((sget q6.2.1 0).bind (getI .i64)).bind fun n8=>
some ((.int .i64 n8),q6.2.2)
else
none)))) = some r) : run (Et base) 239 [(vT v0)] h = some r:=run_i (an:=a239) Try.func239 (by kernel_rfl) (.trans (by kernel_rfl) hx)
end Go.Proofs.Ytkdenmdijdmnjaa.Am
