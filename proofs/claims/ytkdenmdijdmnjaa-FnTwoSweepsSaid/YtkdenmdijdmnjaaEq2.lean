/- What each of these functions comes to on the abstract machine, one equation a function and one a loop.
Conditions: none. -/
import Derived.Test.YtkdenmdijdmnjaaTb
set_option linter.unusedVariables false
set_option maxRecDepth 100000
namespace Go.Proofs.Ytkdenmdijdmnjaa.Am
open Go Go.RowKit
noncomputable def B145_0 (base:Nat):Body:=fun l h=>lay s145_0 l fun s=>exCode (Et base) (run (Et base)) loopL a145_0 (subC [1,1,1,1,1,1,1,1,1,0,1,0,0] (bodyC Try.f145)) s h (keepK s145_0 e145_0)
theorem B145_0_eq (base:Nat) (v1:Int) (v2:Int) (v3:Addr) (v9:Option Addr) (v9n:Nat) (v12:Int) (h:AH):B145_0 base [some (vI v1),some (vI v2),some (vA v3),some (vL v9 v9n),some (vI v12)] h =
(((if (decide (v12<((v9n:Nat):Int)))=true then
(run (Et base) 189 [(vI v1)] h).bind fun r2=>
((some r2.1).bind (getI .i64)).bind fun n3=>
some (.inl ([some (vI v1),some (vI v2),some (vA v3),some (vL v9 v9n),some (vI v12),some (.bool (n3 != (6:Int)))],r2.2))
else
some (.inl ([some (vI v1),some (vI v2),some (vA v3),some (vL v9 v9n),some (vI v12),some (.bool false)],h)))).bind fun j1=>joinK j1 fun j1=>
j_IIALIB j1.1 fun n4 n5 d6 l7 n8 b9=>
(if b9=true then
c_LLI j1.2 d6.block d6.off fun l10 l11 n12=>
(if 0≤n8∧n8<((l7.2:Nat):Int) then
((l7.1:Option Addr)).bind fun a13=>
((cell j1.2 a13.block (a13.off+Int.toNat n8*1)).bind (getI .i64)).bind fun n14=>
(run (Et base) 145 [(.agg #[(vL l10.1 l10.2),(vL l11.1 l11.2),(vI n12)]),(vI n14),(vI n5)] j1.2).bind fun r15=>
((some r15.1).bind getB).bind fun b16=>
(if (!b16)=true then
some (1,[some (.bool false)],r15.2)
else
some (0,[some (vI n4),some (vI n5),some (vA d6),some (vL l7.1 l7.2),some (vI (IntKind.wrap .i64 (n8+(1:Int))))],r15.2))
else none)
else
some (2,[],j1.2)):Option (Nat×Slots×AH)):=by kernel_rfl
noncomputable abbrev qf145 (base:Nat) (v0_0:Option Addr) (v0_0n:Nat) (v0_1:Option Addr) (v0_1n:Nat) (v0_2:Int) (v1:Int) (v2:Int) (h:AH):Option (Value×AH):=
nw1 h 63 [(vL v0_0 v0_0n),(vL v0_1 v0_1n),(vI v0_2)] fun h1=>
c_LLI h1 (List.length h) 0 fun l2 l3 n4=>
(run (Et base) 186 [(.agg #[(vL l2.1 l2.2),(vL l3.1 l3.2),(vI n4)]),(vI v1)] h1).bind fun r5=>
((some r5.1).bind (getI .i64)).bind fun n6=>
(if (n6==(0:Int))=true then
some ((.bool true),r5.2)
else
(run (Et base) 187 [(vI v1)] r5.2).bind fun r7=>
((some r7.1).bind (getI .i64)).bind fun n8=>
(if (decide (n8≥v2))=true then
some ((.bool false),r7.2)
else
((if (decide (n8<(100000:Int)))=true then
some (.inl ([some (vI v1),some (vI (100000:Int)),some (vP (List.length h)),some (vI n6),some (vI n8)],r7.2))
else
(((cell r7.2 (List.length h) 2).bind (getI .i64)).bind fun n11=>
(if (decide (n8<(IntKind.wrap .i64 ((100000:Int)+n11))))=true then
((cell r7.2 (List.length h) 2).bind (getI .i64)).bind fun n12=>
some (.inl ([some (vI v1),some (vI v2),some (vP (List.length h)),some (vI n6),some (vI n8),some (.bool (decide (v2>(IntKind.wrap .i64 ((100000:Int)+n12)))))],r7.2))
else
some (.inl ([some (vI v1),some (vI v2),some (vP (List.length h)),some (vI n6),some (vI n8),some (.bool false)],r7.2)))).bind fun j10=>joinK j10 fun j10=>
j_IIAIIB j10.1 fun n13 n14 d15 n16 n17 b18=>
(if b18=true then
((cell j10.2 d15.block (d15.off+2)).bind (getI .i64)).bind fun n19=>
some (.inl ([some (vI n13),some (vI (IntKind.wrap .i64 ((100000:Int)+n19))),some (vA d15),some (vI n16),some (vI n17)],j10.2))
else
some (.inl ([some (vI n13),some (vI n14),some (vA d15),some (vI n16),some (vI n17)],j10.2))))).bind fun j9=>joinK j9 fun j9=>
j_IIAII j9.1 fun n20 n21 d22 n23 n24=>
c_LLI j9.2 d22.block d22.off fun l25 l26 n27=>
(run (Et base) 188 [(.agg #[(vL l25.1 l25.2),(vL l26.1 l26.2),(vI n27)]),(vI n24),(vI n23)] j9.2).bind fun r28=>
(getTup 2 r28.1).bind fun l29=>
l_LB l29 fun l30 b31=>
((run (Et base) 189 [(vI n20)] r28.2).bind fun r33=>
((some r33.1).bind (getI .i64)).bind fun n34=>
(if (n34 != (5:Int))=true then
some (.inl ([some (vI n20),some (vI n21),some (vA d22),some (vL l30.1 l30.2),some (vI (1:Int))],r33.2))
else
some (.inl ([some (vI n20),some (vI n21),some (vA d22),some (vL l30.1 l30.2),some (vI (0:Int))],r33.2)))).bind fun j32=>joinK j32 fun j32=>
j_IIALI j32.1 fun n35 n36 d37 l38 n39=>
(loopL (B145_0 base) [some (vI n35),some (vI n36),some (vA d37),some (vL l38.1 l38.2),some (vI n39)] j32.2).bind fun q40=>
(if q40.1=1 then
((sget q40.2.1 0).bind getB).bind fun b41=>
some ((.bool b41),q40.2.2)
else
(if q40.1=2 then
some ((.bool true),q40.2.2)
else
none))))
theorem r145 {base:Nat} {v0_0:Option Addr} {v0_0n:Nat} {v0_1:Option Addr} {v0_1n:Nat} {v0_2:Int} {v1:Int} {v2:Int} {h:AH} {r:Value×AH} (hx:qf145 base v0_0 v0_0n v0_1 v0_1n v0_2 v1 v2 h=some r):run (Et base) 145 [(.agg #[(vL v0_0 v0_0n),(vL v0_1 v0_1n),(vI v0_2)]),(vI v1),(vI v2)] h=some r:=run_i (an:=a145) Try.func145 (by kernel_rfl) (.trans (by kernel_rfl) hx)
noncomputable def B146_0 (base:Nat):Body:=fun l h=>lay s146_0 l fun s=>exCode (Et base) (run (Et base)) loopL a146_0 (subC [1,1,0,1,0,0] (bodyC Try.f146)) s h (keepK s146_0 e146_0)
theorem B146_0_eq (base:Nat) (v0:Int) (v3:Option Addr) (v3n:Nat) (v4:Int) (h:AH):B146_0 base [some (vI v0),some (vL v3 v3n),some (vI v4)] h =
((if (decide (v4<v0))=true then
(if 0≤v4∧v4<((v3n:Nat):Int) then
((v3:Option Addr)).bind fun a1=>
(wr base h a1.block (a1.off+Int.toNat v4*1) [(.int .i64 (-1:Int))]).bind fun h2=>
some (0,[some (.int .i64 v0),some (.slice v3 v3n v3n),some (.int .i64 (IntKind.wrap .i64 (v4+(1:Int))))],h2)
else none)
else
some (2,[some (.slice v3 v3n v3n)],h)):Option (Nat×Slots×AH)):=by kernel_rfl
theorem r146 {base:Nat} {v0:Int} {h:AH} {r:Value×AH} (hx:((if v0=v0∧0≤v0∧v0*8≤140737488355328∧v0≤140737488355328 then
(some (h++[some ⟨rep [(.int .i64 0)] (Int.toNat v0),3⟩])).bind fun h1=>
(loopL (B146_0 base) [some (.int .i64 v0),some (.slice (some ⟨(List.length h),0,none⟩) (Int.toNat v0) (Int.toNat v0)),some (.int .i64 (0:Int))] h1).bind fun q2=>
(if q2.1=2 then
((sget q2.2.1 0).bind getS).bind fun l3=>
some ((.slice l3.1 l3.2 l3.2),q2.2.2)
else
none)
else none))=some r):run (Et base) 146 [(vI v0)] h=some r:=run_i (an:=a146) Try.func146 (by kernel_rfl) (.trans (by kernel_rfl) hx)
noncomputable def B147_0 (base:Nat):Body:=fun l h=>lay s147_0 l fun s=>exCode (Et base) (run (Et base)) loopL a147_0 (subC [1,1,1,1,1,1,1,1,1,1,1,1,1,1,0,1,0,0] (bodyC Try.f147)) s h (keepK s147_0 e147_0)
theorem B147_0_eq (base:Nat) (v0:Option Addr) (v1:Int) (v5:Int) (v7:Option Addr) (v7n:Nat) (v8:Int) (v9:Option Addr) (v9n:Nat) (v11:Bool) (v12:Int) (v14:Int) (h:AH):B147_0 base [some (.pointer v0),some (vI v1),some (vI v5),some (vL v7 v7n),some (vI v8),some (vL v9 v9n),some (.bool v11),some (vI v12),some (vI v14)] h =
(((if (decide (v14<v5))=true then
(run (Et base) 189 [(vI v1)] h).bind fun r2=>
((some r2.1).bind (getI .i64)).bind fun n3=>
some (.inl ([some (.pointer v0),some (vI v1),some (vI v5),some (vL v7 v7n),some (vI v8),some (vL v9 v9n),some (.bool v11),some (vI v12),some (vI v14),some (.bool (n3 != (6:Int)))],r2.2))
else
some (.inl ([some (.pointer v0),some (vI v1),some (vI v5),some (vL v7 v7n),some (vI v8),some (vL v9 v9n),some (.bool v11),some (vI v12),some (vI v14),some (.bool false)],h)))).bind fun j1=>joinK j1 fun j1=>
j_PIILILBIIB j1.1 fun p4 n5 n6 l7 n8 l9 b10 n11 n12 b13=>
(if b13=true then
((if 0≤n12∧n12<((l9.2:Nat):Int) then
((l9.1:Option Addr)).bind fun a15=>
((cell j1.2 a15.block (a15.off+Int.toNat n12*1)).bind (getI .i64)).bind fun n16=>
(run (Et base) 147 [(.pointer p4),(vI n16)] j1.2).bind fun r17=>
((some r17.1).bind (getI .i64)).bind fun n18=>
(if b10=true then
(p4).bind fun a19=>
((cell r17.2 a19.block ((a19.off+3)+0)).bind getS).bind fun l20=>
(if 0≤(IntKind.wrap .i64 (n11+n12))∧(IntKind.wrap .i64 (n11+n12))<((l20.2:Nat):Int) then
((l20.1:Option Addr)).bind fun a21=>
(wr base r17.2 a21.block (a21.off+Int.toNat (IntKind.wrap .i64 (n11+n12))*1) [(vI n18)]).bind fun h22=>
some (.inl ([some (.pointer p4),some (vI n5),some (vI n6),some (vL l7.1 l7.2),some (vI n8),some (vL l9.1 l9.2),some (.bool b10),some (vI n11),some (vI n12)],h22))
else none)
else
(p4).bind fun a23=>
((cell r17.2 a23.block ((a23.off+3)+1)).bind getS).bind fun l24=>
(if 0≤(IntKind.wrap .i64 (n11+n12))∧(IntKind.wrap .i64 (n11+n12))<((l24.2:Nat):Int) then
((l24.1:Option Addr)).bind fun a25=>
(wr base r17.2 a25.block (a25.off+Int.toNat (IntKind.wrap .i64 (n11+n12))*1) [(vI n18)]).bind fun h26=>
some (.inl ([some (.pointer p4),some (vI n5),some (vI n6),some (vL l7.1 l7.2),some (vI n8),some (vL l9.1 l9.2),some (.bool b10),some (vI n11),some (vI n12)],h26))
else none))
else none)).bind fun j14=>joinK j14 fun j14=>
j_PIILILBII j14.1 fun p27 n28 n29 l30 n31 l32 b33 n34 n35=>
some (0,[some (.pointer p27),some (vI n28),some (vI n29),some (vL l30.1 l30.2),some (vI n31),some (vL l32.1 l32.2),some (.bool b33),some (vI n34),some (vI (IntKind.wrap .i64 (n35+(1:Int))))],j14.2)
else
some (2,[some (vI n5),some (vL l7.1 l7.2),some (vI n8)],j1.2)):Option (Nat×Slots×AH)):=by kernel_rfl
noncomputable abbrev qf147 (base:Nat) (v0:Option Addr) (v1:Int) (h:AH):Option (Value×AH):=
(v0).bind fun a1=>
c_LLI h a1.block (a1.off+0) fun l2 l3 n4=>
(run (Et base) 186 [(.agg #[(vL l2.1 l2.2),(vL l3.1 l3.2),(vI n4)]),(vI v1)] h).bind fun r5=>
((some r5.1).bind (getI .i64)).bind fun n6=>
(run (Et base) 187 [(vI v1)] r5.2).bind fun r7=>
((some r7.1).bind (getI .i64)).bind fun n8=>
((if (n6==(0:Int))=true then
some (.inl ([some (.pointer v0),some (vI v1),some (vI n6),some (vI n8),some (.bool true)],r7.2))
else
(if (decide (n8<(100000:Int)))=true then
(v0).bind fun a10=>
((cell r7.2 a10.block (a10.off+8)).bind getB).bind fun b11=>
some (.inl ([some (.pointer v0),some (vI v1),some (vI n6),some (vI n8),some (.bool (!b11))],r7.2))
else
some (.inl ([some (.pointer v0),some (vI v1),some (vI n6),some (vI n8),some (.bool false)],r7.2))))).bind fun j9=>joinK j9 fun j9=>
j_PIIIB j9.1 fun p12 n13 n14 n15 b16=>
(if b16=true then
some ((vI n13),j9.2)
else
(run (Et base) 190 [(.pointer p12),(vI n15)] j9.2).bind fun r17=>
(getTup 2 r17.1).bind fun l18=>
l_LI l18 fun l19 n20=>
(if 0≤n20∧n20<((l19.2:Nat):Int) then
((l19.1:Option Addr)).bind fun a21=>
((cell r17.2 a21.block (a21.off+Int.toNat n20*1)).bind (getI .i64)).bind fun n22=>
(if (decide (n22≥(0:Int)))=true then
(run (Et base) 189 [(vI n13)] r17.2).bind fun r23=>
((some r23.1).bind (getI .i64)).bind fun n24=>
(if 0≤n20∧n20<((l19.2:Nat):Int) then
((l19.1:Option Addr)).bind fun a25=>
(gate (sameA r17.2 r23.2 (some ⟨a25.block,(a25.off+Int.toNat n20*1),none⟩) 1)
(((cell r23.2 a25.block (a25.off+Int.toNat n20*1)).bind (getI .i64)).bind fun n26=>
(run (Et base) 191 [(vI n24),(vI n26)] r23.2).bind fun r27=>
((some r27.1).bind (getI .i64)).bind fun n28=>
some ((vI n28),r27.2)))
else none)
else
(p12).bind fun a29=>
c_LLI r17.2 a29.block (a29.off+0) fun l30 l31 n32=>
(run (Et base) 188 [(.agg #[(vL l30.1 l30.2),(vL l31.1 l31.2),(vI n32)]),(vI n15),(vI n14)] r17.2).bind fun r33=>
(getTup 2 r33.1).bind fun l34=>
l_LB l34 fun l35 b36=>
((p12).bind fun a38=>
((cell r33.2 a38.block (a38.off+8)).bind getB).bind fun b39=>
(if b39=true then
some (.inl ([some (.pointer p12),some (vI n13),some (vI n14),some (vL l19.1 l19.2),some (vI n20),some (vL l35.1 l35.2),some (.bool true)],r33.2))
else
(p12).bind fun a40=>
((cell r33.2 a40.block ((a40.off+0)+2)).bind (getI .i64)).bind fun n41=>
some (.inl ([some (.pointer p12),some (vI n13),some (vI n14),some (vL l19.1 l19.2),some (vI n20),some (vL l35.1 l35.2),some (.bool (decide (n15<(IntKind.wrap .i64 ((100000:Int)+n41)))))],r33.2)))).bind fun j37=>joinK j37 fun j37=>
j_PIILILB j37.1 fun p42 n43 n44 l45 n46 l47 b48=>
(p42).bind fun a49=>
((cell j37.2 a49.block ((a49.off+3)+0)).bind getS).bind fun l50=>
((if b48=true then
(p42).bind fun a52=>
((cell j37.2 a52.block ((a52.off+3)+0)).bind getS).bind fun l53=>
(app base j37.2 3 1 8 l53.1 l53.2 (rawAt j37.2 l47.1 (l47.2*1)) l47.2).bind fun p54=>
((some p54.1).bind getS).bind fun l55=>
(p42).bind fun a56=>
(wr base p54.2 a56.block ((a56.off+3)+0) [(vL l55.1 l55.2)]).bind fun h57=>
some (.inl ([some (.pointer p42),some (vI n43),some (vI n44),some (vL l45.1 l45.2),some (vI n46),some (vL l47.1 l47.2),some (.bool b48),some (vI ((l50.2:Nat):Int))],h57))
else
(p42).bind fun a58=>
((cell j37.2 a58.block ((a58.off+3)+1)).bind getS).bind fun l59=>
(p42).bind fun a60=>
((cell j37.2 a60.block ((a60.off+3)+1)).bind getS).bind fun l61=>
(app base j37.2 3 1 8 l61.1 l61.2 (rawAt j37.2 l47.1 (l47.2*1)) l47.2).bind fun p62=>
((some p62.1).bind getS).bind fun l63=>
(p42).bind fun a64=>
(wr base p62.2 a64.block ((a64.off+3)+1) [(vL l63.1 l63.2)]).bind fun h65=>
some (.inl ([some (.pointer p42),some (vI n43),some (vI n44),some (vL l45.1 l45.2),some (vI n46),some (vL l47.1 l47.2),some (.bool b48),some (vI ((l59.2:Nat):Int))],h65)))).bind fun j51=>joinK j51 fun j51=>
j_PIILILBI j51.1 fun p66 n67 n68 l69 n70 l71 b72 n73=>
(if 0≤n70∧n70<((l69.2:Nat):Int) then
((l69.1:Option Addr)).bind fun a74=>
(wr base j51.2 a74.block (a74.off+Int.toNat n70*1) [(vI n73)]).bind fun h75=>
((if (!b72)=true then
(if 0≤n70∧n70<((l69.2:Nat):Int) then
((l69.1:Option Addr)).bind fun a77=>
(wr base h75 a77.block (a77.off+Int.toNat n70*1) [(vI (IntKind.wrap .i64 ((100000:Int)+n73)))]).bind fun h78=>
some (.inl ([some (.pointer p66),some (vI n67),some (vI n68),some (vL l69.1 l69.2),some (vI n70),some (vL l71.1 l71.2),some (.bool b72),some (vI n73)],h78))
else none)
else
some (.inl ([some (.pointer p66),some (vI n67),some (vI n68),some (vL l69.1 l69.2),some (vI n70),some (vL l71.1 l71.2),some (.bool b72),some (vI n73)],h75)))).bind fun j76=>joinK j76 fun j76=>
j_PIILILBI j76.1 fun p79 n80 n81 l82 n83 l84 b85 n86=>
((run (Et base) 189 [(vI n80)] j76.2).bind fun r88=>
((some r88.1).bind (getI .i64)).bind fun n89=>
(if (n89 != (5:Int))=true then
some (.inl ([some (.pointer p79),some (vI n80),some (vI n81),some (vL l82.1 l82.2),some (vI n83),some (vL l84.1 l84.2),some (.bool b85),some (vI n86),some (vI (1:Int))],r88.2))
else
some (.inl ([some (.pointer p79),some (vI n80),some (vI n81),some (vL l82.1 l82.2),some (vI n83),some (vL l84.1 l84.2),some (.bool b85),some (vI n86),some (vI (0:Int))],r88.2)))).bind fun j87=>joinK j87 fun j87=>
j_PIILILBII j87.1 fun p90 n91 n92 l93 n94 l95 b96 n97 n98=>
(loopL (B147_0 base) [some (.pointer p90),some (vI n91),some (vI n92),some (vL l93.1 l93.2),some (vI n94),some (vL l95.1 l95.2),some (.bool b96),some (vI n97),some (vI n98)] j87.2).bind fun q99=>
(if q99.1=2 then
j_ILI q99.2.1 fun n100 l101 n102=>
(run (Et base) 189 [(vI n100)] q99.2.2).bind fun r103=>
((some r103.1).bind (getI .i64)).bind fun n104=>
(if 0≤n102∧n102<((l101.2:Nat):Int) then
((l101.1:Option Addr)).bind fun a105=>
(gate (sameA q99.2.2 r103.2 (some ⟨a105.block,(a105.off+Int.toNat n102*1),none⟩) 1)
(((cell r103.2 a105.block (a105.off+Int.toNat n102*1)).bind (getI .i64)).bind fun n106=>
(run (Et base) 191 [(vI n104),(vI n106)] r103.2).bind fun r107=>
((some r107.1).bind (getI .i64)).bind fun n108=>
some ((vI n108),r107.2)))
else none)
else
none)
else none))
else none))
theorem r147 {base:Nat} {v0:Option Addr} {v1:Int} {h:AH} {r:Value×AH} (hx:qf147 base v0 v1 h=some r):run (Et base) 147 [(.pointer v0),(vI v1)] h=some r:=run_i (an:=a147) Try.func147 (by kernel_rfl) (.trans (by kernel_rfl) hx)
theorem r148 {base:Nat} {v0:Option Addr} {v1:Int} {h:AH} {r:Value×AH} (hx:((if (decide (v1<(100000:Int)))=true then
some ((.int .i64 (0:Int)),h)
else
(v0).bind fun a1=>
((cell h a1.block (a1.off+2)).bind (getI .i64)).bind fun n2=>
(if (decide ((IntKind.wrap .i64 (v1-(100000:Int)))<n2))=true then
some ((.int .i64 (1:Int)),h)
else
some ((.int .i64 (2:Int)),h))))=some r):run (Et base) 148 [(.pointer v0),(vI v1)] h=some r:=run_i (an:=a148) Try.func148 (by kernel_rfl) (.trans (by kernel_rfl) hx)
theorem r149 {base:Nat} {v0:Int} {h:AH} {r:Value×AH} (hx:(some ((.int .i64 (IntKind.wrap .i64 (Int.tdiv (if (0:Int)>v0 then (0:Int) else v0) (8:Int)))),h))=some r):run (Et base) 149 [(vI v0)] h=some r:=run_i (an:=a149) Try.func149 (by kernel_rfl) (.trans (by kernel_rfl) hx)
theorem r150 {base:Nat} {v0:Int} {h:AH} {r:Value×AH} (hx:((run (Et base) 152 [(.int .i64 v0)] h).bind fun r1=>
((some r1.1).bind (getI .i64)).bind fun n2=>
(run (Et base) 83 [(.int .i64 n2),(.int .i64 (4:Int)),(.int .i64 (6:Int))] r1.2).bind fun r3=>
((some r3.1).bind getB).bind fun b4=>
some ((.bool b4),r3.2))=some r):run (Et base) 150 [(vI v0)] h=some r:=run_i (an:=a150) Try.func150 (by kernel_rfl) (.trans (by kernel_rfl) hx)
theorem r151 {base:Nat} {v0:Int} {v1:Int} {h:AH} {r:Value×AH} (hx:(((run (Et base) 83 [(.int .i64 v0),(.int .i64 (0:Int)),(.int .i64 (6:Int))] h).bind fun r2=>
((some r2.1).bind getB).bind fun b3=>
(if (!b3)=true then
some (.inl ([some (.int .i64 v0),some (.int .i64 v1),some (.bool true)],r2.2))
else
(run (Et base) 83 [(.int .i64 v1),(.int .i64 (0:Int)),(.int .i64 (4000000:Int))] r2.2).bind fun r4=>
((some r4.1).bind getB).bind fun b5=>
some (.inl ([some (.int .i64 v0),some (.int .i64 v1),some (.bool (!b5))],r4.2)))).bind fun j1=>joinK j1 fun j1=>
((sget j1.1 0).bind (getI .i64)).bind fun n6=>
((sget (j1.1.tail) 0).bind (getI .i64)).bind fun n7=>
((sget (j1.1.tail.tail) 0).bind getB).bind fun b8=>
(if b8=true then
some ((.int .i64 (0:Int)),j1.2)
else
some ((.int .i64 (IntKind.wrap .i64 (n6+(IntKind.wrap .i64 ((8:Int)*n7))))),j1.2)))=some r):run (Et base) 151 [(vI v0),(vI v1)] h=some r:=run_i (an:=a151) Try.func151 (by kernel_rfl) (.trans (by kernel_rfl) hx)
theorem r152 {base:Nat} {v0:Int} {h:AH} {r:Value×AH} (hx:(some ((.int .i64 (Int.tmod (if (0:Int)>v0 then (0:Int) else v0) (8:Int))),h))=some r):run (Et base) 152 [(vI v0)] h=some r:=run_i (an:=a152) Try.func152 (by kernel_rfl) (.trans (by kernel_rfl) hx)
theorem r153 {base:Nat} {v0:Option Addr} {v1:Int} {h:AH} {r:Value×AH} (hx:((run (Et base) 152 [(.int .i64 v1)] h).bind fun r1=>
((some r1.1).bind (getI .i64)).bind fun n2=>
(if (n2==(5:Int))=true then
some ((.int .i64 (2:Int)),r1.2)
else
(run (Et base) 149 [(.int .i64 v1)] r1.2).bind fun r3=>
((some r3.1).bind (getI .i64)).bind fun n4=>
(run (Et base) 154 [(.pointer v0),(.int .i64 n4)] r3.2).bind fun r5=>
(getTup 2 r5.1).bind fun l6=>
((l6[0]?).bind (getI .i64)).bind fun n7=>
((l6[1]?).bind getB).bind fun b8=>
some ((.int .i64 (IntKind.wrap .i64 (n7+(1:Int)))),r5.2)))=some r):run (Et base) 153 [(.pointer v0),(vI v1)] h=some r:=run_i (an:=a153) Try.func153 (by kernel_rfl) (.trans (by kernel_rfl) hx)
theorem r154 {base:Nat} {v0:Option Addr} {v1:Int} {h:AH} {r:Value×AH} (hx:((v0).bind fun a1=>
((cell h a1.block (a1.off+0)).bind getS).bind fun l2=>
((if (decide (v1≥(100000:Int)))=true then
(v0).bind fun a4=>
((cell h a4.block (a4.off+1)).bind getS).bind fun l5=>
some (.inl ([some (.int .i64 (IntKind.wrap .i64 (v1-(100000:Int)))),some (.slice l5.1 l5.2 l5.2)],h))
else
some (.inl ([some (.int .i64 v1),some (.slice l2.1 l2.2 l2.2)],h)))).bind fun j3=>joinK j3 fun j3=>
((sget j3.1 0).bind (getI .i64)).bind fun n6=>
((sget (j3.1.tail) 0).bind getS).bind fun l7=>
(run (Et base) 83 [(.int .i64 n6),(.int .i64 (0:Int)),(.int .i64 (IntKind.wrap .i64 (((l7.2:Nat):Int)-(1:Int))))] j3.2).bind fun r8=>
((some r8.1).bind getB).bind fun b9=>
(if (!b9)=true then
some ((.tuple #[(.int .i64 (0:Int)),(.bool false)]),r8.2)
else
(if 0≤n6∧n6<((l7.2:Nat):Int) then
((l7.1:Option Addr)).bind fun a10=>
((cell r8.2 a10.block (a10.off+Int.toNat n6*1)).bind (getI .i64)).bind fun n11=>
some ((.tuple #[(.int .i64 n11),(.bool true)]),r8.2)
else none)))=some r):run (Et base) 154 [(.pointer v0),(vI v1)] h=some r:=run_i (an:=a154) Try.func154 (by kernel_rfl) (.trans (by kernel_rfl) hx)
theorem r156 {base:Nat} {v0:Option Addr} {v1:Int} {h:AH} {r:Value×AH} (hx:((run (Et base) 133 [(.pointer v0),(.int .i64 v1)] h).bind fun r1=>
((some r1.1).bind (getI .i64)).bind fun n2=>
some ((.bool (n2==(0:Int))),r1.2))=some r):run (Et base) 156 [(.pointer v0),(vI v1)] h=some r:=run_i (an:=a156) Try.func156 (by kernel_rfl) (.trans (by kernel_rfl) hx)
noncomputable abbrev qf157 (base:Nat) (v0_0:Option Addr) (v0_0n:Nat) (v0_1:Option Addr) (v0_1n:Nat) (v0_2:Int) (v1:Option Addr) (v1n:Nat) (v2_0:Int) (v2_1:Int) (v2_2:ByteArray) (v2_3:Option Addr) (v2_3n:Nat) (h:AH):Option (Value×AH):=
nw1 h 63 [(vL v0_0 v0_0n),(vL v0_1 v0_1n),(vI v0_2)] fun h1=>
nw1 h1 42 [(vI v2_0),(vI v2_1),(vT v2_2),(vL v2_3 v2_3n)] fun h2=>
nw1 h2 63 [(vL none 0),(vL none 0),(vI 0)] fun h3=>
c_LLI h3 (List.length h) 0 fun l4 l5 n6=>
(run (Et base) 101 [(.agg #[(vL l4.1 l4.2),(vL l5.1 l5.2),(vI n6)])] h3).bind fun r7=>
gG (some r7.1) 3 fun l8=>
l_LLI l8 fun l9 l10 n11=>
nw1 r7.2 63 [(vL none 0),(vL none 0),(vI 0)] fun h12=>
(wr base h12 (List.length r7.2) 0 [(vL l9.1 l9.2),(vL l10.1 l10.2),(vI n11)]).bind fun h13=>
nw1 h13 9 [] fun h14=>
(app base h14 9 1 16 (some ⟨(List.length h13),0,none⟩) 0 (rawAt h14 v1 (v1n*1)) v1n).bind fun p15=>
((some p15.1).bind getS).bind fun l16=>
nw1 p15.2 59 [(vL none 0)] fun h17=>
(wr base h17 (List.length p15.2) 0 [(vL l16.1 l16.2)]).bind fun h18=>
(c_IITL h18 (List.length h1) 0 fun n20 n21 s22 l23=>
(run (Et base) 58 [(.agg #[(vI n20),(vI n21),(vT s22),(vL l23.1 l23.2)])] h18).bind fun r24=>
((some r24.1).bind getB).bind fun b25=>
(if (!b25)=true then
some (.inl ([some (vL v1 v1n),some (vP (List.length h)),some (vP (List.length h1)),some (vP (List.length h2)),some (vP (List.length r7.2)),some (vP (List.length p15.2)),some (.bool true)],r24.2))
else
((cell r24.2 (List.length h) 1).bind getS).bind fun l26=>
c_IITL r24.2 (List.length h1) 0 fun n27 n28 s29 l30=>
(run (Et base) 192 [(.agg #[(vI n27),(vI n28),(vT s29),(vL l30.1 l30.2)])] r24.2).bind fun r31=>
((some r31.1).bind (getI .i64)).bind fun n32=>
(gate (sameA r24.2 r31.2 (some ⟨(List.length h),1,none⟩) 1)
(some (.inl ([some (vL v1 v1n),some (vP (List.length h)),some (vP (List.length h1)),some (vP (List.length h2)),some (vP (List.length r7.2)),some (vP (List.length p15.2)),some (.bool (decide ((IntKind.wrap .i64 (((l26.2:Nat):Int)+n32))>(1000:Int))))],r31.2)))))).bind fun j19=>joinK j19 fun j19=>
j_LAAAAAB j19.1 fun l33 d34 d35 d36 d37 d38 b39=>
(if b39=true then
c_LLI j19.2 d37.block d37.off fun l40 l41 n42=>
((cell j19.2 d38.block d38.off).bind getS).bind fun l43=>
(wr base j19.2 d36.block d36.off [(vL l40.1 l40.2),(vL l41.1 l41.2),(vI n42)]).bind fun h44=>
(gate (sameA j19.2 h44 (some d38) 1)
(c_LLI h44 d36.block d36.off fun l45 l46 n47=>
some ((.tuple #[(.agg #[(vL l45.1 l45.2),(vL l46.1 l46.2),(vI n47)]),(vL l43.1 l43.2),(vI (0:Int)),(.bool false)]),h44)))
else
c_IITL j19.2 d35.block d35.off fun n48 n49 s50 l51=>
((cell j19.2 d34.block (d34.off+1)).bind getS).bind fun l52=>
(run (Et base) 193 [(vA d38),(.agg #[(vI n48),(vI n49),(vT s50),(vL l51.1 l51.2)]),(vI ((l52.2:Nat):Int))] j19.2).bind fun r53=>
(getTup 3 r53.1).bind fun l54=>
l_LIB l54 fun l55 n56 b57=>
(if (!b57)=true then
c_LLI r53.2 d37.block d37.off fun l58 l59 n60=>
(gate (neA (some d37) (List.length r53.2))
(nw1 r53.2 9 [] fun h61=>
(app base h61 9 1 16 (some ⟨(List.length r53.2),0,none⟩) 0 (rawAt h61 l33.1 (l33.2*1)) l33.2).bind fun p62=>
((some p62.1).bind getS).bind fun l63=>
(gate (sameA h61 p62.2 (some d37) 3)
((wr base p62.2 d36.block d36.off [(vL l58.1 l58.2),(vL l59.1 l59.2),(vI n60)]).bind fun h64=>
c_LLI h64 d36.block d36.off fun l65 l66 n67=>
some ((.tuple #[(.agg #[(vL l65.1 l65.2),(vL l66.1 l66.2),(vI n67)]),(vL l63.1 l63.2),(vI (0:Int)),(.bool false)]),h64)))))
else
((cell r53.2 d37.block (d37.off+1)).bind getS).bind fun l68=>
(app base r53.2 3 1 8 l68.1 l68.2 (rawAt r53.2 l55.1 (l55.2*1)) l55.2).bind fun p69=>
((some p69.1).bind getS).bind fun l70=>
(wr base p69.2 d37.block (d37.off+1) [(vL l70.1 l70.2)]).bind fun h71=>
c_LLI h71 d37.block d37.off fun l72 l73 n74=>
((cell h71 d38.block d38.off).bind getS).bind fun l75=>
(wr base h71 d36.block d36.off [(vL l72.1 l72.2),(vL l73.1 l73.2),(vI n74)]).bind fun h76=>
(gate (sameA h71 h76 (some d38) 1)
(c_LLI h76 d36.block d36.off fun l77 l78 n79=>
some ((.tuple #[(.agg #[(vL l77.1 l77.2),(vL l78.1 l78.2),(vI n79)]),(vL l75.1 l75.2),(vI n56),(.bool true)]),h76)))))
theorem r157 {base:Nat} {v0_0:Option Addr} {v0_0n:Nat} {v0_1:Option Addr} {v0_1n:Nat} {v0_2:Int} {v1:Option Addr} {v1n:Nat} {v2_0:Int} {v2_1:Int} {v2_2:ByteArray} {v2_3:Option Addr} {v2_3n:Nat} {h:AH} {r:Value×AH} (hx:qf157 base v0_0 v0_0n v0_1 v0_1n v0_2 v1 v1n v2_0 v2_1 v2_2 v2_3 v2_3n h=some r):run (Et base) 157 [(.agg #[(vL v0_0 v0_0n),(vL v0_1 v0_1n),(vI v0_2)]),(vL v1 v1n),(.agg #[(vI v2_0),(vI v2_1),(vT v2_2),(vL v2_3 v2_3n)])] h=some r:=run_i (an:=a157) Try.func157 (by kernel_rfl) (.trans (by kernel_rfl) hx)
noncomputable def B158_0 (base:Nat):Body:=fun l h=>lay s158_0 l fun s=>exCode (Et base) (run (Et base)) loopL a158_0 (subC [1,0,1,0,0] (bodyC Try.f158)) s h (keepK s158_0 e158_0)
theorem B158_0_eq (base:Nat) (v0:ByteArray) (v3:Int) (h:AH):B158_0 base [some (vT v0),some (vI v3)] h =
((if (decide (v3<(v0.size:Int)))=true then
((if 0≤v3∧v3<(v0.size:Int) then
(run (Et base) 194 [(.int .u8 ((v0.data.toList.getD (Int.toNat v3) 0).toNat:Int))] h).bind fun r2=>
((some r2.1).bind getB).bind fun b3=>
(if (!b3)=true then
(if (v3==(0:Int))=true then
some (.inl ([some (.string v0),some (.int .i64 v3),some (.bool true)],r2.2))
else
(if 0≤v3∧v3<(v0.size:Int) then
(run (Et base) 195 [(.int .u8 ((v0.data.toList.getD (Int.toNat v3) 0).toNat:Int))] r2.2).bind fun r4=>
((some r4.1).bind getB).bind fun b5=>
some (.inl ([some (.string v0),some (.int .i64 v3),some (.bool (!b5))],r4.2))
else none))
else
some (.inl ([some (.string v0),some (.int .i64 v3),some (.bool false)],r2.2)))
else none)).bind fun j1=>joinK j1 fun j1=>
((sget j1.1 0).bind getStr).bind fun s6=>
((sget (j1.1.tail) 0).bind (getI .i64)).bind fun n7=>
((sget (j1.1.tail.tail) 0).bind getB).bind fun b8=>
(if b8=true then
some (1,[some (.bool false)],j1.2)
else
some (0,[some (.string s6),some (.int .i64 (IntKind.wrap .i64 (n7+(1:Int))))],j1.2))
else
some (2,[some (.string v0)],h)):Option (Nat×Slots×AH)):=by kernel_rfl
theorem r158 {base:Nat} {v0:ByteArray} {h:AH} {r:Value×AH} (hx:((loopL (B158_0 base) [some (.string v0),some (.int .i64 (0:Int))] h).bind fun q1=>
(if q1.1=1 then
((sget q1.2.1 0).bind getB).bind fun b2=>
some ((.bool b2),q1.2.2)
else
(if q1.1=2 then
((sget q1.2.1 0).bind getStr).bind fun s3=>
(run (Et base) 83 [(.int .i64 (s3.size:Int)),(.int .i64 (1:Int)),(.int .i64 (12:Int))] q1.2.2).bind fun r4=>
((some r4.1).bind getB).bind fun b5=>
some ((.bool b5),r4.2)
else
none)))=some r):run (Et base) 158 [(vT v0)] h=some r:=run_i (an:=a158) Try.func158 (by kernel_rfl) (.trans (by kernel_rfl) hx)
noncomputable def B159_0 (base:Nat):Body:=fun l h=>lay s159_0 l fun s=>exCode (Et base) (run (Et base)) loopL a159_0 (subC [1,0,1,0,0] (bodyC Try.f159)) s h (keepK s159_0 e159_0)
theorem B159_0_eq (base:Nat) (v1:ByteArray) (v7:Option Addr) (v7n:Nat) (v8:Int) (v9:Int) (h:AH):B159_0 base [some (vT v1),some (vL v7 v7n),some (vI v8),some (vI v9)] h =
((if (decide (v9<v8))=true then
(if 0≤v9∧v9<((v7n:Nat):Int) then
((v7:Option Addr)).bind fun a1=>
((cell h a1.block (a1.off+Int.toNat v9*1)).bind getStr).bind fun s2=>
(if (s2.toList==v1.toList)=true then
some (1,[some (.int .i64 v9)],h)
else
some (0,[some (.string v1),some (.slice v7 v7n v7n),some (.int .i64 v8),some (.int .i64 (IntKind.wrap .i64 (v9+(1:Int))))],h))
else none)
else
some (2,[],h)):Option (Nat×Slots×AH)):=by kernel_rfl
theorem r159 {base:Nat} {v0:Option Addr} {v0n:Nat} {v1:ByteArray} {h:AH} {r:Value×AH} (hx:((loopL (B159_0 base) [some (.string v1),some (.slice v0 v0n v0n),some (.int .i64 ((v0n:Nat):Int)),some (.int .i64 (0:Int))] h).bind fun q1=>
(if q1.1=1 then
((sget q1.2.1 0).bind (getI .i64)).bind fun n2=>
some ((.int .i64 n2),q1.2.2)
else
(if q1.1=2 then
some ((.int .i64 (-1:Int)),q1.2.2)
else
none)))=some r):run (Et base) 159 [(vL v0 v0n),(vT v1)] h=some r:=run_i (an:=a159) Try.func159 (by kernel_rfl) (.trans (by kernel_rfl) hx)
theorem r160 {base:Nat} {v0:Fn} {v0p v0q:Array Value} {v1:Option Addr} {v1n:Nat} {v2:Int} {h:AH} {r:Value×AH} (hx:(nw1 h 42 [(vI 0),(vI 0),(vT ⟨#[]⟩),(vL none 0)] fun h1=>
nw1 h1 208 [(.func v0 v0p v0q),(vL v1 v1n),(vI (0:Int)),(.bool false)] fun h2=>
(run (Et base) 196 [(vP (List.length h1)),(vI v2),(vI (1:Int))] h2).bind fun r3=>
gG (some r3.1) 4 fun l4=>
l_IITL l4 fun n5 n6 s7 l8=>
nw1 r3.2 42 [(vI 0),(vI 0),(vT ⟨#[]⟩),(vL none 0)] fun h9=>
(wr base h9 (List.length r3.2) 0 [(vI n5),(vI n6),(vT s7),(vL l8.1 l8.2)]).bind fun h10=>
(((cell h10 (List.length h1) 3).bind getB).bind fun b12=>
(if b12=true then
some (.inl ([some (vP (List.length h)),some (vP (List.length r3.2)),some (.bool true)],h10))
else
c_IITL h10 (List.length r3.2) 0 fun n13 n14 s15 l16=>
(run (Et base) 65 [(.agg #[(vI n13),(vI n14),(vT s15),(vL l16.1 l16.2)])] h10).bind fun r17=>
((some r17.1).bind getB).bind fun b18=>
some (.inl ([some (vP (List.length h)),some (vP (List.length r3.2)),some (.bool (!b18))],r17.2)))).bind fun j11=>joinK j11 fun j11=>
j_AAB j11.1 fun d19 d20 b21=>
(if b21=true then
(wr base j11.2 d19.block d19.off [(vI (0:Int)),(vI (0:Int)),(vT (⟨#[]⟩:ByteArray)),(vL none 0)]).bind fun h22=>
c_IITL h22 d19.block d19.off fun n23 n24 s25 l26=>
some ((.tuple #[(.agg #[(vI n23),(vI n24),(vT s25),(vL l26.1 l26.2)]),(.bool false)]),h22)
else
c_IITL j11.2 d20.block d20.off fun n27 n28 s29 l30=>
(wr base j11.2 d19.block d19.off [(vI n27),(vI n28),(vT s29),(vL l30.1 l30.2)]).bind fun h31=>
c_IITL h31 d19.block d19.off fun n32 n33 s34 l35=>
some ((.tuple #[(.agg #[(vI n32),(vI n33),(vT s34),(vL l35.1 l35.2)]),(.bool true)]),h31)))=some r):run (Et base) 160 [(.func v0 v0p v0q),(vL v1 v1n),(vI v2)] h=some r:=run_i (an:=a160) Try.func160 (by kernel_rfl) (.trans (by kernel_rfl) hx)
noncomputable def B161_0 (base:Nat):Body:=fun l h=>lay s161_0 l fun s=>exCode (Et base) (run (Et base)) loopL a161_0 (subC [1,1,1,1,0,1,0,0] (bodyC Try.f161)) s h (keepK s161_0 e161_0)
theorem B161_0_eq (base:Nat) (v0:Option Addr) (v1:Int) (v5:Int) (v7:Option Addr) (v7n:Nat) (v8:Int) (h:AH):B161_0 base [some (.pointer v0),some (vI v1),some (vI v5),some (vL v7 v7n),some (vI v8)] h =
((run (Et base) 153 [(.pointer v0),(.int .i64 v1)] h).bind fun r1=>
((some r1.1).bind (getI .i64)).bind fun n2=>
(if (decide (v8<n2))=true then
(run (Et base) 154 [(.pointer v0),(.int .i64 (IntKind.wrap .i64 (v5+v8)))] r1.2).bind fun r3=>
(getTup 2 r3.1).bind fun l4=>
((l4[0]?).bind (getI .i64)).bind fun n5=>
((l4[1]?).bind getB).bind fun b6=>
(some (r3.2++[some ⟨[(.int .i64 n5)],3⟩])).bind fun h7=>
(app base h7 3 1 8 v7 v7n (rawAt h7 (some ⟨(List.length r3.2),0,none⟩) (1*1)) 1).bind fun p8=>
((some p8.1).bind getS).bind fun l9=>
some (0,[some (.pointer v0),some (.int .i64 v1),some (.int .i64 v5),some (.slice l9.1 l9.2 l9.2),some (.int .i64 (IntKind.wrap .i64 (v8+(1:Int))))],p8.2)
else
some (3,[some (.slice v7 v7n v7n)],r1.2)):Option (Nat×Slots×AH)):=by kernel_rfl
theorem r161 {base:Nat} {v0:Option Addr} {v1:Int} {h:AH} {r:Value×AH} (hx:((run (Et base) 149 [(.int .i64 v1)] h).bind fun r1=>
((some r1.1).bind (getI .i64)).bind fun n2=>
((run (Et base) 152 [(.int .i64 v1)] r1.2).bind fun r4=>
((some r4.1).bind (getI .i64)).bind fun n5=>
(if (n5==(6:Int))=true then
(some ((.slice none 0 0),r4.2)).map .inr
else
(if (n5==(5:Int))=true then
some (.inl ([some (.pointer v0),some (.int .i64 v1),some (.int .i64 n2),some (.int .i64 (0:Int))],r4.2))
else
some (.inl ([some (.pointer v0),some (.int .i64 v1),some (.int .i64 n2),some (.int .i64 (1:Int))],r4.2))))).bind fun j3=>joinK j3 fun j3=>
((sget j3.1 0).bind getP).bind fun p6=>
((sget (j3.1.tail) 0).bind (getI .i64)).bind fun n7=>
((sget (j3.1.tail.tail) 0).bind (getI .i64)).bind fun n8=>
((sget (j3.1.tail.tail.tail) 0).bind (getI .i64)).bind fun n9=>
(loopL (B161_0 base) [some (.pointer p6),some (.int .i64 n7),some (.int .i64 n8),some (.slice none 0 0),some (.int .i64 n9)] j3.2).bind fun q10=>
(if q10.1=3 then
((sget q10.2.1 0).bind getS).bind fun l11=>
some ((.slice l11.1 l11.2 l11.2),q10.2.2)
else
none))=some r):run (Et base) 161 [(.pointer v0),(vI v1)] h=some r:=run_i (an:=a161) Try.func161 (by kernel_rfl) (.trans (by kernel_rfl) hx)
noncomputable abbrev qf162 (base:Nat) (v0:Option Addr) (v1:Int) (v2:Int) (h:AH):Option (Value×AH):=
nw1 h 42 [(vI 0),(vI 0),(vT ⟨#[]⟩),(vL none 0)] fun h1=>
(v0).bind fun a2=>
((cell h1 a2.block (a2.off+4)).bind (getI .i64)).bind fun n3=>
(v0).bind fun a4=>
(wr base h1 a4.block (a4.off+4) [(vI (IntKind.wrap .i64 (n3-(1:Int))))]).bind fun h5=>
((if (decide (v1<(0:Int)))=true then
some (.inl ([some (.pointer v0),some (vI v1),some (vI v2),some (vP (List.length h)),some (.bool true)],h5))
else
(if (decide (v2<(1:Int)))=true then
some (.inl ([some (.pointer v0),some (vI v1),some (vI v2),some (vP (List.length h)),some (.bool true)],h5))
else
(v0).bind fun a7=>
((cell h5 a7.block (a7.off+4)).bind (getI .i64)).bind fun n8=>
some (.inl ([some (.pointer v0),some (vI v1),some (vI v2),some (vP (List.length h)),some (.bool (decide (n8<(0:Int))))],h5))))).bind fun j6=>joinK j6 fun j6=>
j_PIIAB j6.1 fun p9 n10 n11 d12 b13=>
(if b13=true then
(p9).bind fun a14=>
(wr base j6.2 a14.block (a14.off+5) [(.bool true)]).bind fun h15=>
(wr base h15 d12.block d12.off [(vI (0:Int)),(vI (0:Int)),(vT (⟨#[]⟩:ByteArray)),(vL none 0)]).bind fun h16=>
c_IITL h16 d12.block d12.off fun n17 n18 s19 l20=>
some ((.agg #[(vI n17),(vI n18),(vT s19),(vL l20.1 l20.2)]),h16)
else
(run (Et base) 189 [(vI n10)] j6.2).bind fun r21=>
((some r21.1).bind (getI .i64)).bind fun n22=>
((if (n22==(3:Int))=true then
some (.inl ([some (.pointer p9),some (vI n10),some (vI n11),some (vA d12),some (vI n22),some (.bool (n22==(3:Int)))],r21.2))
else
some (.inl ([some (.pointer p9),some (vI n10),some (vI n11),some (vA d12),some (vI n22),some (.bool (n22==(5:Int)))],r21.2)))).bind fun j23=>joinK j23 fun j23=>
j_PIIAIB j23.1 fun p24 n25 n26 d27 n28 b29=>
(if b29=true then
(run (Et base) 197 [(.pointer p24),(vI n25),(vI n26)] j23.2).bind fun r30=>
gG (some r30.1) 4 fun l31=>
l_IITL l31 fun n32 n33 s34 l35=>
(wr base r30.2 d27.block d27.off [(vI n32),(vI n33),(vT s34),(vL l35.1 l35.2)]).bind fun h36=>
c_IITL h36 d27.block d27.off fun n37 n38 s39 l40=>
some ((.agg #[(vI n37),(vI n38),(vT s39),(vL l40.1 l40.2)]),h36)
else
(if (n28==(4:Int))=true then
(run (Et base) 187 [(vI n25)] j23.2).bind fun r41=>
((some r41.1).bind (getI .i64)).bind fun n42=>
(run (Et base) 198 [(.pointer p24),(vI n42),(vI n26)] r41.2).bind fun r43=>
gG (some r43.1) 4 fun l44=>
l_IITL l44 fun n45 n46 s47 l48=>
(wr base r43.2 d27.block d27.off [(vI n45),(vI n46),(vT s47),(vL l48.1 l48.2)]).bind fun h49=>
c_IITL h49 d27.block d27.off fun n50 n51 s52 l53=>
some ((.agg #[(vI n50),(vI n51),(vT s52),(vL l53.1 l53.2)]),h49)
else
(if (n28==(6:Int))=true then
(run (Et base) 187 [(vI n25)] j23.2).bind fun r54=>
((some r54.1).bind (getI .i64)).bind fun n55=>
(run (Et base) 199 [(.pointer p24),(vI n55)] r54.2).bind fun r56=>
gG (some r56.1) 4 fun l57=>
l_IITL l57 fun n58 n59 s60 l61=>
(wr base r56.2 d27.block d27.off [(vI n58),(vI n59),(vT s60),(vL l61.1 l61.2)]).bind fun h62=>
c_IITL h62 d27.block d27.off fun n63 n64 s65 l66=>
some ((.agg #[(vI n63),(vI n64),(vT s65),(vL l66.1 l66.2)]),h62)
else
(p24).bind fun a67=>
((cell j23.2 a67.block (a67.off+3)).bind getS).bind fun l68=>
nw1 j23.2 213 [(vL none 0),(vL l68.1 l68.2),(vI (1:Int)),(.bool false)] fun h69=>
(run (Et base) 200 [(vP (List.length j23.2)),(vI n25),(vI (1:Int))] h69).bind fun r70=>
gG (some r70.1) 4 fun l71=>
l_IITL l71 fun n72 n73 s74 l75=>
nw1 r70.2 42 [(vI 0),(vI 0),(vT ⟨#[]⟩),(vL none 0)] fun h76=>
(wr base h76 (List.length r70.2) 0 [(vI n72),(vI n73),(vT s74),(vL l75.1 l75.2)]).bind fun h77=>
((p24).bind fun a79=>
((cell h77 a79.block (a79.off+5)).bind getB).bind fun b80=>
(if b80=true then
(p24).bind fun a81=>
(wr base h77 a81.block (a81.off+5) [(.bool true)]).bind fun h82=>
some (.inl ([some (vA d27),some (vP (List.length r70.2))],h82))
else
((cell h77 (List.length j23.2) 3).bind getB).bind fun b83=>
(p24).bind fun a84=>
(wr base h77 a84.block (a84.off+5) [(.bool b83)]).bind fun h85=>
some (.inl ([some (vA d27),some (vP (List.length r70.2))],h85)))).bind fun j78=>joinK j78 fun j78=>
j_AA j78.1 fun d86 d87=>
c_IITL j78.2 d87.block d87.off fun n88 n89 s90 l91=>
(wr base j78.2 d86.block d86.off [(vI n88),(vI n89),(vT s90),(vL l91.1 l91.2)]).bind fun h92=>
c_IITL h92 d86.block d86.off fun n93 n94 s95 l96=>
some ((.agg #[(vI n93),(vI n94),(vT s95),(vL l96.1 l96.2)]),h92)))))
theorem r162 {base:Nat} {v0:Option Addr} {v1:Int} {v2:Int} {h:AH} {r:Value×AH} (hx:qf162 base v0 v1 v2 h=some r):run (Et base) 162 [(.pointer v0),(vI v1),(vI v2)] h=some r:=run_i (an:=a162) Try.func162 (by kernel_rfl) (.trans (by kernel_rfl) hx)
noncomputable abbrev qf164 (base:Nat) (v0_0:Int) (v0_1:Int) (v0_2:ByteArray) (v0_3:Option Addr) (v0_3n:Nat) (h:AH):Option (Value×AH):=
nw1 h 42 [(vI v0_0),(vI v0_1),(vT v0_2),(vL v0_3 v0_3n)] fun h1=>
((cell h1 (List.length h) 3).bind getS).bind fun l2=>
((cell h1 (List.length h) 0).bind (getI .i64)).bind fun n3=>
(if (n3==(1:Int))=true then
((cell h1 (List.length h) 1).bind (getI .i64)).bind fun n4=>
(run (Et base) 90 [(vI n4),(vI (-1000000:Int)),(vI (1000000:Int))] h1).bind fun r5=>
((some r5.1).bind getB).bind fun b6=>
(if b6=true then
((cell r5.2 (List.length h) 2).bind getStr).bind fun s7=>
(if (s7.toList==(⟨#[]⟩:ByteArray).toList)=true then
some ((.bool (((l2.2:Nat):Int)==(0:Int))),r5.2)
else
some ((.bool false),r5.2))
else
some ((.bool false),r5.2))
else
(if (n3==(2:Int))=true then
((cell h1 (List.length h) 2).bind getStr).bind fun s8=>
(run (Et base) 183 [(vT s8)] h1).bind fun r9=>
((some r9.1).bind getB).bind fun b10=>
(if b10=true then
((cell r9.2 (List.length h) 1).bind (getI .i64)).bind fun n11=>
(if (n11==(0:Int))=true then
some ((.bool (((l2.2:Nat):Int)==(0:Int))),r9.2)
else
some ((.bool false),r9.2))
else
some ((.bool false),r9.2))
else
(if (n3==(3:Int))=true then
((cell h1 (List.length h) 1).bind (getI .i64)).bind fun n12=>
(run (Et base) 90 [(vI n12),(vI (0:Int)),(vI (99999:Int))] h1).bind fun r13=>
((some r13.1).bind getB).bind fun b14=>
(if b14=true then
((cell r13.2 (List.length h) 2).bind getStr).bind fun s15=>
(if (s15.toList==(⟨#[]⟩:ByteArray).toList)=true then
some ((.bool (((l2.2:Nat):Int)==(0:Int))),r13.2)
else
some ((.bool false),r13.2))
else
some ((.bool false),r13.2))
else
(if (n3==(4:Int))=true then
((cell h1 (List.length h) 1).bind (getI .i64)).bind fun n16=>
(if (n16==(0:Int))=true then
((cell h1 (List.length h) 2).bind getStr).bind fun s17=>
(if (s17.toList==(⟨#[]⟩:ByteArray).toList)=true then
some ((.bool (decide (((l2.2:Nat):Int)≤(8:Int)))),h1)
else
some ((.bool false),h1))
else
some ((.bool false),h1))
else
(if (n3==(5:Int))=true then
((cell h1 (List.length h) 1).bind (getI .i64)).bind fun n18=>
(if (n18==(0:Int))=true then
((cell h1 (List.length h) 2).bind getStr).bind fun s19=>
(if (s19.toList==(⟨#[]⟩:ByteArray).toList)=true then
some ((.bool (decide (((l2.2:Nat):Int)≤(20:Int)))),h1)
else
some ((.bool false),h1))
else
some ((.bool false),h1))
else
(if (n3==(6:Int))=true then
((cell h1 (List.length h) 1).bind (getI .i64)).bind fun n20=>
(if (n20==(0:Int))=true then
((cell h1 (List.length h) 2).bind getStr).bind fun s21=>
(if (decide ((s21.size:Int)≤(40:Int)))=true then
some ((.bool (((l2.2:Nat):Int)==(0:Int))),h1)
else
some ((.bool false),h1))
else
some ((.bool false),h1))
else
some ((.bool false),h1)))))))
theorem r164 {base:Nat} {v0_0:Int} {v0_1:Int} {v0_2:ByteArray} {v0_3:Option Addr} {v0_3n:Nat} {h:AH} {r:Value×AH} (hx:qf164 base v0_0 v0_1 v0_2 v0_3 v0_3n h=some r):run (Et base) 164 [(.agg #[(vI v0_0),(vI v0_1),(vT v0_2),(vL v0_3 v0_3n)])] h=some r:=run_i (an:=a164) Try.func164 (by kernel_rfl) (.trans (by kernel_rfl) hx)
noncomputable abbrev qf166 (base:Nat) (v0_0:Int) (v0_1:Int) (v0_2:ByteArray) (v0_3:Option Addr) (v0_3n:Nat) (h:AH):Option (Value×AH):=
nw1 h 42 [(vI v0_0),(vI v0_1),(vT v0_2),(vL v0_3 v0_3n)] fun h1=>
((cell h1 (List.length h) 0).bind (getI .i64)).bind fun n2=>
(if (n2==(1:Int))=true then
((cell h1 (List.length h) 1).bind (getI .i64)).bind fun n3=>
(run (Et base) 83 [(vI n3),(vI (-1000000:Int)),(vI (1000000:Int))] h1).bind fun r4=>
((some r4.1).bind getB).bind fun b5=>
(if b5=true then
((cell r4.2 (List.length h) 2).bind getStr).bind fun s6=>
(if (s6.toList==(⟨#[]⟩:ByteArray).toList)=true then
((cell r4.2 (List.length h) 3).bind getS).bind fun l7=>
some ((.bool (((l7.2:Nat):Int)==(0:Int))),r4.2)
else
some ((.bool false),r4.2))
else
some ((.bool false),r4.2))
else
(if (n2==(2:Int))=true then
((cell h1 (List.length h) 1).bind (getI .i64)).bind fun n8=>
(if (n8==(0:Int))=true then
((cell h1 (List.length h) 2).bind getStr).bind fun s9=>
(run (Et base) 158 [(vT s9)] h1).bind fun r10=>
((some r10.1).bind getB).bind fun b11=>
(if b11=true then
((cell r10.2 (List.length h) 3).bind getS).bind fun l12=>
some ((.bool (((l12.2:Nat):Int)==(0:Int))),r10.2)
else
some ((.bool false),r10.2))
else
some ((.bool false),h1))
else
(if (n2==(3:Int))=true then
((cell h1 (List.length h) 1).bind (getI .i64)).bind fun n13=>
(run (Et base) 83 [(vI n13),(vI (0:Int)),(vI (99999:Int))] h1).bind fun r14=>
((some r14.1).bind getB).bind fun b15=>
(if b15=true then
((cell r14.2 (List.length h) 2).bind getStr).bind fun s16=>
(if (s16.toList==(⟨#[]⟩:ByteArray).toList)=true then
((cell r14.2 (List.length h) 3).bind getS).bind fun l17=>
some ((.bool (((l17.2:Nat):Int)==(0:Int))),r14.2)
else
some ((.bool false),r14.2))
else
some ((.bool false),r14.2))
else
(if (n2==(4:Int))=true then
((cell h1 (List.length h) 1).bind (getI .i64)).bind fun n18=>
(if (n18==(0:Int))=true then
((cell h1 (List.length h) 2).bind getStr).bind fun s19=>
(if (s19.toList==(⟨#[]⟩:ByteArray).toList)=true then
((cell h1 (List.length h) 3).bind getS).bind fun l20=>
some ((.bool (decide (((l20.2:Nat):Int)≤(8:Int)))),h1)
else
some ((.bool false),h1))
else
some ((.bool false),h1))
else
(if (n2==(5:Int))=true then
((cell h1 (List.length h) 1).bind (getI .i64)).bind fun n21=>
(if (n21==(0:Int))=true then
((cell h1 (List.length h) 2).bind getStr).bind fun s22=>
(if (s22.toList==(⟨#[]⟩:ByteArray).toList)=true then
((cell h1 (List.length h) 3).bind getS).bind fun l23=>
some ((.bool (decide (((l23.2:Nat):Int)≤(20:Int)))),h1)
else
some ((.bool false),h1))
else
some ((.bool false),h1))
else
(if (n2==(6:Int))=true then
((cell h1 (List.length h) 1).bind (getI .i64)).bind fun n24=>
(if (n24==(0:Int))=true then
((cell h1 (List.length h) 2).bind getStr).bind fun s25=>
(if (decide ((s25.size:Int)≤(40:Int)))=true then
((cell h1 (List.length h) 3).bind getS).bind fun l26=>
some ((.bool (((l26.2:Nat):Int)==(0:Int))),h1)
else
some ((.bool false),h1))
else
some ((.bool false),h1))
else
some ((.bool false),h1)))))))
theorem r166 {base:Nat} {v0_0:Int} {v0_1:Int} {v0_2:ByteArray} {v0_3:Option Addr} {v0_3n:Nat} {h:AH} {r:Value×AH} (hx:qf166 base v0_0 v0_1 v0_2 v0_3 v0_3n h=some r):run (Et base) 166 [(.agg #[(vI v0_0),(vI v0_1),(vT v0_2),(vL v0_3 v0_3n)])] h=some r:=run_i (an:=a166) Try.func166 (by kernel_rfl) (.trans (by kernel_rfl) hx)
theorem r172 {base:Nat} {v0:Option Addr} {v1:Option Addr} {v1n:Nat} {h:AH} {r:Value×AH} (hx:((run (Et base) 133 [(.pointer v0),(.int .i64 ((v1n:Nat):Int))] h).bind fun r1=>
((some r1.1).bind (getI .i64)).bind fun n2=>
(if 0≤n2∧n2<((v1n:Nat):Int) then
((v1:Option Addr)).bind fun a3=>
((cell r1.2 a3.block (a3.off+Int.toNat n2*1)).bind getStr).bind fun s4=>
some ((.string s4),r1.2)
else none))=some r):run (Et base) 172 [(.pointer v0),(vL v1 v1n)] h=some r:=run_i (an:=a172) Try.func172 (by kernel_rfl) (.trans (by kernel_rfl) hx)
theorem r173 {base:Nat} {v0:Option Addr} {h:AH} {r:Value×AH} (hx:((v0).bind fun a1=>
((cell h a1.block (a1.off+2)).bind (getI .i64)).bind fun n2=>
(v0).bind fun a3=>
(wr base h a3.block (a3.off+2) [(vI (IntKind.wrap .i64 ((IntKind.wrap .i64 (n2*(6364136223846793005:Int)))+(1442695040888963407:Int))))]).bind fun h4=>
(v0).bind fun a5=>
((cell h4 a5.block (a5.off+2)).bind (getI .i64)).bind fun n6=>
(v0).bind fun a7=>
((cell h4 a7.block (a7.off+2)).bind (getI .i64)).bind fun n8=>
((v0).bind fun a10=>
((cell h4 a10.block (a10.off+1)).bind (getI .i64)).bind fun n11=>
(v0).bind fun a12=>
((cell h4 a12.block (a12.off+0)).bind getS).bind fun l13=>
(if (decide (n11<((l13.2:Nat):Int)))=true then
(v0).bind fun a14=>
((cell h4 a14.block (a14.off+0)).bind getS).bind fun l15=>
(v0).bind fun a16=>
((cell h4 a16.block (a16.off+1)).bind (getI .i64)).bind fun n17=>
(if 0≤n17∧n17<((l15.2:Nat):Int) then
((l15.1:Option Addr)).bind fun a18=>
((cell h4 a18.block (a18.off+Int.toNat n17*1)).bind (getI .u8)).bind fun n19=>
(v0).bind fun a20=>
((cell h4 a20.block (a20.off+1)).bind (getI .i64)).bind fun n21=>
(v0).bind fun a22=>
(wr base h4 a22.block (a22.off+1) [(vI (IntKind.wrap .i64 (n21+(1:Int))))]).bind fun h23=>
some (.inl ([some (vI (Go.bits .and .i64 (IntKind.wrap .i64 ((Go.bits .and .i64 (Go.bits .xor .i64 (Int.fdiv n6 (2 ^ min ((33:Int)).toNat 64)) (Int.fdiv n8 (2 ^ min ((47:Int)).toNat 64))) (255:Int))+(IntKind.wrap .i64 n19))) (255:Int)))],h23))
else none)
else
some (.inl ([some (vI (Go.bits .and .i64 (Go.bits .xor .i64 (Int.fdiv n6 (2 ^ min ((33:Int)).toNat 64)) (Int.fdiv n8 (2 ^ min ((47:Int)).toNat 64))) (255:Int)))],h4)))).bind fun j9=>joinK j9 fun j9=>
((sget j9.1 0).bind (getI .i64)).bind fun n24=>
some ((vI n24),j9.2))=some r):run (Et base) 173 [(.pointer v0)] h=some r:=run_i (an:=a173) Try.func173 (by kernel_rfl) (.trans (by kernel_rfl) hx)
noncomputable def B183_0 (base:Nat):Body:=fun l h=>lay s183_0 l fun s=>exCode (Et base) (run (Et base)) loopL a183_0 (subC [1,0,1,0,0] (bodyC Try.f183)) s h (keepK s183_0 e183_0)
theorem B183_0_eq (base:Nat) (v0:ByteArray) (v3:Int) (h:AH):B183_0 base [some (vT v0),some (vI v3)] h =
((if (decide (v3<(v0.size:Int)))=true then
(if 0≤v3∧v3<(v0.size:Int) then
(run (Et base) 90 [(.int .i64 (IntKind.wrap .i64 ((v0.data.toList.getD (Int.toNat v3) 0).toNat:Int))),(.int .i64 (97:Int)),(.int .i64 (122:Int))] h).bind fun r1=>
((some r1.1).bind getB).bind fun b2=>
((if (!b2)=true then
(if (v3==(0:Int))=true then
some (.inl ([some (.string v0),some (.int .i64 v3),some (.bool true)],r1.2))
else
(if 0≤v3∧v3<(v0.size:Int) then
(run (Et base) 90 [(.int .i64 (IntKind.wrap .i64 ((v0.data.toList.getD (Int.toNat v3) 0).toNat:Int))),(.int .i64 (48:Int)),(.int .i64 (57:Int))] r1.2).bind fun r4=>
((some r4.1).bind getB).bind fun b5=>
some (.inl ([some (.string v0),some (.int .i64 v3),some (.bool (!b5))],r4.2))
else none))
else
some (.inl ([some (.string v0),some (.int .i64 v3),some (.bool false)],r1.2)))).bind fun j3=>joinK j3 fun j3=>
((sget j3.1 0).bind getStr).bind fun s6=>
((sget (j3.1.tail) 0).bind (getI .i64)).bind fun n7=>
((sget (j3.1.tail.tail) 0).bind getB).bind fun b8=>
(if b8=true then
some (1,[some (.bool false)],j3.2)
else
some (0,[some (.string s6),some (.int .i64 (IntKind.wrap .i64 (n7+(1:Int))))],j3.2))
else none)
else
some (2,[some (.string v0)],h)):Option (Nat×Slots×AH)):=by kernel_rfl
theorem r183 {base:Nat} {v0:ByteArray} {h:AH} {r:Value×AH} (hx:((loopL (B183_0 base) [some (.string v0),some (.int .i64 (0:Int))] h).bind fun q1=>
(if q1.1=1 then
((sget q1.2.1 0).bind getB).bind fun b2=>
some ((.bool b2),q1.2.2)
else
(if q1.1=2 then
((sget q1.2.1 0).bind getStr).bind fun s3=>
(run (Et base) 90 [(.int .i64 (s3.size:Int)),(.int .i64 (1:Int)),(.int .i64 (12:Int))] q1.2.2).bind fun r4=>
((some r4.1).bind getB).bind fun b5=>
some ((.bool b5),r4.2)
else
none)))=some r):run (Et base) 183 [(vT v0)] h=some r:=run_i (an:=a183) Try.func183 (by kernel_rfl) (.trans (by kernel_rfl) hx)
noncomputable def B185_0 (base:Nat):Body:=fun l h=>lay s185_0 l fun s=>exCode (Et base) (run (Et base)) loopL a185_0 (subC [1,0,1,0,0] (bodyC Try.f185)) s h (keepK s185_0 e185_0)
theorem B185_0_eq (base:Nat) (v0:Option Addr) (v0n:Nat) (v1:ByteArray) (v5:Int) (h:AH):B185_0 base [some (vL v0 v0n),some (vT v1),some (vI v5)] h =
((if (decide (v5<((v0n:Nat):Int)))=true then
(if 0≤v5∧v5<((v0n:Nat):Int) then
((v0:Option Addr)).bind fun a1=>
((cell h a1.block (a1.off+Int.toNat v5*1)).bind getStr).bind fun s2=>
(if (s2.toList==v1.toList)=true then
some (1,[some (.int .i64 v5)],h)
else
some (0,[some (.slice v0 v0n v0n),some (.string v1),some (.int .i64 (IntKind.wrap .i64 (v5+(1:Int))))],h))
else none)
else
some (2,[],h)):Option (Nat×Slots×AH)):=by kernel_rfl
theorem r185 {base:Nat} {v0:Option Addr} {v0n:Nat} {v1:ByteArray} {h:AH} {r:Value×AH} (hx:((loopL (B185_0 base) [some (.slice v0 v0n v0n),some (.string v1),some (.int .i64 (0:Int))] h).bind fun q1=>
(if q1.1=1 then
((sget q1.2.1 0).bind (getI .i64)).bind fun n2=>
some ((.int .i64 n2),q1.2.2)
else
(if q1.1=2 then
some ((.int .i64 (-1:Int)),q1.2.2)
else
none)))=some r):run (Et base) 185 [(vL v0 v0n),(vT v1)] h=some r:=run_i (an:=a185) Try.func185 (by kernel_rfl) (.trans (by kernel_rfl) hx)
theorem r186 {base:Nat} {v0_0:Option Addr} {v0_0n:Nat} {v0_1:Option Addr} {v0_1n:Nat} {v0_2:Int} {v1:Int} {h:AH} {r:Value×AH} (hx:(nw1 h 63 [(vL v0_0 v0_0n),(vL v0_1 v0_1n),(vI v0_2)] fun h1=>
(run (Et base) 189 [(vI v1)] h1).bind fun r2=>
((some r2.1).bind (getI .i64)).bind fun n3=>
(if (n3==(5:Int))=true then
some ((vI (2:Int)),r2.2)
else
((if (n3==(4:Int))=true then
some (.inl ([some (vI v1),some (vP (List.length h)),some (.bool (n3==(4:Int)))],r2.2))
else
some (.inl ([some (vI v1),some (vP (List.length h)),some (.bool (n3==(6:Int)))],r2.2)))).bind fun j4=>joinK j4 fun j4=>
j_IAB j4.1 fun n5 d6 b7=>
(if b7=true then
c_LLI j4.2 d6.block d6.off fun l8 l9 n10=>
(run (Et base) 187 [(vI n5)] j4.2).bind fun r11=>
((some r11.1).bind (getI .i64)).bind fun n12=>
(gate (sameA j4.2 r11.2 (some d6) 3)
((run (Et base) 188 [(.agg #[(vL l8.1 l8.2),(vL l9.1 l9.2),(vI n10)]),(vI n12),(vI (1:Int))] r11.2).bind fun r13=>
(getTup 2 r13.1).bind fun l14=>
l_LB l14 fun l15 b16=>
((if b16=true then
(if 0≤(0:Int)∧(0:Int)<((l15.2:Nat):Int) then
((l15.1:Option Addr)).bind fun a18=>
((cell r13.2 a18.block (a18.off+Int.toNat (0:Int)*1)).bind (getI .i64)).bind fun n19=>
(run (Et base) 90 [(vI n19),(vI (0:Int)),(vI (1000:Int))] r13.2).bind fun r20=>
((some r20.1).bind getB).bind fun b21=>
some (.inl ([some (vL l15.1 l15.2),some (.bool b21)],r20.2))
else none)
else
some (.inl ([some (vL l15.1 l15.2),some (.bool false)],r13.2)))).bind fun j17=>joinK j17 fun j17=>
j_LB j17.1 fun l22 b23=>
(if b23=true then
(if 0≤(0:Int)∧(0:Int)<((l22.2:Nat):Int) then
((l22.1:Option Addr)).bind fun a24=>
((cell j17.2 a24.block (a24.off+Int.toNat (0:Int)*1)).bind (getI .i64)).bind fun n25=>
some ((vI (IntKind.wrap .i64 (n25+(1:Int)))),j17.2)
else none)
else
some ((vI (0:Int)),j17.2))))
else
some ((vI (0:Int)),j4.2))))=some r):run (Et base) 186 [(.agg #[(vL v0_0 v0_0n),(vL v0_1 v0_1n),(vI v0_2)]),(vI v1)] h=some r:=run_i (an:=a186) Try.func186 (by kernel_rfl) (.trans (by kernel_rfl) hx)
theorem r187 {base:Nat} {v0:Int} {h:AH} {r:Value×AH} (hx:((if (decide (v0<(0:Int)))=true then
some ((.int .i64 (0:Int)),h)
else
some ((.int .i64 (IntKind.wrap .i64 (Int.tdiv v0 (8:Int)))),h)))=some r):run (Et base) 187 [(vI v0)] h=some r:=run_i (an:=a187) Try.func187 (by kernel_rfl) (.trans (by kernel_rfl) hx)
theorem r188 {base:Nat} {v0_0:Option Addr} {v0_0n:Nat} {v0_1:Option Addr} {v0_1n:Nat} {v0_2:Int} {v1:Int} {v2:Int} {h:AH} {r:Value×AH} (hx:(nw1 h 63 [(vL v0_0 v0_0n),(vL v0_1 v0_1n),(vI v0_2)] fun h1=>
((cell h1 (List.length h) 0).bind getS).bind fun l2=>
((if (decide (v1≥(100000:Int)))=true then
((cell h1 (List.length h) 1).bind getS).bind fun l4=>
some (.inl ([some (vI (IntKind.wrap .i64 (v1-(100000:Int)))),some (vI v2),some (vL l4.1 l4.2)],h1))
else
some (.inl ([some (vI v1),some (vI v2),some (vL l2.1 l2.2)],h1)))).bind fun j3=>joinK j3 fun j3=>
j_IIL j3.1 fun n5 n6 l7=>
((run (Et base) 90 [(vI n5),(vI (0:Int)),(vI ((l7.2:Nat):Int))] j3.2).bind fun r9=>
((some r9.1).bind getB).bind fun b10=>
(if (!b10)=true then
some (.inl ([some (vI n5),some (vI n6),some (vL l7.1 l7.2),some (.bool true)],r9.2))
else
(run (Et base) 90 [(vI n6),(vI (0:Int)),(vI (IntKind.wrap .i64 (((l7.2:Nat):Int)-n5)))] r9.2).bind fun r11=>
((some r11.1).bind getB).bind fun b12=>
some (.inl ([some (vI n5),some (vI n6),some (vL l7.1 l7.2),some (.bool (!b12))],r11.2)))).bind fun j8=>joinK j8 fun j8=>
j_IILB j8.1 fun n13 n14 l15 b16=>
(if b16=true then
nw1 j8.2 3 [] fun h17=>
some ((.tuple #[(vL (some ⟨(List.length j8.2),0,none⟩) 0),(.bool false)]),h17)
else
(if 0≤n13∧n13≤(IntKind.wrap .i64 (n13+n14))∧(IntKind.wrap .i64 (n13+n14))≤((l15.2:Nat):Int)∧okTy base j8.2 l15.1 3 (Int.toNat n13)=true then
some ((.tuple #[(.slice (shiftA l15.1 (Int.toNat n13*1)) (Int.toNat (IntKind.wrap .i64 (n13+n14))-Int.toNat n13) (Int.toNat (IntKind.wrap .i64 (n13+n14))-Int.toNat n13)),(.bool true)]),j8.2)
else none)))=some r):run (Et base) 188 [(.agg #[(vL v0_0 v0_0n),(vL v0_1 v0_1n),(vI v0_2)]),(vI v1),(vI v2)] h=some r:=run_i (an:=a188) Try.func188 (by kernel_rfl) (.trans (by kernel_rfl) hx)
theorem r189 {base:Nat} {v0:Int} {h:AH} {r:Value×AH} (hx:((if (decide (v0<(0:Int)))=true then
some ((.int .i64 (0:Int)),h)
else
some ((.int .i64 (Int.tmod v0 (8:Int))),h)))=some r):run (Et base) 189 [(vI v0)] h=some r:=run_i (an:=a189) Try.func189 (by kernel_rfl) (.trans (by kernel_rfl) hx)
theorem r190 {base:Nat} {v0:Option Addr} {v1:Int} {h:AH} {r:Value×AH} (hx:((if (decide (v1<(100000:Int)))=true then
(v0).bind fun a1=>
((cell h a1.block (a1.off+6)).bind getS).bind fun l2=>
some ((.tuple #[(.slice l2.1 l2.2 l2.2),(.int .i64 v1)]),h)
else
(v0).bind fun a3=>
((cell h a3.block (a3.off+7)).bind getS).bind fun l4=>
some ((.tuple #[(.slice l4.1 l4.2 l4.2),(.int .i64 (IntKind.wrap .i64 (v1-(100000:Int))))]),h)))=some r):run (Et base) 190 [(.pointer v0),(vI v1)] h=some r:=run_i (an:=a190) Try.func190 (by kernel_rfl) (.trans (by kernel_rfl) hx)
theorem r191 {base:Nat} {v0:Int} {v1:Int} {h:AH} {r:Value×AH} (hx:(((run (Et base) 90 [(.int .i64 v0),(.int .i64 (0:Int)),(.int .i64 (6:Int))] h).bind fun r2=>
((some r2.1).bind getB).bind fun b3=>
(if (!b3)=true then
some (.inl ([some (.int .i64 v0),some (.int .i64 v1),some (.bool true)],r2.2))
else
(run (Et base) 90 [(.int .i64 v1),(.int .i64 (0:Int)),(.int .i64 (4000000:Int))] r2.2).bind fun r4=>
((some r4.1).bind getB).bind fun b5=>
some (.inl ([some (.int .i64 v0),some (.int .i64 v1),some (.bool (!b5))],r4.2)))).bind fun j1=>joinK j1 fun j1=>
((sget j1.1 0).bind (getI .i64)).bind fun n6=>
((sget (j1.1.tail) 0).bind (getI .i64)).bind fun n7=>
((sget (j1.1.tail.tail) 0).bind getB).bind fun b8=>
(if b8=true then
some ((.int .i64 (0:Int)),j1.2)
else
some ((.int .i64 (IntKind.wrap .i64 ((IntKind.wrap .i64 (n7*(8:Int)))+n6))),j1.2)))=some r):run (Et base) 191 [(vI v0),(vI v1)] h=some r:=run_i (an:=a191) Try.func191 (by kernel_rfl) (.trans (by kernel_rfl) hx)
noncomputable def B192_0 (base:Nat):Body:=fun l h=>lay s192_0 l fun s=>exCode (Et base) (run (Et base)) loopL a192_0 (subC [1,1,1,0,1,0,0] (bodyC Try.f192)) s h (keepK s192_0 e192_0)
theorem B192_0_eq (base:Nat) (v1:Addr) (v3:Int) (v4:Int) (h:AH):B192_0 base [some (vA v1),some (vI v3),some (vI v4)] h =
((((cell h v1.block (v1.off+3)).bind getS).bind fun l2=>
(if (decide (v4<((l2.2:Nat):Int)))=true then
((cell h v1.block (v1.off+0)).bind (getI .i64)).bind fun n3=>
(run (Et base) 90 [(vI n3),(vI (4:Int)),(vI (5:Int))] h).bind fun r4=>
((some r4.1).bind getB).bind fun b5=>
some (.inl ([some (vA v1),some (vI v3),some (vI v4),some (.bool b5)],r4.2))
else
some (.inl ([some (vA v1),some (vI v3),some (vI v4),some (.bool false)],h)))).bind fun j1=>joinK j1 fun j1=>
j_AIIB j1.1 fun d6 n7 n8 b9=>
(if b9=true then
((cell j1.2 d6.block (d6.off+3)).bind getS).bind fun l10=>
(if 0≤n8∧n8<((l10.2:Nat):Int) then
((l10.1:Option Addr)).bind fun a11=>
c_IITL j1.2 a11.block (a11.off+Int.toNat n8*4) fun n12 n13 s14 l15=>
(run (Et base) 192 [(.agg #[(vI n12),(vI n13),(vT s14),(vL l15.1 l15.2)])] j1.2).bind fun r16=>
((some r16.1).bind (getI .i64)).bind fun n17=>
some (0,[some (vA d6),some (vI (IntKind.wrap .i64 (n7+n17))),some (vI (IntKind.wrap .i64 (n8+(1:Int))))],r16.2)
else none)
else
some (3,[some (vI n7)],j1.2)):Option (Nat×Slots×AH)):=by kernel_rfl
theorem r192 {base:Nat} {v0_0:Int} {v0_1:Int} {v0_2:ByteArray} {v0_3:Option Addr} {v0_3n:Nat} {h:AH} {r:Value×AH} (hx:((some (h++[some ⟨[(.int .i64 v0_0),(.int .i64 v0_1),(.string v0_2),(.slice v0_3 v0_3n v0_3n)],42⟩])).bind fun h1=>
(((cell h1 (List.length h) 0).bind (getI .i64)).bind fun n3=>
(if (n3==(4:Int))=true then
((cell h1 (List.length h) 3).bind getS).bind fun l4=>
some (.inl ([some (.pointer (some ⟨(List.length h),0,none⟩)),some (.int .i64 (IntKind.wrap .i64 ((1:Int)+((l4.2:Nat):Int))))],h1))
else
(if (n3==(5:Int))=true then
((cell h1 (List.length h) 3).bind getS).bind fun l5=>
some (.inl ([some (.pointer (some ⟨(List.length h),0,none⟩)),some (.int .i64 (IntKind.wrap .i64 ((2:Int)*((l5.2:Nat):Int))))],h1))
else
(if (n3==(6:Int))=true then
((cell h1 (List.length h) 2).bind getStr).bind fun s6=>
some (.inl ([some (.pointer (some ⟨(List.length h),0,none⟩)),some (.int .i64 (IntKind.wrap .i64 ((1:Int)+(s6.size:Int))))],h1))
else
some (.inl ([some (.pointer (some ⟨(List.length h),0,none⟩)),some (.int .i64 (0:Int))],h1)))))).bind fun j2=>joinK j2 fun j2=>
((sget j2.1 0).bind getA).bind fun d7=>
((sget (j2.1.tail) 0).bind (getI .i64)).bind fun n8=>
(loopL (B192_0 base) [some (.pointer (some d7)),some (.int .i64 n8),some (.int .i64 (0:Int))] j2.2).bind fun q9=>
(if q9.1=3 then
((sget q9.2.1 0).bind (getI .i64)).bind fun n10=>
some ((.int .i64 n10),q9.2.2)
else
none))=some r):run (Et base) 192 [(.agg #[(vI v0_0),(vI v0_1),(vT v0_2),(vL v0_3 v0_3n)])] h=some r:=run_i (an:=a192) Try.func192 (by kernel_rfl) (.trans (by kernel_rfl) hx)
theorem r193 {base:Nat} {v0:Option Addr} {v1_0:Int} {v1_1:Int} {v1_2:ByteArray} {v1_3:Option Addr} {v1_3n:Nat} {v2:Int} {h:AH} {r:Value×AH} (hx:(nw1 h 42 [(vI v1_0),(vI v1_1),(vT v1_2),(vL v1_3 v1_3n)] fun h1=>
nw1 h1 3 [] fun h2=>
nw1 h2 52 [(vL none 0)] fun h3=>
(wr base h3 (List.length h2) 0 [(vL (some ⟨(List.length h1),0,none⟩) 0)]).bind fun h4=>
c_IITL h4 (List.length h) 0 fun n5 n6 s7 l8=>
(run (Et base) 214 [(vP (List.length h2)),(.pointer v0),(.agg #[(vI n5),(vI n6),(vT s7),(vL l8.1 l8.2)])] h4).bind fun r9=>
(getTup 2 r9.1).bind fun l10=>
l_IB l10 fun n11 b12=>
((cell r9.2 (List.length h2) 0).bind getS).bind fun l13=>
(if ((l13.2:Nat):Int)=((l13.2:Nat):Int)∧0≤((l13.2:Nat):Int)∧((l13.2:Nat):Int)*8≤140737488355328∧((l13.2:Nat):Int)≤140737488355328 then
(some (r9.2++[some ⟨rep [(vI 0)] (Int.toNat ((l13.2:Nat):Int)),3⟩])).bind fun h14=>
((cell h14 (List.length h2) 0).bind getS).bind fun l15=>
(run (Et base) 215 [(vL l15.1 l15.2),(.slice (some ⟨(List.length r9.2),0,none⟩) (Int.toNat ((l13.2:Nat):Int)) (Int.toNat ((l13.2:Nat):Int))),(vI n11),(vI (IntKind.wrap .i64 ((100000:Int)+v2)))] h14).bind fun r16=>
(getTup 0 r16.1).bind fun _=>
(run (Et base) 216 [(vI n11),(vI (IntKind.wrap .i64 ((100000:Int)+v2)))] r16.2).bind fun r17=>
((some r17.1).bind (getI .i64)).bind fun n18=>
some ((.tuple #[(.slice (some ⟨(List.length r9.2),0,none⟩) (Int.toNat ((l13.2:Nat):Int)) (Int.toNat ((l13.2:Nat):Int))),(vI n18),(.bool b12)]),r17.2)
else none))=some r):run (Et base) 193 [(.pointer v0),(.agg #[(vI v1_0),(vI v1_1),(vT v1_2),(vL v1_3 v1_3n)]),(vI v2)] h=some r:=run_i (an:=a193) Try.func193 (by kernel_rfl) (.trans (by kernel_rfl) hx)
theorem r194 {base:Nat} {v0:Int} {h:AH} {r:Value×AH} (hx:((if (decide (v0≥(97:Int)))=true then
some ((.bool (decide (v0≤(122:Int)))),h)
else
some ((.bool false),h)))=some r):run (Et base) 194 [(.int .u8 v0)] h=some r:=run_i (an:=a194) Try.func194 (by kernel_rfl) (.trans (by kernel_rfl) hx)
theorem r195 {base:Nat} {v0:Int} {h:AH} {r:Value×AH} (hx:((if (decide (v0≥(48:Int)))=true then
some ((.bool (decide (v0≤(57:Int)))),h)
else
some ((.bool false),h)))=some r):run (Et base) 195 [(.int .u8 v0)] h=some r:=run_i (an:=a195) Try.func195 (by kernel_rfl) (.trans (by kernel_rfl) hx)
noncomputable abbrev qf196 (base:Nat) (v0:Option Addr) (v1:Int) (v2:Int) (h:AH):Option (Value×AH):=
nw1 h 42 [(vI 0),(vI 0),(vT ⟨#[]⟩),(vL none 0)] fun h1=>
(v0).bind fun a2=>
((cell h1 a2.block (a2.off+2)).bind (getI .i64)).bind fun n3=>
(v0).bind fun a4=>
(wr base h1 a4.block (a4.off+2) [(vI (IntKind.wrap .i64 (n3+(1:Int))))]).bind fun h5=>
(run (Et base) 149 [(vI v1)] h5).bind fun r6=>
((some r6.1).bind (getI .i64)).bind fun n7=>
((v0).bind fun a9=>
((cell r6.2 a9.block (a9.off+3)).bind getB).bind fun b10=>
(if b10=true then
some (.inl ([some (.pointer v0),some (vI v1),some (vI v2),some (vP (List.length h)),some (vI n7),some (.bool true)],r6.2))
else
(if (decide (v1<(0:Int)))=true then
some (.inl ([some (.pointer v0),some (vI v1),some (vI v2),some (vP (List.length h)),some (vI n7),some (.bool true)],r6.2))
else
(if (decide (n7>(4000000:Int)))=true then
some (.inl ([some (.pointer v0),some (vI v1),some (vI v2),some (vP (List.length h)),some (vI n7),some (.bool true)],r6.2))
else
(if (decide (v2>(6:Int)))=true then
some (.inl ([some (.pointer v0),some (vI v1),some (vI v2),some (vP (List.length h)),some (vI n7),some (.bool true)],r6.2))
else
(v0).bind fun a11=>
((cell r6.2 a11.block (a11.off+2)).bind (getI .i64)).bind fun n12=>
some (.inl ([some (.pointer v0),some (vI v1),some (vI v2),some (vP (List.length h)),some (vI n7),some (.bool (decide (n12>(100:Int))))],r6.2))))))).bind fun j8=>joinK j8 fun j8=>
j_PIIAIB j8.1 fun p13 n14 n15 d16 n17 b18=>
(if b18=true then
(p13).bind fun a19=>
(wr base j8.2 a19.block (a19.off+3) [(.bool true)]).bind fun h20=>
(wr base h20 d16.block d16.off [(vI (0:Int)),(vI (0:Int)),(vT (⟨#[]⟩:ByteArray)),(vL none 0)]).bind fun h21=>
c_IITL h21 d16.block d16.off fun n22 n23 s24 l25=>
some ((.agg #[(vI n22),(vI n23),(vT s24),(vL l25.1 l25.2)]),h21)
else
nw1 j8.2 42 [(vI 0),(vI 0),(vT ⟨#[]⟩),(vL none 0)] fun h26=>
(wr base h26 (List.length j8.2) 0 [(vI (0:Int)),(vI (0:Int)),(vT (⟨#[]⟩:ByteArray)),(vL none 0)]).bind fun h27=>
((run (Et base) 152 [(vI n14)] h27).bind fun r29=>
((some r29.1).bind (getI .i64)).bind fun n30=>
(if (n30==(0:Int))=true then
(wr base r29.2 (List.length j8.2) 0 [(vI (1:Int))]).bind fun h31=>
(wr base h31 (List.length j8.2) 1 [(vI (IntKind.wrap .i64 (n17-(1000000:Int))))]).bind fun h32=>
some (.inl ([some (.pointer p13),some (vA d16),some (vP (List.length j8.2))],h32))
else
(if (n30==(1:Int))=true then
(p13).bind fun a33=>
((cell r29.2 a33.block (a33.off+1)).bind getS).bind fun l34=>
(if (decide (n17≥((l34.2:Nat):Int)))=true then
(p13).bind fun a35=>
(wr base r29.2 a35.block (a35.off+3) [(.bool true)]).bind fun h36=>
c_IITL h36 (List.length j8.2) 0 fun n37 n38 s39 l40=>
(wr base h36 d16.block d16.off [(vI n37),(vI n38),(vT s39),(vL l40.1 l40.2)]).bind fun h41=>
(c_IITL h41 d16.block d16.off fun n42 n43 s44 l45=>
some ((.agg #[(vI n42),(vI n43),(vT s44),(vL l45.1 l45.2)]),h41)).map .inr
else
(p13).bind fun a46=>
((cell r29.2 a46.block (a46.off+1)).bind getS).bind fun l47=>
(if 0≤n17∧n17<((l47.2:Nat):Int) then
((l47.1:Option Addr)).bind fun a48=>
((cell r29.2 a48.block (a48.off+Int.toNat n17*1)).bind getStr).bind fun s49=>
(wr base r29.2 (List.length j8.2) 0 [(vI (2:Int))]).bind fun h50=>
(gate (sameA r29.2 h50 (some ⟨a48.block,(a48.off+Int.toNat n17*1),none⟩) 1)
((gate (sameA r29.2 h50 (some ⟨a46.block,(a46.off+1),none⟩) 1)
((wr base h50 (List.length j8.2) 2 [(vT s49)]).bind fun h51=>
some (.inl ([some (.pointer p13),some (vA d16),some (vP (List.length j8.2))],h51))))))
else none))
else
(if (n30==(2:Int))=true then
(wr base r29.2 (List.length j8.2) 0 [(vI (3:Int))]).bind fun h52=>
(wr base h52 (List.length j8.2) 1 [(vI n17)]).bind fun h53=>
some (.inl ([some (.pointer p13),some (vA d16),some (vP (List.length j8.2))],h53))
else
(if (n30==(3:Int))=true then
(wr base r29.2 (List.length j8.2) 0 [(vI (5:Int))]).bind fun h54=>
(p13).bind fun a55=>
(wr base h54 a55.block (a55.off+3) [(.bool (n17 != (0:Int)))]).bind fun h56=>
some (.inl ([some (.pointer p13),some (vA d16),some (vP (List.length j8.2))],h56))
else
(if (n30==(4:Int))=true then
(run (Et base) 217 [(.pointer p13),(vI n17),(vI n15)] r29.2).bind fun r57=>
((some r57.1).bind getS).bind fun l58=>
(wr base r57.2 (List.length j8.2) 0 [(vI (4:Int))]).bind fun h59=>
(wr base h59 (List.length j8.2) 3 [(vL l58.1 l58.2)]).bind fun h60=>
some (.inl ([some (.pointer p13),some (vA d16),some (vP (List.length j8.2))],h60))
else
(if (n30==(5:Int))=true then
(run (Et base) 218 [(.pointer p13),(vI n14),(vI n15)] r29.2).bind fun r61=>
((some r61.1).bind getS).bind fun l62=>
(wr base r61.2 (List.length j8.2) 0 [(vI (5:Int))]).bind fun h63=>
(wr base h63 (List.length j8.2) 3 [(vL l62.1 l62.2)]).bind fun h64=>
some (.inl ([some (.pointer p13),some (vA d16),some (vP (List.length j8.2))],h64))
else
(if (n30==(6:Int))=true then
(run (Et base) 219 [(.pointer p13),(vI n17)] r29.2).bind fun r65=>
((some r65.1).bind getStr).bind fun s66=>
(wr base r65.2 (List.length j8.2) 0 [(vI (6:Int))]).bind fun h67=>
(wr base h67 (List.length j8.2) 2 [(vT s66)]).bind fun h68=>
some (.inl ([some (.pointer p13),some (vA d16),some (vP (List.length j8.2))],h68))
else
(p13).bind fun a69=>
(wr base r29.2 a69.block (a69.off+3) [(.bool true)]).bind fun h70=>
some (.inl ([some (.pointer p13),some (vA d16),some (vP (List.length j8.2))],h70)))))))))).bind fun j28=>joinK j28 fun j28=>
j_PAA j28.1 fun p71 d72 d73=>
((p71).bind fun a75=>
((cell j28.2 a75.block (a75.off+3)).bind getB).bind fun b76=>
(if b76=true then
(p71).bind fun a77=>
(wr base j28.2 a77.block (a77.off+3) [(.bool true)]).bind fun h78=>
some (.inl ([some (vA d72),some (vA d73)],h78))
else
c_IITL j28.2 d73.block d73.off fun n79 n80 s81 l82=>
(run (Et base) 166 [(.agg #[(vI n79),(vI n80),(vT s81),(vL l82.1 l82.2)])] j28.2).bind fun r83=>
((some r83.1).bind getB).bind fun b84=>
(p71).bind fun a85=>
(wr base r83.2 a85.block (a85.off+3) [(.bool (!b84))]).bind fun h86=>
some (.inl ([some (vA d72),some (vA d73)],h86)))).bind fun j74=>joinK j74 fun j74=>
j_AA j74.1 fun d87 d88=>
c_IITL j74.2 d88.block d88.off fun n89 n90 s91 l92=>
(wr base j74.2 d87.block d87.off [(vI n89),(vI n90),(vT s91),(vL l92.1 l92.2)]).bind fun h93=>
c_IITL h93 d87.block d87.off fun n94 n95 s96 l97=>
some ((.agg #[(vI n94),(vI n95),(vT s96),(vL l97.1 l97.2)]),h93))
theorem r196 {base:Nat} {v0:Option Addr} {v1:Int} {v2:Int} {h:AH} {r:Value×AH} (hx:qf196 base v0 v1 v2 h=some r):run (Et base) 196 [(.pointer v0),(vI v1),(vI v2)] h=some r:=run_i (an:=a196) Try.func196 (by kernel_rfl) (.trans (by kernel_rfl) hx)
noncomputable def B197_0 (base:Nat):Body:=fun l h=>lay s197_0 l fun s=>exCode (Et base) (run (Et base)) loopL a197_0 (subC [1,1,0,0,0] (bodyC Try.f197)) s h (keepK s197_0 e197_0)
theorem B197_0_eq (base:Nat) (v0:Option Addr) (v1:Int) (v2:Int) (v6:Addr) (v7:Addr) (h:AH):B197_0 base [some (.pointer v0),some (vI v1),some (vI v2),some (vA v6),some (vA v7)] h =
(((v0).bind fun a2=>
((cell h a2.block (a2.off+5)).bind getB).bind fun b3=>
(if (!b3)=true then
(run (Et base) 191 [(vI (3:Int)),(vI (0:Int))] h).bind fun r4=>
((some r4.1).bind (getI .i64)).bind fun n5=>
some (.inl ([some (.pointer v0),some (vI v1),some (vI v2),some (vA v6),some (vA v7),some (.bool (v1 != n5))],r4.2))
else
some (.inl ([some (.pointer v0),some (vI v1),some (vI v2),some (vA v6),some (vA v7),some (.bool false)],h)))).bind fun j1=>joinK j1 fun j1=>
j_PIIAAB j1.1 fun p6 n7 n8 d9 d10 b11=>
(if b11=true then
(p6).bind fun a12=>
c_LLI j1.2 a12.block (a12.off+0) fun l13 l14 n15=>
(run (Et base) 187 [(vI n7)] j1.2).bind fun r16=>
((some r16.1).bind (getI .i64)).bind fun n17=>
(gate (sameA j1.2 r16.2 (some ⟨a12.block,(a12.off+0),none⟩) 3)
((run (Et base) 188 [(.agg #[(vL l13.1 l13.2),(vL l14.1 l14.2),(vI n15)]),(vI n17),(vI (2:Int))] r16.2).bind fun r18=>
(getTup 2 r18.1).bind fun l19=>
l_LB l19 fun l20 b21=>
((if (!b21)=true then
some (.inl ([some (.pointer p6),some (vI n8),some (vA d9),some (vA d10),some (vL l20.1 l20.2),some (.bool true)],r18.2))
else
(if (decide (n7<(0:Int)))=true then
some (.inl ([some (.pointer p6),some (vI n8),some (vA d9),some (vA d10),some (vL l20.1 l20.2),some (.bool true)],r18.2))
else
(run (Et base) 189 [(vI n7)] r18.2).bind fun r23=>
((some r23.1).bind (getI .i64)).bind fun n24=>
(if (n24 != (5:Int))=true then
some (.inl ([some (.pointer p6),some (vI n8),some (vA d9),some (vA d10),some (vL l20.1 l20.2),some (.bool true)],r23.2))
else
((cell r23.2 d10.block (d10.off+3)).bind getS).bind fun l25=>
some (.inl ([some (.pointer p6),some (vI n8),some (vA d9),some (vA d10),some (vL l20.1 l20.2),some (.bool (((l25.2:Nat):Int)==(20:Int)))],r23.2)))))).bind fun j22=>joinK j22 fun j22=>
j_PIAALB j22.1 fun p26 n27 d28 d29 l30 b31=>
(if b31=true then
(p26).bind fun a32=>
(wr base j22.2 a32.block (a32.off+5) [(.bool true)]).bind fun h33=>
c_IITL h33 d29.block d29.off fun n34 n35 s36 l37=>
(wr base h33 d28.block d28.off [(vI n34),(vI n35),(vT s36),(vL l37.1 l37.2)]).bind fun h38=>
some (1,[some (vA d28)],h38)
else
((cell j22.2 d29.block (d29.off+3)).bind getS).bind fun l39=>
(if 0≤(0:Int)∧(0:Int)<((l30.2:Nat):Int) then
((l30.1:Option Addr)).bind fun a40=>
((cell j22.2 a40.block (a40.off+Int.toNat (0:Int)*1)).bind (getI .i64)).bind fun n41=>
(run (Et base) 162 [(.pointer p26),(vI n41),(vI (IntKind.wrap .i64 (n27-(1:Int))))] j22.2).bind fun r42=>
gG (some r42.1) 4 fun l43=>
l_IITL l43 fun n44 n45 s46 l47=>
(gate (sameA j22.2 r42.2 (some ⟨d29.block,(d29.off+3),none⟩) 1)
((gate (neA (some ⟨d29.block,(d29.off+3),none⟩) (List.length r42.2))
(nw1 r42.2 42 [(vI n44),(vI n45),(vT s46),(vL l47.1 l47.2)] fun h48=>
(app base h48 42 4 56 l39.1 l39.2 (rawAt h48 (some ⟨(List.length r42.2),0,none⟩) (1*4)) 1).bind fun p49=>
((some p49.1).bind getS).bind fun l50=>
(wr base p49.2 d29.block (d29.off+3) [(vL l50.1 l50.2)]).bind fun h51=>
(if 0≤(1:Int)∧(1:Int)<((l30.2:Nat):Int) then
((l30.1:Option Addr)).bind fun a52=>
((cell h51 a52.block (a52.off+Int.toNat (1:Int)*1)).bind (getI .i64)).bind fun n53=>
some (0,[some (.pointer p26),some (vI n53),some (vI n27),some (vA d28),some (vA d29)],h51)
else none)))))
else none))))
else
some (2,[some (vA d9),some (vA d10)],j1.2)):Option (Nat×Slots×AH)):=by kernel_rfl
theorem r197 {base:Nat} {v0:Option Addr} {v1:Int} {v2:Int} {h:AH} {r:Value×AH} (hx:(nw1 h 42 [(vI 0),(vI 0),(vT ⟨#[]⟩),(vL none 0)] fun h1=>
nw1 h1 42 [(vI 0),(vI 0),(vT ⟨#[]⟩),(vL none 0)] fun h2=>
(wr base h2 (List.length h1) 0 [(vI (5:Int)),(vI (0:Int)),(vT (⟨#[]⟩:ByteArray)),(vL none 0)]).bind fun h3=>
(loopL (B197_0 base) [some (.pointer v0),some (vI v1),some (vI v2),some (vP (List.length h)),some (vP (List.length h1))] h3).bind fun q4=>
(if q4.1=1 then
((sget q4.2.1 0).bind getA).bind fun d5=>
c_IITL q4.2.2 d5.block d5.off fun n6 n7 s8 l9=>
some ((.agg #[(vI n6),(vI n7),(vT s8),(vL l9.1 l9.2)]),q4.2.2)
else
(if q4.1=2 then
j_AA q4.2.1 fun d10 d11=>
c_IITL q4.2.2 d11.block d11.off fun n12 n13 s14 l15=>
(wr base q4.2.2 d10.block d10.off [(vI n12),(vI n13),(vT s14),(vL l15.1 l15.2)]).bind fun h16=>
c_IITL h16 d10.block d10.off fun n17 n18 s19 l20=>
some ((.agg #[(vI n17),(vI n18),(vT s19),(vL l20.1 l20.2)]),h16)
else
none)))=some r):run (Et base) 197 [(.pointer v0),(vI v1),(vI v2)] h=some r:=run_i (an:=a197) Try.func197 (by kernel_rfl) (.trans (by kernel_rfl) hx)
noncomputable def B198_0 (base:Nat):Body:=fun l h=>lay s198_0 l fun s=>exCode (Et base) (run (Et base)) loopL a198_0 (subC [1,1,1,1,1,0,1,0,0] (bodyC Try.f198)) s h (keepK s198_0 e198_0)
theorem B198_0_eq (base:Nat) (v0:Option Addr) (v2:Int) (v6:Addr) (v8:Option Addr) (v8n:Nat) (v10:Addr) (v11:Int) (h:AH):B198_0 base [some (.pointer v0),some (vI v2),some (vA v6),some (vL v8 v8n),some (vA v10),some (vI v11)] h =
(((if (decide (v11<((v8n:Nat):Int)))=true then
(v0).bind fun a2=>
((cell h a2.block (a2.off+5)).bind getB).bind fun b3=>
some (.inl ([some (.pointer v0),some (vI v2),some (vA v6),some (vL v8 v8n),some (vA v10),some (vI v11),some (.bool (!b3))],h))
else
some (.inl ([some (.pointer v0),some (vI v2),some (vA v6),some (vL v8 v8n),some (vA v10),some (vI v11),some (.bool false)],h)))).bind fun j1=>joinK j1 fun j1=>
j_PIALAIB j1.1 fun p4 n5 d6 l7 d8 n9 b10=>
(if b10=true then
((cell j1.2 d8.block (d8.off+3)).bind getS).bind fun l11=>
(if 0≤n9∧n9<((l7.2:Nat):Int) then
((l7.1:Option Addr)).bind fun a12=>
((cell j1.2 a12.block (a12.off+Int.toNat n9*1)).bind (getI .i64)).bind fun n13=>
(run (Et base) 162 [(.pointer p4),(vI n13),(vI (IntKind.wrap .i64 (n5-(1:Int))))] j1.2).bind fun r14=>
gG (some r14.1) 4 fun l15=>
l_IITL l15 fun n16 n17 s18 l19=>
(gate (sameA j1.2 r14.2 (some ⟨d8.block,(d8.off+3),none⟩) 1)
((gate (neA (some ⟨d8.block,(d8.off+3),none⟩) (List.length r14.2))
(nw1 r14.2 42 [(vI n16),(vI n17),(vT s18),(vL l19.1 l19.2)] fun h20=>
(app base h20 42 4 56 l11.1 l11.2 (rawAt h20 (some ⟨(List.length r14.2),0,none⟩) (1*4)) 1).bind fun p21=>
((some p21.1).bind getS).bind fun l22=>
(wr base p21.2 d8.block (d8.off+3) [(vL l22.1 l22.2)]).bind fun h23=>
some (0,[some (.pointer p4),some (vI n5),some (vA d6),some (vL l7.1 l7.2),some (vA d8),some (vI (IntKind.wrap .i64 (n9+(1:Int))))],h23)))))
else none)
else
some (2,[some (vA d6),some (vA d8)],j1.2)):Option (Nat×Slots×AH)):=by kernel_rfl
noncomputable abbrev qf198 (base:Nat) (v0:Option Addr) (v1:Int) (v2:Int) (h:AH):Option (Value×AH):=
nw1 h 42 [(vI 0),(vI 0),(vT ⟨#[]⟩),(vL none 0)] fun h1=>
(v0).bind fun a2=>
c_LLI h1 a2.block (a2.off+0) fun l3 l4 n5=>
(run (Et base) 191 [(vI (4:Int)),(vI v1)] h1).bind fun r6=>
((some r6.1).bind (getI .i64)).bind fun n7=>
(gate (sameA h1 r6.2 (some ⟨a2.block,(a2.off+0),none⟩) 3)
((run (Et base) 186 [(.agg #[(vL l3.1 l3.2),(vL l4.1 l4.2),(vI n5)]),(vI n7)] r6.2).bind fun r8=>
((some r8.1).bind (getI .i64)).bind fun n9=>
(v0).bind fun a10=>
c_LLI r8.2 a10.block (a10.off+0) fun l11 l12 n13=>
(run (Et base) 188 [(.agg #[(vL l11.1 l11.2),(vL l12.1 l12.2),(vI n13)]),(vI v1),(vI (IntKind.wrap .i64 ((IntKind.wrap .i64 (n9-(1:Int)))+(1:Int))))] r8.2).bind fun r14=>
(getTup 2 r14.1).bind fun l15=>
l_LB l15 fun l16 b17=>
nw1 r14.2 42 [(vI 0),(vI 0),(vT ⟨#[]⟩),(vL none 0)] fun h18=>
(wr base h18 (List.length r14.2) 0 [(vI (4:Int)),(vI (0:Int)),(vT (⟨#[]⟩:ByteArray)),(vL none 0)]).bind fun h19=>
((run (Et base) 90 [(vI (IntKind.wrap .i64 (n9-(1:Int)))),(vI (0:Int)),(vI (8:Int))] h19).bind fun r21=>
((some r21.1).bind getB).bind fun b22=>
(if (!b22)=true then
some (.inl ([some (.pointer v0),some (vI v2),some (vP (List.length h)),some (vL l16.1 l16.2),some (vP (List.length r14.2)),some (.bool true)],r21.2))
else
some (.inl ([some (.pointer v0),some (vI v2),some (vP (List.length h)),some (vL l16.1 l16.2),some (vP (List.length r14.2)),some (.bool (!b17))],r21.2)))).bind fun j20=>joinK j20 fun j20=>
j_PIALAB j20.1 fun p23 n24 d25 l26 d27 b28=>
(if b28=true then
(p23).bind fun a29=>
(wr base j20.2 a29.block (a29.off+5) [(.bool true)]).bind fun h30=>
c_IITL h30 d27.block d27.off fun n31 n32 s33 l34=>
(wr base h30 d25.block d25.off [(vI n31),(vI n32),(vT s33),(vL l34.1 l34.2)]).bind fun h35=>
c_IITL h35 d25.block d25.off fun n36 n37 s38 l39=>
some ((.agg #[(vI n36),(vI n37),(vT s38),(vL l39.1 l39.2)]),h35)
else
(loopL (B198_0 base) [some (.pointer p23),some (vI n24),some (vA d25),some (vL l26.1 l26.2),some (vA d27),some (vI (1:Int))] j20.2).bind fun q40=>
(if q40.1=2 then
j_AA q40.2.1 fun d41 d42=>
c_IITL q40.2.2 d42.block d42.off fun n43 n44 s45 l46=>
(wr base q40.2.2 d41.block d41.off [(vI n43),(vI n44),(vT s45),(vL l46.1 l46.2)]).bind fun h47=>
c_IITL h47 d41.block d41.off fun n48 n49 s50 l51=>
some ((.agg #[(vI n48),(vI n49),(vT s50),(vL l51.1 l51.2)]),h47)
else
none))))
theorem r198 {base:Nat} {v0:Option Addr} {v1:Int} {v2:Int} {h:AH} {r:Value×AH} (hx:qf198 base v0 v1 v2 h=some r):run (Et base) 198 [(.pointer v0),(vI v1),(vI v2)] h=some r:=run_i (an:=a198) Try.func198 (by kernel_rfl) (.trans (by kernel_rfl) hx)
noncomputable def B199_0 (base:Nat):Body:=fun l h=>lay s199_0 l fun s=>exCode (Et base) (run (Et base)) loopL a199_0 (subC [1,1,1,1,1,0,1,0,0] (bodyC Try.f199)) s h (keepK s199_0 e199_0)
theorem B199_0_eq (base:Nat) (v0:Option Addr) (v4:Addr) (v6:Option Addr) (v6n:Nat) (v8:Option Addr) (v8n:Nat) (v9:Int) (h:AH):B199_0 base [some (.pointer v0),some (vA v4),some (vL v6 v6n),some (vL v8 v8n),some (vI v9)] h =
((if (decide (v9<((v6n:Nat):Int)))=true then
((v0).bind fun a2=>
((cell h a2.block (a2.off+5)).bind getB).bind fun b3=>
(if b3=true then
(v0).bind fun a4=>
(wr base h a4.block (a4.off+5) [(.bool true)]).bind fun h5=>
some (.inl ([some (.pointer v0),some (vA v4),some (vL v6 v6n),some (vL v8 v8n),some (vI v9)],h5))
else
(if 0≤v9∧v9<((v6n:Nat):Int) then
((v6:Option Addr)).bind fun a6=>
((cell h a6.block (a6.off+Int.toNat v9*1)).bind (getI .i64)).bind fun n7=>
(run (Et base) 90 [(vI n7),(vI (0:Int)),(vI (255:Int))] h).bind fun r8=>
((some r8.1).bind getB).bind fun b9=>
(v0).bind fun a10=>
(wr base r8.2 a10.block (a10.off+5) [(.bool (!b9))]).bind fun h11=>
some (.inl ([some (.pointer v0),some (vA v4),some (vL v6 v6n),some (vL v8 v8n),some (vI v9)],h11))
else none))).bind fun j1=>joinK j1 fun j1=>
j_PALLI j1.1 fun p12 d13 l14 l15 n16=>
(if 0≤n16∧n16<((l14.2:Nat):Int) then
((l14.1:Option Addr)).bind fun a17=>
((cell j1.2 a17.block (a17.off+Int.toNat n16*1)).bind (getI .i64)).bind fun n18=>
nw1 j1.2 5 [(.int .u8 (IntKind.wrap .u8 n18))] fun h19=>
(app base h19 5 1 1 l15.1 l15.2 (rawAt h19 (some ⟨(List.length j1.2),0,none⟩) (1*1)) 1).bind fun p20=>
((some p20.1).bind getS).bind fun l21=>
some (0,[some (.pointer p12),some (vA d13),some (vL l14.1 l14.2),some (vL l21.1 l21.2),some (vI (IntKind.wrap .i64 (n16+(1:Int))))],p20.2)
else none)
else
some (2,[some (vA v4),some (vL v8 v8n)],h)):Option (Nat×Slots×AH)):=by kernel_rfl
theorem r199 {base:Nat} {v0:Option Addr} {v1:Int} {h:AH} {r:Value×AH} (hx:(nw1 h 42 [(vI 0),(vI 0),(vT ⟨#[]⟩),(vL none 0)] fun h1=>
(v0).bind fun a2=>
c_LLI h1 a2.block (a2.off+0) fun l3 l4 n5=>
(run (Et base) 191 [(vI (6:Int)),(vI v1)] h1).bind fun r6=>
((some r6.1).bind (getI .i64)).bind fun n7=>
(gate (sameA h1 r6.2 (some ⟨a2.block,(a2.off+0),none⟩) 3)
((run (Et base) 186 [(.agg #[(vL l3.1 l3.2),(vL l4.1 l4.2),(vI n5)]),(vI n7)] r6.2).bind fun r8=>
((some r8.1).bind (getI .i64)).bind fun n9=>
(v0).bind fun a10=>
c_LLI r8.2 a10.block (a10.off+0) fun l11 l12 n13=>
(run (Et base) 188 [(.agg #[(vL l11.1 l11.2),(vL l12.1 l12.2),(vI n13)]),(vI v1),(vI (IntKind.wrap .i64 ((IntKind.wrap .i64 (n9-(1:Int)))+(1:Int))))] r8.2).bind fun r14=>
(getTup 2 r14.1).bind fun l15=>
l_LB l15 fun l16 b17=>
((run (Et base) 90 [(vI (IntKind.wrap .i64 (n9-(1:Int)))),(vI (0:Int)),(vI (40:Int))] r14.2).bind fun r19=>
((some r19.1).bind getB).bind fun b20=>
(if (!b20)=true then
some (.inl ([some (.pointer v0),some (vP (List.length h)),some (vL l16.1 l16.2),some (.bool true)],r19.2))
else
some (.inl ([some (.pointer v0),some (vP (List.length h)),some (vL l16.1 l16.2),some (.bool (!b17))],r19.2)))).bind fun j18=>joinK j18 fun j18=>
j_PALB j18.1 fun p21 d22 l23 b24=>
(if b24=true then
(p21).bind fun a25=>
(wr base j18.2 a25.block (a25.off+5) [(.bool true)]).bind fun h26=>
(wr base h26 d22.block d22.off [(vI (0:Int)),(vI (0:Int)),(vT (⟨#[]⟩:ByteArray)),(vL none 0)]).bind fun h27=>
c_IITL h27 d22.block d22.off fun n28 n29 s30 l31=>
some ((.agg #[(vI n28),(vI n29),(vT s30),(vL l31.1 l31.2)]),h27)
else
nw1 j18.2 5 [] fun h32=>
(loopL (B199_0 base) [some (.pointer p21),some (vA d22),some (vL l23.1 l23.2),some (vL (some ⟨(List.length j18.2),0,none⟩) 0),some (vI (1:Int))] h32).bind fun q33=>
(if q33.1=2 then
j_AL q33.2.1 fun d34 l35=>
((rawAt q33.2.2 l35.1 l35.2).bind u8s).bind fun z36=>
(wr base q33.2.2 d34.block d34.off [(vI (6:Int)),(vI (0:Int)),(vT (bstr z36)),(vL none 0)]).bind fun h37=>
c_IITL h37 d34.block d34.off fun n38 n39 s40 l41=>
some ((.agg #[(vI n38),(vI n39),(vT s40),(vL l41.1 l41.2)]),h37)
else
none)))))=some r):run (Et base) 199 [(.pointer v0),(vI v1)] h=some r:=run_i (an:=a199) Try.func199 (by kernel_rfl) (.trans (by kernel_rfl) hx)
end Go.Proofs.Ytkdenmdijdmnjaa.Am
