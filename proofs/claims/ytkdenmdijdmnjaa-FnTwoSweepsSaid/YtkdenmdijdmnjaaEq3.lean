/- What each of these functions comes to on the abstract machine, one equation a function and one a loop.
Conditions: none. -/
import Derived.Test.YtkdenmdijdmnjaaTb
set_option linter.unusedVariables false
set_option maxRecDepth 100000
namespace Go.Proofs.Ytkdenmdijdmnjaa.Am
open Go Go.RowKit
noncomputable abbrev qf200 (base:Nat) (v0:Option Addr) (v1:Int) (v2:Int) (h:AH):Option (Value×AH):=
nw1 h 42 [(vI 0),(vI 0),(vT ⟨#[]⟩),(vL none 0)] fun h1=>
(run (Et base) 187 [(vI v1)] h1).bind fun r2=>
((some r2.1).bind (getI .i64)).bind fun n3=>
(v0).bind fun a4=>
((cell r2.2 a4.block (a4.off+2)).bind (getI .i64)).bind fun n5=>
(v0).bind fun a6=>
(wr base r2.2 a6.block (a6.off+2) [(vI (IntKind.wrap .i64 (n5-(1:Int))))]).bind fun h7=>
((if (decide (v1<(0:Int)))=true then
some (.inl ([some (.pointer v0),some (vI v1),some (vI v2),some (vP (List.length h)),some (vI n3),some (.bool true)],h7))
else
(if (decide (v2<(1:Int)))=true then
some (.inl ([some (.pointer v0),some (vI v1),some (vI v2),some (vP (List.length h)),some (vI n3),some (.bool true)],h7))
else
(v0).bind fun a9=>
((cell h7 a9.block (a9.off+2)).bind (getI .i64)).bind fun n10=>
some (.inl ([some (.pointer v0),some (vI v1),some (vI v2),some (vP (List.length h)),some (vI n3),some (.bool (decide (n10<(0:Int))))],h7))))).bind fun j8=>joinK j8 fun j8=>
j_PIIAIB j8.1 fun p11 n12 n13 d14 n15 b16=>
(if b16=true then
(p11).bind fun a17=>
(wr base j8.2 a17.block (a17.off+3) [(.bool true)]).bind fun h18=>
(wr base h18 d14.block d14.off [(vI (0:Int)),(vI (0:Int)),(vT (⟨#[]⟩:ByteArray)),(vL none 0)]).bind fun h19=>
c_IITL h19 d14.block d14.off fun n20 n21 s22 l23=>
some ((.agg #[(vI n20),(vI n21),(vT s22),(vL l23.1 l23.2)]),h19)
else
((run (Et base) 189 [(vI n12)] j8.2).bind fun r25=>
((some r25.1).bind (getI .i64)).bind fun n26=>
(if (n26==(0:Int))=true then
((p11).bind fun a28=>
((cell r25.2 a28.block (a28.off+3)).bind getB).bind fun b29=>
(if b29=true then
(p11).bind fun a30=>
(wr base r25.2 a30.block (a30.off+3) [(.bool true)]).bind fun h31=>
some (.inl ([some (vA d14),some (vI n15)],h31))
else
(p11).bind fun a32=>
(wr base r25.2 a32.block (a32.off+3) [(.bool (decide (n15>(2000000:Int))))]).bind fun h33=>
some (.inl ([some (vA d14),some (vI n15)],h33)))).bind fun j27=>joinK j27 fun j27=>
j_AI j27.1 fun d34 n35=>
(wr base j27.2 d34.block d34.off [(vI (1:Int)),(vI (IntKind.wrap .i64 (n35-(1000000:Int)))),(vT (⟨#[]⟩:ByteArray)),(vL none 0)]).bind fun h36=>
(c_IITL h36 d34.block d34.off fun n37 n38 s39 l40=>
some ((.agg #[(vI n37),(vI n38),(vT s39),(vL l40.1 l40.2)]),h36)).map .inr
else
(if (n26==(1:Int))=true then
(p11).bind fun a41=>
((cell r25.2 a41.block (a41.off+1)).bind getS).bind fun l42=>
(if (decide (n15<((l42.2:Nat):Int)))=true then
(p11).bind fun a43=>
((cell r25.2 a43.block (a43.off+1)).bind getS).bind fun l44=>
(if 0≤n15∧n15<((l44.2:Nat):Int) then
((l44.1:Option Addr)).bind fun a45=>
((cell r25.2 a45.block (a45.off+Int.toNat n15*1)).bind getStr).bind fun s46=>
(wr base r25.2 d14.block d14.off [(vI (2:Int)),(vI (0:Int)),(vT s46),(vL none 0)]).bind fun h47=>
(c_IITL h47 d14.block d14.off fun n48 n49 s50 l51=>
some ((.agg #[(vI n48),(vI n49),(vT s50),(vL l51.1 l51.2)]),h47)).map .inr
else none)
else
some (.inl ([some (.pointer p11),some (vA d14)],r25.2)))
else
(if (n26==(2:Int))=true then
(wr base r25.2 d14.block d14.off [(vI (3:Int)),(vI n15),(vT (⟨#[]⟩:ByteArray)),(vL none 0)]).bind fun h52=>
(c_IITL h52 d14.block d14.off fun n53 n54 s55 l56=>
some ((.agg #[(vI n53),(vI n54),(vT s55),(vL l56.1 l56.2)]),h52)).map .inr
else
((if (n26==(3:Int))=true then
some (.inl ([some (.pointer p11),some (vI n12),some (vI n13),some (vA d14),some (vI n15),some (vI n26),some (.bool (n26==(3:Int)))],r25.2))
else
some (.inl ([some (.pointer p11),some (vI n12),some (vI n13),some (vA d14),some (vI n15),some (vI n26),some (.bool (n26==(5:Int)))],r25.2)))).bind fun j57=>joinK j57 fun j57=>
j_PIIAIIB j57.1 fun p58 n59 n60 d61 n62 n63 b64=>
(if b64=true then
(run (Et base) 220 [(.pointer p58),(vI n59),(vI n60)] j57.2).bind fun r65=>
gG (some r65.1) 4 fun l66=>
l_IITL l66 fun n67 n68 s69 l70=>
(wr base r65.2 d61.block d61.off [(vI n67),(vI n68),(vT s69),(vL l70.1 l70.2)]).bind fun h71=>
(c_IITL h71 d61.block d61.off fun n72 n73 s74 l75=>
some ((.agg #[(vI n72),(vI n73),(vT s74),(vL l75.1 l75.2)]),h71)).map .inr
else
(if (n63==(4:Int))=true then
(run (Et base) 221 [(.pointer p58),(vI n62),(vI n60)] j57.2).bind fun r76=>
gG (some r76.1) 4 fun l77=>
l_IITL l77 fun n78 n79 s80 l81=>
(wr base r76.2 d61.block d61.off [(vI n78),(vI n79),(vT s80),(vL l81.1 l81.2)]).bind fun h82=>
(c_IITL h82 d61.block d61.off fun n83 n84 s85 l86=>
some ((.agg #[(vI n83),(vI n84),(vT s85),(vL l86.1 l86.2)]),h82)).map .inr
else
(if (n63==(6:Int))=true then
(run (Et base) 222 [(.pointer p58),(vI n62)] j57.2).bind fun r87=>
gG (some r87.1) 4 fun l88=>
l_IITL l88 fun n89 n90 s91 l92=>
(wr base r87.2 d61.block d61.off [(vI n89),(vI n90),(vT s91),(vL l92.1 l92.2)]).bind fun h93=>
(c_IITL h93 d61.block d61.off fun n94 n95 s96 l97=>
some ((.agg #[(vI n94),(vI n95),(vT s96),(vL l97.1 l97.2)]),h93)).map .inr
else
some (.inl ([some (.pointer p58),some (vA d61)],j57.2))))))))).bind fun j24=>joinK j24 fun j24=>
j_PA j24.1 fun p98 d99=>
(p98).bind fun a100=>
(wr base j24.2 a100.block (a100.off+3) [(.bool true)]).bind fun h101=>
(wr base h101 d99.block d99.off [(vI (0:Int)),(vI (0:Int)),(vT (⟨#[]⟩:ByteArray)),(vL none 0)]).bind fun h102=>
c_IITL h102 d99.block d99.off fun n103 n104 s105 l106=>
some ((.agg #[(vI n103),(vI n104),(vT s105),(vL l106.1 l106.2)]),h102))
theorem r200 {base:Nat} {v0:Option Addr} {v1:Int} {v2:Int} {h:AH} {r:Value×AH} (hx:qf200 base v0 v1 v2 h=some r):run (Et base) 200 [(.pointer v0),(vI v1),(vI v2)] h=some r:=run_i (an:=a200) Try.func200 (by kernel_rfl) (.trans (by kernel_rfl) hx)
noncomputable def B214_1 (base:Nat):Body:=fun l h=>lay s214_1 l fun s=>exCode (Et base) (run (Et base)) loopL a214_1 (subC [1,0,1,0,1,1,1,1,1,1,1,1,1,0,1,1,1,1,0,1,0,0] (bodyC Try.f214)) s h (keepK s214_1 e214_1)
noncomputable def B214_0 (base:Nat):Body:=fun l h=>lay s214_0 l fun s=>exCode (Et base) (run (Et base)) loopL a214_0 (subC [1,0,1,0,1,1,1,1,1,1,1,0,1,1,0,1,0,0] (bodyC Try.f214)) s h (keepK s214_0 e214_0)
theorem B214_1_eq (base:Nat) (v0:Option Addr) (v1:Option Addr) (v5:Addr) (v12:Int) (v13:Bool) (v14:Int) (h:AH):B214_1 base [some (.pointer v0),some (.pointer v1),some (vA v5),some (vI v12),some (.bool v13),some (vI v14)] h =
(((cell h v5.block (v5.off+3)).bind getS).bind fun l1=>
(if (decide (v14<((l1.2:Nat):Int)))=true then
(((cell h v5.block (v5.off+3)).bind getS).bind fun l3=>
(if 0≤v14∧v14<((l3.2:Nat):Int) then
((l3.1:Option Addr)).bind fun a4=>
c_IITL h a4.block (a4.off+Int.toNat v14*4) fun n5 n6 s7 l8=>
(run (Et base) 214 [(.pointer v0),(.pointer v1),(.agg #[(vI n5),(vI n6),(vT s7),(vL l8.1 l8.2)])] h).bind fun r9=>
(getTup 2 r9.1).bind fun l10=>
l_IB l10 fun n11 b12=>
(v0).bind fun a13=>
((cell r9.2 a13.block a13.off).bind getS).bind fun l14=>
(if 0≤(IntKind.wrap .i64 ((IntKind.wrap .i64 (v12+(1:Int)))+v14))∧(IntKind.wrap .i64 ((IntKind.wrap .i64 (v12+(1:Int)))+v14))<((l14.2:Nat):Int) then
((l14.1:Option Addr)).bind fun a15=>
(wr base r9.2 a15.block (a15.off+Int.toNat (IntKind.wrap .i64 ((IntKind.wrap .i64 (v12+(1:Int)))+v14))*1) [(vI n11)]).bind fun h16=>
(if v13=true then
some (.inl ([some (.pointer v0),some (.pointer v1),some (vA v5),some (vI v12),some (.bool b12),some (vI v14)],h16))
else
some (.inl ([some (.pointer v0),some (.pointer v1),some (vA v5),some (vI v12),some (.bool false),some (vI v14)],h16)))
else none)
else none)).bind fun j2=>joinK j2 fun j2=>
j_PPAIBI j2.1 fun p17 p18 d19 n20 b21 n22=>
some (0,[some (.pointer p17),some (.pointer p18),some (vA d19),some (vI n20),some (.bool b21),some (vI (IntKind.wrap .i64 (n22+(1:Int))))],j2.2)
else
some (5,[some (vI v12),some (.bool v13)],h)):Option (Nat×Slots×AH)):=by kernel_rfl
theorem B214_0_eq (base:Nat) (v0:Option Addr) (v5:Addr) (v10:Int) (v11:Int) (h:AH):B214_0 base [some (.pointer v0),some (vA v5),some (vI v10),some (vI v11)] h =
(((cell h v5.block (v5.off+2)).bind getStr).bind fun s1=>
(if (decide (v11<(s1.size:Int)))=true then
(v0).bind fun a2=>
((cell h a2.block a2.off).bind getS).bind fun l3=>
((cell h v5.block (v5.off+2)).bind getStr).bind fun s4=>
(if 0≤v11∧v11<(s4.size:Int) then
(gate (neA (some a2) (List.length h))
((some (h++[some ⟨[(.int .i64 (IntKind.wrap .i64 ((s4.data.toList.getD (Int.toNat v11) 0).toNat:Int)))],3⟩])).bind fun h5=>
(app base h5 3 1 8 l3.1 l3.2 (rawAt h5 (some ⟨(List.length h),0,none⟩) (1*1)) 1).bind fun p6=>
((some p6.1).bind getS).bind fun l7=>
(v0).bind fun a8=>
(wr base p6.2 a8.block a8.off [(.slice l7.1 l7.2 l7.2)]).bind fun h9=>
some (0,[some (.pointer v0),some (.pointer (some v5)),some (.int .i64 v10),some (.int .i64 (IntKind.wrap .i64 (v11+(1:Int))))],h9)))
else none)
else
some (3,[some (.int .i64 v10)],h)):Option (Nat×Slots×AH)):=by kernel_rfl
noncomputable abbrev qf214 (base:Nat) (v0:Option Addr) (v1:Option Addr) (v2_0:Int) (v2_1:Int) (v2_2:ByteArray) (v2_3:Option Addr) (v2_3n:Nat) (h:AH):Option (Value×AH):=
nw1 h 42 [(vI v2_0),(vI v2_1),(vT v2_2),(vL v2_3 v2_3n)] fun h1=>
((cell h1 (List.length h) 0).bind (getI .i64)).bind fun n2=>
(if (n2==(1:Int))=true then
((cell h1 (List.length h) 1).bind (getI .i64)).bind fun n3=>
(run (Et base) 191 [(vI (0:Int)),(vI (IntKind.wrap .i64 (n3+(1000000:Int))))] h1).bind fun r4=>
((some r4.1).bind (getI .i64)).bind fun n5=>
some ((.tuple #[(vI n5),(.bool true)]),r4.2)
else
(if (n2==(3:Int))=true then
((cell h1 (List.length h) 1).bind (getI .i64)).bind fun n6=>
(run (Et base) 191 [(vI (2:Int)),(vI n6)] h1).bind fun r7=>
((some r7.1).bind (getI .i64)).bind fun n8=>
some ((.tuple #[(vI n8),(.bool true)]),r7.2)
else
(if (n2==(2:Int))=true then
(v1).bind fun a9=>
((cell h1 a9.block a9.off).bind getS).bind fun l10=>
((cell h1 (List.length h) 2).bind getStr).bind fun s11=>
(run (Et base) 230 [(vL l10.1 l10.2),(vT s11)] h1).bind fun r12=>
(getTup 2 r12.1).bind fun l13=>
l_LI l13 fun l14 n15=>
(v1).bind fun a16=>
(wr base r12.2 a16.block a16.off [(vL l14.1 l14.2)]).bind fun h17=>
(run (Et base) 191 [(vI (1:Int)),(vI n15)] h17).bind fun r18=>
((some r18.1).bind (getI .i64)).bind fun n19=>
some ((.tuple #[(vI n19),(.bool (decide (n15≥(0:Int))))]),r18.2)
else
(if (n2==(6:Int))=true then
(v0).bind fun a20=>
((cell h1 a20.block a20.off).bind getS).bind fun l21=>
(v0).bind fun a22=>
((cell h1 a22.block a22.off).bind getS).bind fun l23=>
((cell h1 (List.length h) 2).bind getStr).bind fun s24=>
(gate (neA (some a22) (List.length h1))
(nw1 h1 3 [(vI (s24.size:Int))] fun h25=>
(app base h25 3 1 8 l23.1 l23.2 (rawAt h25 (some ⟨(List.length h1),0,none⟩) (1*1)) 1).bind fun p26=>
((some p26.1).bind getS).bind fun l27=>
(v0).bind fun a28=>
(wr base p26.2 a28.block a28.off [(vL l27.1 l27.2)]).bind fun h29=>
(loopL (B214_0 base) [some (.pointer v0),some (vP (List.length h)),some (vI ((l21.2:Nat):Int)),some (vI (0:Int))] h29).bind fun q30=>
(if q30.1=3 then
((sget q30.2.1 0).bind (getI .i64)).bind fun n31=>
(run (Et base) 191 [(vI (6:Int)),(vI n31)] q30.2.2).bind fun r32=>
((some r32.1).bind (getI .i64)).bind fun n33=>
some ((.tuple #[(vI n33),(.bool true)]),r32.2)
else
none)))
else
(if (n2==(4:Int))=true then
(v0).bind fun a34=>
((cell h1 a34.block a34.off).bind getS).bind fun l35=>
(v0).bind fun a36=>
((cell h1 a36.block a36.off).bind getS).bind fun l37=>
((cell h1 (List.length h) 3).bind getS).bind fun l38=>
(gate (neA (some a36) (List.length h1))
(nw1 h1 3 [(vI ((l38.2:Nat):Int))] fun h39=>
(app base h39 3 1 8 l37.1 l37.2 (rawAt h39 (some ⟨(List.length h1),0,none⟩) (1*1)) 1).bind fun p40=>
((some p40.1).bind getS).bind fun l41=>
(v0).bind fun a42=>
(wr base p40.2 a42.block a42.off [(vL l41.1 l41.2)]).bind fun h43=>
(v0).bind fun a44=>
((cell h43 a44.block a44.off).bind getS).bind fun l45=>
((cell h43 (List.length h) 3).bind getS).bind fun l46=>
(if 0≤((l46.2:Nat):Int)∧((l46.2:Nat):Int)≤140737488355328 then
(app base h43 3 1 8 l45.1 l45.2 (some (rep [(vI 0)] (Int.toNat ((l46.2:Nat):Int)))) (Int.toNat ((l46.2:Nat):Int))).bind fun p47=>
((some p47.1).bind getS).bind fun l48=>
(v0).bind fun a49=>
(wr base p47.2 a49.block a49.off [(vL l48.1 l48.2)]).bind fun h50=>
(loopL (B214_1 base) [some (.pointer v0),some (.pointer v1),some (vP (List.length h)),some (vI ((l35.2:Nat):Int)),some (.bool true),some (vI (0:Int))] h50).bind fun q51=>
(if q51.1=5 then
j_IB q51.2.1 fun n52 b53=>
(run (Et base) 191 [(vI (4:Int)),(vI n52)] q51.2.2).bind fun r54=>
((some r54.1).bind (getI .i64)).bind fun n55=>
some ((.tuple #[(vI n55),(.bool b53)]),r54.2)
else
none)
else none)))
else
c_IITL h1 (List.length h) 0 fun n56 n57 s58 l59=>
(run (Et base) 231 [(.pointer v0),(.pointer v1),(.agg #[(vI n56),(vI n57),(vT s58),(vL l59.1 l59.2)])] h1).bind fun r60=>
(getTup 2 r60.1).bind fun l61=>
l_IB l61 fun n62 b63=>
some ((.tuple #[(vI n62),(.bool b63)]),r60.2))))))
theorem r214 {base:Nat} {v0:Option Addr} {v1:Option Addr} {v2_0:Int} {v2_1:Int} {v2_2:ByteArray} {v2_3:Option Addr} {v2_3n:Nat} {h:AH} {r:Value×AH} (hx:qf214 base v0 v1 v2_0 v2_1 v2_2 v2_3 v2_3n h=some r):run (Et base) 214 [(.pointer v0),(.pointer v1),(.agg #[(vI v2_0),(vI v2_1),(vT v2_2),(vL v2_3 v2_3n)])] h=some r:=run_i (an:=a214) Try.func214 (by kernel_rfl) (.trans (by kernel_rfl) hx)
noncomputable def B215_2 (base:Nat):Body:=fun l h=>lay s215_2 l fun s=>exCode (Et base) (run (Et base)) loopL a215_2 (subC [1,1,0,1,1,1,1,1,0,1,0,0] (bodyC Try.f215)) s h (keepK s215_2 e215_2)
noncomputable def B215_1 (base:Nat):Body:=fun l h=>lay s215_1 l fun s=>exCode (Et base) (run (Et base)) loopL a215_1 (subC [1,1,0,1,1,1,0,1,1,0,0] (bodyC Try.f215)) s h (keepK s215_1 e215_1)
noncomputable def B215_0 (base:Nat):Body:=fun l h=>lay s215_0 l fun s=>exCode (Et base) (run (Et base)) loopL a215_0 (subC [1,1,0,1,0,1,0,0] (bodyC Try.f215)) s h (keepK s215_0 e215_0)
theorem B215_2_eq (base:Nat) (v0:Option Addr) (v0n:Nat) (v1:Option Addr) (v1n:Nat) (v3:Int) (v8:Int) (v11:Int) (h:AH):B215_2 base [some (vL v0 v0n),some (vL v1 v1n),some (vI v3),some (vI v8),some (vI v11)] h =
((if (decide (v11<(IntKind.wrap .i64 (v8+(2:Int)))))=true then
(if 0≤v11∧v11<((v0n:Nat):Int) then
((v0:Option Addr)).bind fun a1=>
((cell h a1.block (a1.off+Int.toNat v11*1)).bind (getI .i64)).bind fun n2=>
(run (Et base) 216 [(.int .i64 n2),(.int .i64 v3)] h).bind fun r3=>
((some r3.1).bind (getI .i64)).bind fun n4=>
(if 0≤v11∧v11<((v1n:Nat):Int) then
((v1:Option Addr)).bind fun a5=>
(wr base r3.2 a5.block (a5.off+Int.toNat v11*1) [(.int .i64 n4)]).bind fun h6=>
(if 0≤v11∧v11<((v0n:Nat):Int) then
((v0:Option Addr)).bind fun a7=>
((cell h6 a7.block (a7.off+Int.toNat v11*1)).bind (getI .i64)).bind fun n8=>
(run (Et base) 215 [(.slice v0 v0n v0n),(.slice v1 v1n v1n),(.int .i64 n8),(.int .i64 v3)] h6).bind fun r9=>
(getTup 0 r9.1).bind fun _=>
some (0,[some (.slice v0 v0n v0n),some (.slice v1 v1n v1n),some (.int .i64 v3),some (.int .i64 v8),some (.int .i64 (IntKind.wrap .i64 (v11+(1:Int))))],r9.2)
else none)
else none)
else none)
else
some (7,[],h)):Option (Nat×Slots×AH)):=by kernel_rfl
theorem B215_1_eq (base:Nat) (v0:Option Addr) (v0n:Nat) (v1:Option Addr) (v1n:Nat) (v3:Int) (v8:Int) (v10:Int) (h:AH):B215_1 base [some (vL v0 v0n),some (vL v1 v1n),some (vI v3),some (vI v8),some (vI v10)] h =
((if 0≤v8∧v8<((v0n:Nat):Int) then
((v0:Option Addr)).bind fun a1=>
((cell h a1.block (a1.off+Int.toNat v8*1)).bind (getI .i64)).bind fun n2=>
(if (decide (v10≤(IntKind.wrap .i64 (v8+n2))))=true then
(if 0≤v10∧v10<((v0n:Nat):Int) then
((v0:Option Addr)).bind fun a3=>
((cell h a3.block (a3.off+Int.toNat v10*1)).bind (getI .i64)).bind fun n4=>
(run (Et base) 216 [(.int .i64 n4),(.int .i64 v3)] h).bind fun r5=>
((some r5.1).bind (getI .i64)).bind fun n6=>
(if 0≤v10∧v10<((v1n:Nat):Int) then
((v1:Option Addr)).bind fun a7=>
(wr base r5.2 a7.block (a7.off+Int.toNat v10*1) [(.int .i64 n6)]).bind fun h8=>
(if 0≤v10∧v10<((v0n:Nat):Int) then
((v0:Option Addr)).bind fun a9=>
((cell h8 a9.block (a9.off+Int.toNat v10*1)).bind (getI .i64)).bind fun n10=>
(run (Et base) 215 [(.slice v0 v0n v0n),(.slice v1 v1n v1n),(.int .i64 n10),(.int .i64 v3)] h8).bind fun r11=>
(getTup 0 r11.1).bind fun _=>
some (0,[some (.slice v0 v0n v0n),some (.slice v1 v1n v1n),some (.int .i64 v3),some (.int .i64 v8),some (.int .i64 (IntKind.wrap .i64 (v10+(1:Int))))],r11.2)
else none)
else none)
else none)
else
some (5,[],h))
else none):Option (Nat×Slots×AH)):=by kernel_rfl
theorem B215_0_eq (base:Nat) (v0:Option Addr) (v0n:Nat) (v1:Option Addr) (v1n:Nat) (v8:Int) (v9:Int) (h:AH):B215_0 base [some (vL v0 v0n),some (vL v1 v1n),some (vI v8),some (vI v9)] h =
((if 0≤v8∧v8<((v0n:Nat):Int) then
((v0:Option Addr)).bind fun a1=>
((cell h a1.block (a1.off+Int.toNat v8*1)).bind (getI .i64)).bind fun n2=>
(if (decide (v9≤(IntKind.wrap .i64 (v8+n2))))=true then
(if 0≤v9∧v9<((v0n:Nat):Int) then
((v0:Option Addr)).bind fun a3=>
((cell h a3.block (a3.off+Int.toNat v9*1)).bind (getI .i64)).bind fun n4=>
(if 0≤v9∧v9<((v1n:Nat):Int) then
((v1:Option Addr)).bind fun a5=>
(wr base h a5.block (a5.off+Int.toNat v9*1) [(.int .i64 n4)]).bind fun h6=>
some (0,[some (.slice v0 v0n v0n),some (.slice v1 v1n v1n),some (.int .i64 v8),some (.int .i64 (IntKind.wrap .i64 (v9+(1:Int))))],h6)
else none)
else none)
else
some (3,[],h))
else none):Option (Nat×Slots×AH)):=by kernel_rfl
theorem r215 {base:Nat} {v0:Option Addr} {v0n:Nat} {v1:Option Addr} {v1n:Nat} {v2:Int} {v3:Int} {h:AH} {r:Value×AH} (hx:((run (Et base) 187 [(.int .i64 v2)] h).bind fun r1=>
((some r1.1).bind (getI .i64)).bind fun n2=>
(run (Et base) 189 [(.int .i64 v2)] r1.2).bind fun r3=>
((some r3.1).bind (getI .i64)).bind fun n4=>
(if (n4==(6:Int))=true then
(loopL (B215_0 base) [some (.slice v0 v0n v0n),some (.slice v1 v1n v1n),some (.int .i64 n2),some (.int .i64 n2)] r3.2).bind fun q5=>
(if q5.1=3 then
some ((.tuple #[]),q5.2.2)
else
none)
else
(if (n4==(4:Int))=true then
(if 0≤n2∧n2<((v0n:Nat):Int) then
((v0:Option Addr)).bind fun a6=>
((cell r3.2 a6.block (a6.off+Int.toNat n2*1)).bind (getI .i64)).bind fun n7=>
(if 0≤n2∧n2<((v1n:Nat):Int) then
((v1:Option Addr)).bind fun a8=>
(wr base r3.2 a8.block (a8.off+Int.toNat n2*1) [(.int .i64 n7)]).bind fun h9=>
(loopL (B215_1 base) [some (.slice v0 v0n v0n),some (.slice v1 v1n v1n),some (.int .i64 v3),some (.int .i64 n2),some (.int .i64 (IntKind.wrap .i64 (n2+(1:Int))))] h9).bind fun q10=>
(if q10.1=5 then
some ((.tuple #[]),q10.2.2)
else
none)
else none)
else none)
else
(if (n4==(5:Int))=true then
(loopL (B215_2 base) [some (.slice v0 v0n v0n),some (.slice v1 v1n v1n),some (.int .i64 v3),some (.int .i64 n2),some (.int .i64 n2)] r3.2).bind fun q11=>
(if q11.1=7 then
some ((.tuple #[]),q11.2.2)
else
none)
else
some ((.tuple #[]),r3.2)))))=some r):run (Et base) 215 [(vL v0 v0n),(vL v1 v1n),(vI v2),(vI v3)] h=some r:=run_i (an:=a215) Try.func215 (by kernel_rfl) (.trans (by kernel_rfl) hx)
theorem r216 {base:Nat} {v0:Int} {v1:Int} {h:AH} {r:Value×AH} (hx:((run (Et base) 189 [(.int .i64 v0)] h).bind fun r1=>
((some r1.1).bind (getI .i64)).bind fun n2=>
(run (Et base) 90 [(.int .i64 n2),(.int .i64 (4:Int)),(.int .i64 (6:Int))] r1.2).bind fun r3=>
((some r3.1).bind getB).bind fun b4=>
(if b4=true then
(run (Et base) 189 [(.int .i64 v0)] r3.2).bind fun r5=>
((some r5.1).bind (getI .i64)).bind fun n6=>
(run (Et base) 187 [(.int .i64 v0)] r5.2).bind fun r7=>
((some r7.1).bind (getI .i64)).bind fun n8=>
(run (Et base) 191 [(.int .i64 n6),(.int .i64 (IntKind.wrap .i64 (n8+v1)))] r7.2).bind fun r9=>
((some r9.1).bind (getI .i64)).bind fun n10=>
some ((.int .i64 n10),r9.2)
else
some ((.int .i64 v0),r3.2)))=some r):run (Et base) 216 [(vI v0),(vI v1)] h=some r:=run_i (an:=a216) Try.func216 (by kernel_rfl) (.trans (by kernel_rfl) hx)
noncomputable def B217_0 (base:Nat):Body:=fun l h=>lay s217_0 l fun s=>exCode (Et base) (run (Et base)) loopL a217_0 (subC [1,1,1,1,0,1,0,0] (bodyC Try.f217)) s h (keepK s217_0 e217_0)
theorem B217_0_eq (base:Nat) (v0:Option Addr) (v1:Int) (v2:Int) (v7:Int) (v8:Option Addr) (v8n:Nat) (v9:Int) (h:AH):B217_0 base [some (.pointer v0),some (vI v1),some (vI v2),some (vI v7),some (vL v8 v8n),some (vI v9)] h =
(((if (decide (v9≤v7))=true then
(v0).bind fun a2=>
((cell h a2.block (a2.off+3)).bind getB).bind fun b3=>
some (.inl ([some (.pointer v0),some (vI v1),some (vI v2),some (vI v7),some (vL v8 v8n),some (vI v9),some (.bool (!b3))],h))
else
some (.inl ([some (.pointer v0),some (vI v1),some (vI v2),some (vI v7),some (vL v8 v8n),some (vI v9),some (.bool false)],h)))).bind fun j1=>joinK j1 fun j1=>
j_PIIILIB j1.1 fun p4 n5 n6 n7 l8 n9 b10=>
(if b10=true then
(run (Et base) 232 [(.pointer p4),(vI (IntKind.wrap .i64 (n5+n9)))] j1.2).bind fun r11=>
((some r11.1).bind (getI .i64)).bind fun n12=>
(run (Et base) 196 [(.pointer p4),(vI n12),(vI (IntKind.wrap .i64 (n6+(1:Int))))] r11.2).bind fun r13=>
gG (some r13.1) 4 fun l14=>
l_IITL l14 fun n15 n16 s17 l18=>
nw1 r13.2 42 [(vI 0),(vI 0),(vT ⟨#[]⟩),(vL none 0)] fun h19=>
(wr base h19 (List.length r13.2) 0 [(vI n15),(vI n16),(vT s17),(vL l18.1 l18.2)]).bind fun h20=>
c_IITL h20 (List.length r13.2) 0 fun n21 n22 s23 l24=>
nw1 h20 42 [(vI n21),(vI n22),(vT s23),(vL l24.1 l24.2)] fun h25=>
(app base h25 42 4 56 l8.1 l8.2 (rawAt h25 (some ⟨(List.length h20),0,none⟩) (1*4)) 1).bind fun p26=>
((some p26.1).bind getS).bind fun l27=>
some (0,[some (.pointer p4),some (vI n5),some (vI n6),some (vI n7),some (vL l27.1 l27.2),some (vI (IntKind.wrap .i64 (n9+(1:Int))))],p26.2)
else
some (2,[some (vL l8.1 l8.2)],j1.2)):Option (Nat×Slots×AH)):=by kernel_rfl
theorem r217 {base:Nat} {v0:Option Addr} {v1:Int} {v2:Int} {h:AH} {r:Value×AH} (hx:((run (Et base) 232 [(.pointer v0),(.int .i64 v1)] h).bind fun r1=>
((some r1.1).bind (getI .i64)).bind fun n2=>
((v0).bind fun a4=>
((cell r1.2 a4.block (a4.off+3)).bind getB).bind fun b5=>
(if b5=true then
some (.inl ([some (.pointer v0),some (.int .i64 v1),some (.int .i64 v2),some (.int .i64 n2),some (.bool true)],r1.2))
else
(run (Et base) 83 [(.int .i64 n2),(.int .i64 (0:Int)),(.int .i64 (8:Int))] r1.2).bind fun r6=>
((some r6.1).bind getB).bind fun b7=>
some (.inl ([some (.pointer v0),some (.int .i64 v1),some (.int .i64 v2),some (.int .i64 n2),some (.bool (!b7))],r6.2)))).bind fun j3=>joinK j3 fun j3=>
((sget j3.1 0).bind getP).bind fun p8=>
((sget (j3.1.tail) 0).bind (getI .i64)).bind fun n9=>
((sget (j3.1.tail.tail) 0).bind (getI .i64)).bind fun n10=>
((sget (j3.1.tail.tail.tail) 0).bind (getI .i64)).bind fun n11=>
((sget (j3.1.tail.tail.tail.tail) 0).bind getB).bind fun b12=>
(if b12=true then
(p8).bind fun a13=>
(wr base j3.2 a13.block (a13.off+3) [(.bool true)]).bind fun h14=>
some ((.slice none 0 0),h14)
else
(loopL (B217_0 base) [some (.pointer p8),some (.int .i64 n9),some (.int .i64 n10),some (.int .i64 n11),some (.slice none 0 0),some (.int .i64 (1:Int))] j3.2).bind fun q15=>
(if q15.1=2 then
((sget q15.2.1 0).bind getS).bind fun l16=>
some ((.slice l16.1 l16.2 l16.2),q15.2.2)
else
none)))=some r):run (Et base) 217 [(.pointer v0),(vI v1),(vI v2)] h=some r:=run_i (an:=a217) Try.func217 (by kernel_rfl) (.trans (by kernel_rfl) hx)
noncomputable def B218_0 (base:Nat):Body:=fun l h=>lay s218_0 l fun s=>exCode (Et base) (run (Et base)) loopL a218_0 (subC [1,1,0,0,0] (bodyC Try.f218)) s h (keepK s218_0 e218_0)
theorem B218_0_eq (base:Nat) (v0:Option Addr) (v1:Int) (v2:Int) (v7:Option Addr) (v7n:Nat) (h:AH):B218_0 base [some (.pointer v0),some (vI v1),some (vI v2),some (vL v7 v7n)] h =
(((run (Et base) 152 [(vI v1)] h).bind fun r2=>
((some r2.1).bind (getI .i64)).bind fun n3=>
(if (n3==(5:Int))=true then
(if (decide (v1≥(0:Int)))=true then
(if (decide (((v7n:Nat):Int)≤(20:Int)))=true then
(v0).bind fun a4=>
((cell r2.2 a4.block (a4.off+3)).bind getB).bind fun b5=>
some (.inl ([some (.pointer v0),some (vI v1),some (vI v2),some (vL v7 v7n),some (.bool (!b5))],r2.2))
else
some (.inl ([some (.pointer v0),some (vI v1),some (vI v2),some (vL v7 v7n),some (.bool false)],r2.2)))
else
some (.inl ([some (.pointer v0),some (vI v1),some (vI v2),some (vL v7 v7n),some (.bool false)],r2.2)))
else
some (.inl ([some (.pointer v0),some (vI v1),some (vI v2),some (vL v7 v7n),some (.bool false)],r2.2)))).bind fun j1=>joinK j1 fun j1=>
j_PIILB j1.1 fun p6 n7 n8 l9 b10=>
(if b10=true then
(run (Et base) 149 [(vI n7)] j1.2).bind fun r11=>
((some r11.1).bind (getI .i64)).bind fun n12=>
(run (Et base) 232 [(.pointer p6),(vI n12)] r11.2).bind fun r13=>
((some r13.1).bind (getI .i64)).bind fun n14=>
(run (Et base) 196 [(.pointer p6),(vI n14),(vI (IntKind.wrap .i64 (n8+(1:Int))))] r13.2).bind fun r15=>
gG (some r15.1) 4 fun l16=>
l_IITL l16 fun n17 n18 s19 l20=>
nw1 r15.2 42 [(vI 0),(vI 0),(vT ⟨#[]⟩),(vL none 0)] fun h21=>
(wr base h21 (List.length r15.2) 0 [(vI n17),(vI n18),(vT s19),(vL l20.1 l20.2)]).bind fun h22=>
c_IITL h22 (List.length r15.2) 0 fun n23 n24 s25 l26=>
nw1 h22 42 [(vI n23),(vI n24),(vT s25),(vL l26.1 l26.2)] fun h27=>
(app base h27 42 4 56 l9.1 l9.2 (rawAt h27 (some ⟨(List.length h22),0,none⟩) (1*4)) 1).bind fun p28=>
((some p28.1).bind getS).bind fun l29=>
(run (Et base) 232 [(.pointer p6),(vI (IntKind.wrap .i64 (n12+(1:Int))))] p28.2).bind fun r30=>
((some r30.1).bind (getI .i64)).bind fun n31=>
some (0,[some (.pointer p6),some (vI n31),some (vI n8),some (vL l29.1 l29.2)],r30.2)
else
some (2,[some (.pointer p6),some (vI n7),some (vL l9.1 l9.2)],j1.2)):Option (Nat×Slots×AH)):=by kernel_rfl
theorem r218 {base:Nat} {v0:Option Addr} {v1:Int} {v2:Int} {h:AH} {r:Value×AH} (hx:((loopL (B218_0 base) [some (.pointer v0),some (.int .i64 v1),some (.int .i64 v2),some (.slice none 0 0)] h).bind fun q1=>
(if q1.1=2 then
((sget q1.2.1 0).bind getP).bind fun p2=>
((sget (q1.2.1.tail) 0).bind (getI .i64)).bind fun n3=>
((sget (q1.2.1.tail.tail) 0).bind getS).bind fun l4=>
((p2).bind fun a6=>
((cell q1.2.2 a6.block (a6.off+3)).bind getB).bind fun b7=>
(if b7=true then
(p2).bind fun a8=>
(wr base q1.2.2 a8.block (a8.off+3) [(.bool true)]).bind fun h9=>
some (.inl ([some (.slice l4.1 l4.2 l4.2)],h9))
else
(run (Et base) 151 [(.int .i64 (3:Int)),(.int .i64 (0:Int))] q1.2.2).bind fun r10=>
((some r10.1).bind (getI .i64)).bind fun n11=>
(p2).bind fun a12=>
(wr base r10.2 a12.block (a12.off+3) [(.bool (n3 != n11))]).bind fun h13=>
some (.inl ([some (.slice l4.1 l4.2 l4.2)],h13)))).bind fun j5=>joinK j5 fun j5=>
((sget j5.1 0).bind getS).bind fun l14=>
some ((.slice l14.1 l14.2 l14.2),j5.2)
else
none))=some r):run (Et base) 218 [(.pointer v0),(vI v1),(vI v2)] h=some r:=run_i (an:=a218) Try.func218 (by kernel_rfl) (.trans (by kernel_rfl) hx)
noncomputable def B219_0 (base:Nat):Body:=fun l h=>lay s219_0 l fun s=>exCode (Et base) (run (Et base)) loopL a219_0 (subC [1,1,1,1,0,1,0,0] (bodyC Try.f219)) s h (keepK s219_0 e219_0)
theorem B219_0_eq (base:Nat) (v0:Option Addr) (v1:Int) (v5:Int) (v6:Option Addr) (v6n:Nat) (v7:Int) (h:AH):B219_0 base [some (.pointer v0),some (vI v1),some (vI v5),some (vL v6 v6n),some (vI v7)] h =
((if (decide (v7≤v5))=true then
(run (Et base) 232 [(.pointer v0),(vI (IntKind.wrap .i64 (v1+v7)))] h).bind fun r1=>
((some r1.1).bind (getI .i64)).bind fun n2=>
((v0).bind fun a4=>
((cell r1.2 a4.block (a4.off+3)).bind getB).bind fun b5=>
(if b5=true then
(v0).bind fun a6=>
(wr base r1.2 a6.block (a6.off+3) [(.bool true)]).bind fun h7=>
some (.inl ([some (.pointer v0),some (vI v1),some (vI v5),some (vL v6 v6n),some (vI v7),some (vI n2)],h7))
else
(run (Et base) 83 [(vI n2),(vI (0:Int)),(vI (255:Int))] r1.2).bind fun r8=>
((some r8.1).bind getB).bind fun b9=>
(v0).bind fun a10=>
(wr base r8.2 a10.block (a10.off+3) [(.bool (!b9))]).bind fun h11=>
some (.inl ([some (.pointer v0),some (vI v1),some (vI v5),some (vL v6 v6n),some (vI v7),some (vI n2)],h11)))).bind fun j3=>joinK j3 fun j3=>
j_PIILII j3.1 fun p12 n13 n14 l15 n16 n17=>
nw1 j3.2 5 [(.int .u8 (IntKind.wrap .u8 n17))] fun h18=>
(app base h18 5 1 1 l15.1 l15.2 (rawAt h18 (some ⟨(List.length j3.2),0,none⟩) (1*1)) 1).bind fun p19=>
((some p19.1).bind getS).bind fun l20=>
some (0,[some (.pointer p12),some (vI n13),some (vI n14),some (vL l20.1 l20.2),some (vI (IntKind.wrap .i64 (n16+(1:Int))))],p19.2)
else
some (2,[some (vL v6 v6n)],h)):Option (Nat×Slots×AH)):=by kernel_rfl
theorem r219 {base:Nat} {v0:Option Addr} {v1:Int} {h:AH} {r:Value×AH} (hx:((run (Et base) 232 [(.pointer v0),(.int .i64 v1)] h).bind fun r1=>
((some r1.1).bind (getI .i64)).bind fun n2=>
((v0).bind fun a4=>
((cell r1.2 a4.block (a4.off+3)).bind getB).bind fun b5=>
(if b5=true then
some (.inl ([some (.pointer v0),some (.int .i64 v1),some (.int .i64 n2),some (.bool true)],r1.2))
else
(run (Et base) 83 [(.int .i64 n2),(.int .i64 (0:Int)),(.int .i64 (40:Int))] r1.2).bind fun r6=>
((some r6.1).bind getB).bind fun b7=>
some (.inl ([some (.pointer v0),some (.int .i64 v1),some (.int .i64 n2),some (.bool (!b7))],r6.2)))).bind fun j3=>joinK j3 fun j3=>
((sget j3.1 0).bind getP).bind fun p8=>
((sget (j3.1.tail) 0).bind (getI .i64)).bind fun n9=>
((sget (j3.1.tail.tail) 0).bind (getI .i64)).bind fun n10=>
((sget (j3.1.tail.tail.tail) 0).bind getB).bind fun b11=>
(if b11=true then
(p8).bind fun a12=>
(wr base j3.2 a12.block (a12.off+3) [(.bool true)]).bind fun h13=>
some ((.string (⟨#[]⟩:ByteArray)),h13)
else
(loopL (B219_0 base) [some (.pointer p8),some (.int .i64 n9),some (.int .i64 n10),some (.slice none 0 0),some (.int .i64 (1:Int))] j3.2).bind fun q14=>
(if q14.1=2 then
((sget q14.2.1 0).bind getS).bind fun l15=>
((rawAt q14.2.2 l15.1 l15.2).bind u8s).bind fun z16=>
some ((.string (bstr z16)),q14.2.2)
else
none)))=some r):run (Et base) 219 [(.pointer v0),(vI v1)] h=some r:=run_i (an:=a219) Try.func219 (by kernel_rfl) (.trans (by kernel_rfl) hx)
noncomputable def B220_0 (base:Nat):Body:=fun l h=>lay s220_0 l fun s=>exCode (Et base) (run (Et base)) loopL a220_0 (subC [1,1,0,0,0] (bodyC Try.f220)) s h (keepK s220_0 e220_0)
theorem B220_0_eq (base:Nat) (v0:Option Addr) (v1:Int) (v2:Int) (v6:Addr) (v7:Addr) (h:AH):B220_0 base [some (.pointer v0),some (vI v1),some (vI v2),some (vA v6),some (vA v7)] h =
(((v0).bind fun a2=>
((cell h a2.block (a2.off+3)).bind getB).bind fun b3=>
(if (!b3)=true then
(run (Et base) 191 [(vI (3:Int)),(vI (0:Int))] h).bind fun r4=>
((some r4.1).bind (getI .i64)).bind fun n5=>
some (.inl ([some (.pointer v0),some (vI v1),some (vI v2),some (vA v6),some (vA v7),some (.bool (v1 != n5))],r4.2))
else
some (.inl ([some (.pointer v0),some (vI v1),some (vI v2),some (vA v6),some (vA v7),some (.bool false)],h)))).bind fun j1=>joinK j1 fun j1=>
j_PIIAAB j1.1 fun p6 n7 n8 d9 d10 b11=>
(if b11=true then
(run (Et base) 187 [(vI n7)] j1.2).bind fun r12=>
((some r12.1).bind (getI .i64)).bind fun n13=>
(run (Et base) 233 [(.pointer p6),(vI n13),(vI (2:Int))] r12.2).bind fun r14=>
((some r14.1).bind getS).bind fun l15=>
((p6).bind fun a17=>
((cell r14.2 a17.block (a17.off+3)).bind getB).bind fun b18=>
(if b18=true then
some (.inl ([some (.pointer p6),some (vI n8),some (vA d9),some (vA d10),some (vL l15.1 l15.2),some (.bool true)],r14.2))
else
(run (Et base) 189 [(vI n7)] r14.2).bind fun r19=>
((some r19.1).bind (getI .i64)).bind fun n20=>
(if (n20 != (5:Int))=true then
some (.inl ([some (.pointer p6),some (vI n8),some (vA d9),some (vA d10),some (vL l15.1 l15.2),some (.bool true)],r19.2))
else
((cell r19.2 d10.block (d10.off+3)).bind getS).bind fun l21=>
some (.inl ([some (.pointer p6),some (vI n8),some (vA d9),some (vA d10),some (vL l15.1 l15.2),some (.bool (((l21.2:Nat):Int)==(20:Int)))],r19.2))))).bind fun j16=>joinK j16 fun j16=>
j_PIAALB j16.1 fun p22 n23 d24 d25 l26 b27=>
(if b27=true then
(p22).bind fun a28=>
(wr base j16.2 a28.block (a28.off+3) [(.bool true)]).bind fun h29=>
c_IITL h29 d25.block d25.off fun n30 n31 s32 l33=>
(wr base h29 d24.block d24.off [(vI n30),(vI n31),(vT s32),(vL l33.1 l33.2)]).bind fun h34=>
some (1,[some (vA d24)],h34)
else
((cell j16.2 d25.block (d25.off+3)).bind getS).bind fun l35=>
(if 0≤(0:Int)∧(0:Int)<((l26.2:Nat):Int) then
((l26.1:Option Addr)).bind fun a36=>
((cell j16.2 a36.block (a36.off+Int.toNat (0:Int)*1)).bind (getI .i64)).bind fun n37=>
(run (Et base) 200 [(.pointer p22),(vI n37),(vI (IntKind.wrap .i64 (n23-(1:Int))))] j16.2).bind fun r38=>
gG (some r38.1) 4 fun l39=>
l_IITL l39 fun n40 n41 s42 l43=>
(gate (sameA j16.2 r38.2 (some ⟨d25.block,(d25.off+3),none⟩) 1)
((gate (neA (some ⟨d25.block,(d25.off+3),none⟩) (List.length r38.2))
(nw1 r38.2 42 [(vI n40),(vI n41),(vT s42),(vL l43.1 l43.2)] fun h44=>
(app base h44 42 4 56 l35.1 l35.2 (rawAt h44 (some ⟨(List.length r38.2),0,none⟩) (1*4)) 1).bind fun p45=>
((some p45.1).bind getS).bind fun l46=>
(wr base p45.2 d25.block (d25.off+3) [(vL l46.1 l46.2)]).bind fun h47=>
(if 0≤(1:Int)∧(1:Int)<((l26.2:Nat):Int) then
((l26.1:Option Addr)).bind fun a48=>
((cell h47 a48.block (a48.off+Int.toNat (1:Int)*1)).bind (getI .i64)).bind fun n49=>
some (0,[some (.pointer p22),some (vI n49),some (vI n23),some (vA d24),some (vA d25)],h47)
else none)))))
else none))
else
some (2,[some (vA d9),some (vA d10)],j1.2)):Option (Nat×Slots×AH)):=by kernel_rfl
theorem r220 {base:Nat} {v0:Option Addr} {v1:Int} {v2:Int} {h:AH} {r:Value×AH} (hx:(nw1 h 42 [(vI 0),(vI 0),(vT ⟨#[]⟩),(vL none 0)] fun h1=>
nw1 h1 42 [(vI 0),(vI 0),(vT ⟨#[]⟩),(vL none 0)] fun h2=>
(wr base h2 (List.length h1) 0 [(vI (5:Int)),(vI (0:Int)),(vT (⟨#[]⟩:ByteArray)),(vL none 0)]).bind fun h3=>
(loopL (B220_0 base) [some (.pointer v0),some (vI v1),some (vI v2),some (vP (List.length h)),some (vP (List.length h1))] h3).bind fun q4=>
(if q4.1=1 then
((sget q4.2.1 0).bind getA).bind fun d5=>
c_IITL q4.2.2 d5.block d5.off fun n6 n7 s8 l9=>
some ((.agg #[(vI n6),(vI n7),(vT s8),(vL l9.1 l9.2)]),q4.2.2)
else
(if q4.1=2 then
j_AA q4.2.1 fun d10 d11=>
c_IITL q4.2.2 d11.block d11.off fun n12 n13 s14 l15=>
(wr base q4.2.2 d10.block d10.off [(vI n12),(vI n13),(vT s14),(vL l15.1 l15.2)]).bind fun h16=>
c_IITL h16 d10.block d10.off fun n17 n18 s19 l20=>
some ((.agg #[(vI n17),(vI n18),(vT s19),(vL l20.1 l20.2)]),h16)
else
none)))=some r):run (Et base) 220 [(.pointer v0),(vI v1),(vI v2)] h=some r:=run_i (an:=a220) Try.func220 (by kernel_rfl) (.trans (by kernel_rfl) hx)
noncomputable def B221_0 (base:Nat):Body:=fun l h=>lay s221_0 l fun s=>exCode (Et base) (run (Et base)) loopL a221_0 (subC [1,1,1,1,0,1,0,0] (bodyC Try.f221)) s h (keepK s221_0 e221_0)
theorem B221_0_eq (base:Nat) (v0:Option Addr) (v2:Int) (v6:Addr) (v8:Option Addr) (v8n:Nat) (v9:Addr) (v10:Int) (h:AH):B221_0 base [some (.pointer v0),some (vI v2),some (vA v6),some (vL v8 v8n),some (vA v9),some (vI v10)] h =
(((if (decide (v10<((v8n:Nat):Int)))=true then
(v0).bind fun a2=>
((cell h a2.block (a2.off+3)).bind getB).bind fun b3=>
some (.inl ([some (.pointer v0),some (vI v2),some (vA v6),some (vL v8 v8n),some (vA v9),some (vI v10),some (.bool (!b3))],h))
else
some (.inl ([some (.pointer v0),some (vI v2),some (vA v6),some (vL v8 v8n),some (vA v9),some (vI v10),some (.bool false)],h)))).bind fun j1=>joinK j1 fun j1=>
j_PIALAIB j1.1 fun p4 n5 d6 l7 d8 n9 b10=>
(if b10=true then
((cell j1.2 d8.block (d8.off+3)).bind getS).bind fun l11=>
(if 0≤n9∧n9<((l7.2:Nat):Int) then
((l7.1:Option Addr)).bind fun a12=>
((cell j1.2 a12.block (a12.off+Int.toNat n9*1)).bind (getI .i64)).bind fun n13=>
(run (Et base) 200 [(.pointer p4),(vI n13),(vI (IntKind.wrap .i64 (n5-(1:Int))))] j1.2).bind fun r14=>
gG (some r14.1) 4 fun l15=>
l_IITL l15 fun n16 n17 s18 l19=>
(gate (sameA j1.2 r14.2 (some ⟨d8.block,(d8.off+3),none⟩) 1)
((gate (neA (some ⟨d8.block,(d8.off+3),none⟩) (List.length r14.2))
(nw1 r14.2 42 [(vI n16),(vI n17),(vT s18),(vL l19.1 l19.2)] fun h20=>
(app base h20 42 4 56 l11.1 l11.2 (rawAt h20 (some ⟨(List.length r14.2),0,none⟩) (1*4)) 1).bind fun p21=>
((some p21.1).bind getS).bind fun l22=>
(wr base p21.2 d8.block (d8.off+3) [(vL l22.1 l22.2)]).bind fun h23=>
some (0,[some (.pointer p4),some (vI n5),some (vA d6),some (vL l7.1 l7.2),some (vA d8),some (vI (IntKind.wrap .i64 (n9+(1:Int))))],h23)))))
else none)
else
some (2,[some (vA d6),some (vA d8)],j1.2)):Option (Nat×Slots×AH)):=by kernel_rfl
theorem r221 {base:Nat} {v0:Option Addr} {v1:Int} {v2:Int} {h:AH} {r:Value×AH} (hx:(nw1 h 42 [(vI 0),(vI 0),(vT ⟨#[]⟩),(vL none 0)] fun h1=>
(run (Et base) 234 [(.pointer v0),(vI v1),(vI (8:Int))] h1).bind fun r2=>
((some r2.1).bind (getI .i64)).bind fun n3=>
(run (Et base) 233 [(.pointer v0),(vI (IntKind.wrap .i64 (v1+(1:Int)))),(vI n3)] r2.2).bind fun r4=>
((some r4.1).bind getS).bind fun l5=>
nw1 r4.2 42 [(vI 0),(vI 0),(vT ⟨#[]⟩),(vL none 0)] fun h6=>
(wr base h6 (List.length r4.2) 0 [(vI (4:Int)),(vI (0:Int)),(vT (⟨#[]⟩:ByteArray)),(vL none 0)]).bind fun h7=>
(loopL (B221_0 base) [some (.pointer v0),some (vI v2),some (vP (List.length h)),some (vL l5.1 l5.2),some (vP (List.length r4.2)),some (vI (0:Int))] h7).bind fun q8=>
(if q8.1=2 then
j_AA q8.2.1 fun d9 d10=>
c_IITL q8.2.2 d10.block d10.off fun n11 n12 s13 l14=>
(wr base q8.2.2 d9.block d9.off [(vI n11),(vI n12),(vT s13),(vL l14.1 l14.2)]).bind fun h15=>
c_IITL h15 d9.block d9.off fun n16 n17 s18 l19=>
some ((.agg #[(vI n16),(vI n17),(vT s18),(vL l19.1 l19.2)]),h15)
else
none))=some r):run (Et base) 221 [(.pointer v0),(vI v1),(vI v2)] h=some r:=run_i (an:=a221) Try.func221 (by kernel_rfl) (.trans (by kernel_rfl) hx)
noncomputable def B222_0 (base:Nat):Body:=fun l h=>lay s222_0 l fun s=>exCode (Et base) (run (Et base)) loopL a222_0 (subC [1,1,1,1,0,1,0,0] (bodyC Try.f222)) s h (keepK s222_0 e222_0)
theorem B222_0_eq (base:Nat) (v0:Option Addr) (v4:Addr) (v6:Option Addr) (v6n:Nat) (v7:Option Addr) (v7n:Nat) (v8:Int) (h:AH):B222_0 base [some (.pointer v0),some (vA v4),some (vL v6 v6n),some (vL v7 v7n),some (vI v8)] h =
((if (decide (v8<((v6n:Nat):Int)))=true then
((if 0≤v8∧v8<((v6n:Nat):Int) then
((v6:Option Addr)).bind fun a2=>
((cell h a2.block (a2.off+Int.toNat v8*1)).bind (getI .i64)).bind fun n3=>
(run (Et base) 90 [(vI n3),(vI (0:Int)),(vI (255:Int))] h).bind fun r4=>
((some r4.1).bind getB).bind fun b5=>
(if (!b5)=true then
(v0).bind fun a6=>
(wr base r4.2 a6.block (a6.off+3) [(.bool true)]).bind fun h7=>
some (.inl ([some (.pointer v0),some (vA v4),some (vL v6 v6n),some (vL v7 v7n),some (vI v8)],h7))
else
some (.inl ([some (.pointer v0),some (vA v4),some (vL v6 v6n),some (vL v7 v7n),some (vI v8)],r4.2)))
else none)).bind fun j1=>joinK j1 fun j1=>
j_PALLI j1.1 fun p8 d9 l10 l11 n12=>
(if 0≤n12∧n12<((l10.2:Nat):Int) then
((l10.1:Option Addr)).bind fun a13=>
((cell j1.2 a13.block (a13.off+Int.toNat n12*1)).bind (getI .i64)).bind fun n14=>
nw1 j1.2 5 [(.int .u8 (IntKind.wrap .u8 n14))] fun h15=>
(app base h15 5 1 1 l11.1 l11.2 (rawAt h15 (some ⟨(List.length j1.2),0,none⟩) (1*1)) 1).bind fun p16=>
((some p16.1).bind getS).bind fun l17=>
some (0,[some (.pointer p8),some (vA d9),some (vL l10.1 l10.2),some (vL l17.1 l17.2),some (vI (IntKind.wrap .i64 (n12+(1:Int))))],p16.2)
else none)
else
some (2,[some (vA v4),some (vL v7 v7n)],h)):Option (Nat×Slots×AH)):=by kernel_rfl
theorem r222 {base:Nat} {v0:Option Addr} {v1:Int} {h:AH} {r:Value×AH} (hx:((some (h++[some ⟨[(.int .i64 0),(.int .i64 0),(.string ⟨#[]⟩),(.slice none 0 0)],42⟩])).bind fun h1=>
(run (Et base) 234 [(.pointer v0),(.int .i64 v1),(.int .i64 (40:Int))] h1).bind fun r2=>
((some r2.1).bind (getI .i64)).bind fun n3=>
(run (Et base) 233 [(.pointer v0),(.int .i64 (IntKind.wrap .i64 (v1+(1:Int)))),(.int .i64 n3)] r2.2).bind fun r4=>
((some r4.1).bind getS).bind fun l5=>
(some (r4.2++[some ⟨[],5⟩])).bind fun h6=>
(loopL (B222_0 base) [some (.pointer v0),some (.pointer (some ⟨(List.length h),0,none⟩)),some (.slice l5.1 l5.2 l5.2),some (.slice (some ⟨(List.length r4.2),0,none⟩) 0 0),some (.int .i64 (0:Int))] h6).bind fun q7=>
(if q7.1=2 then
((sget q7.2.1 0).bind getA).bind fun d8=>
((sget (q7.2.1.tail) 0).bind getS).bind fun l9=>
((rawAt q7.2.2 l9.1 l9.2).bind u8s).bind fun z10=>
(wr base q7.2.2 d8.block d8.off [(.int .i64 (6:Int)),(.int .i64 (0:Int)),(.string (bstr z10)),(.slice none 0 0)]).bind fun h11=>
((cell h11 d8.block d8.off).bind (getI .i64)).bind fun n12=>
((cell h11 d8.block (d8.off+1)).bind (getI .i64)).bind fun n13=>
((cell h11 d8.block ((d8.off+1)+1)).bind getStr).bind fun s14=>
((cell h11 d8.block (((d8.off+1)+1)+1)).bind getS).bind fun l15=>
some ((.agg #[(.int .i64 n12),(.int .i64 n13),(.string s14),(.slice l15.1 l15.2 l15.2)]),h11)
else
none))=some r):run (Et base) 222 [(.pointer v0),(vI v1)] h=some r:=run_i (an:=a222) Try.func222 (by kernel_rfl) (.trans (by kernel_rfl) hx)
theorem r230 {base:Nat} {v0:Option Addr} {v0n:Nat} {v1:ByteArray} {h:AH} {r:Value×AH} (hx:((some (h++[some ⟨[],9⟩])).bind fun h1=>
(app base h1 9 1 16 (some ⟨(List.length h),0,none⟩) 0 (rawAt h1 v0 (v0n*1)) v0n).bind fun p2=>
((some p2.1).bind getS).bind fun l3=>
(run (Et base) 185 [(.slice v0 v0n v0n),(.string v1)] p2.2).bind fun r4=>
((some r4.1).bind (getI .i64)).bind fun n5=>
((if (decide (n5≥(0:Int)))=true then
some (.inl ([some (.string v1),some (.slice l3.1 l3.2 l3.2),some (.int .i64 n5),some (.bool true)],r4.2))
else
(run (Et base) 183 [(.string v1)] r4.2).bind fun r7=>
((some r7.1).bind getB).bind fun b8=>
(if (!b8)=true then
some (.inl ([some (.string v1),some (.slice l3.1 l3.2 l3.2),some (.int .i64 n5),some (.bool true)],r7.2))
else
some (.inl ([some (.string v1),some (.slice l3.1 l3.2 l3.2),some (.int .i64 n5),some (.bool (decide (((v0n:Nat):Int)≥(200:Int))))],r7.2))))).bind fun j6=>joinK j6 fun j6=>
((sget j6.1 0).bind getStr).bind fun s9=>
((sget (j6.1.tail) 0).bind getS).bind fun l10=>
((sget (j6.1.tail.tail) 0).bind (getI .i64)).bind fun n11=>
((sget (j6.1.tail.tail.tail) 0).bind getB).bind fun b12=>
(if b12=true then
some ((.tuple #[(.slice l10.1 l10.2 l10.2),(.int .i64 n11)]),j6.2)
else
(some (j6.2++[some ⟨[(.string s9)],9⟩])).bind fun h13=>
(app base h13 9 1 16 l10.1 l10.2 (rawAt h13 (some ⟨(List.length j6.2),0,none⟩) (1*1)) 1).bind fun p14=>
((some p14.1).bind getS).bind fun l15=>
some ((.tuple #[(.slice l15.1 l15.2 l15.2),(.int .i64 ((l10.2:Nat):Int))]),p14.2)))=some r):run (Et base) 230 [(vL v0 v0n),(vT v1)] h=some r:=run_i (an:=a230) Try.func230 (by kernel_rfl) (.trans (by kernel_rfl) hx)
noncomputable def B231_0 (base:Nat):Body:=fun l h=>lay s231_0 l fun s=>exCode (Et base) (run (Et base)) loopL a231_0 (subC [1,1,1,1,1,1,0,1,0,0] (bodyC Try.f231)) s h (keepK s231_0 e231_0)
theorem B231_0_eq (base:Nat) (v0:Option Addr) (v1:Option Addr) (v5:Addr) (v8:Int) (v9:Int) (v10:Bool) (v11:Int) (h:AH):B231_0 base [some (.pointer v0),some (.pointer v1),some (vA v5),some (vI v8),some (vI v9),some (.bool v10),some (vI v11)] h =
((if (decide (v11<v8))=true then
(((cell h v5.block (v5.off+3)).bind getS).bind fun l2=>
(if 0≤v11∧v11<((l2.2:Nat):Int) then
((l2.1:Option Addr)).bind fun a3=>
c_IITL h a3.block (a3.off+Int.toNat v11*4) fun n4 n5 s6 l7=>
(run (Et base) 214 [(.pointer v0),(.pointer v1),(.agg #[(vI n4),(vI n5),(vT s6),(vL l7.1 l7.2)])] h).bind fun r8=>
(getTup 2 r8.1).bind fun l9=>
l_IB l9 fun n10 b11=>
(v0).bind fun a12=>
((cell r8.2 a12.block a12.off).bind getS).bind fun l13=>
(if 0≤(IntKind.wrap .i64 (v9+(IntKind.wrap .i64 ((2:Int)*v11))))∧(IntKind.wrap .i64 (v9+(IntKind.wrap .i64 ((2:Int)*v11))))<((l13.2:Nat):Int) then
((l13.1:Option Addr)).bind fun a14=>
(wr base r8.2 a14.block (a14.off+Int.toNat (IntKind.wrap .i64 (v9+(IntKind.wrap .i64 ((2:Int)*v11))))*1) [(vI n10)]).bind fun h15=>
(v0).bind fun a16=>
((cell h15 a16.block a16.off).bind getS).bind fun l17=>
(run (Et base) 191 [(vI (5:Int)),(vI (IntKind.wrap .i64 ((IntKind.wrap .i64 (v9+(IntKind.wrap .i64 ((2:Int)*v11))))+(2:Int))))] h15).bind fun r18=>
((some r18.1).bind (getI .i64)).bind fun n19=>
(gate (sameA h15 r18.2 (some a16) 1)
((if 0≤(IntKind.wrap .i64 ((IntKind.wrap .i64 (v9+(IntKind.wrap .i64 ((2:Int)*v11))))+(1:Int)))∧(IntKind.wrap .i64 ((IntKind.wrap .i64 (v9+(IntKind.wrap .i64 ((2:Int)*v11))))+(1:Int)))<((l17.2:Nat):Int) then
((l17.1:Option Addr)).bind fun a20=>
(wr base r18.2 a20.block (a20.off+Int.toNat (IntKind.wrap .i64 ((IntKind.wrap .i64 (v9+(IntKind.wrap .i64 ((2:Int)*v11))))+(1:Int)))*1) [(vI n19)]).bind fun h21=>
(if v10=true then
some (.inl ([some (.pointer v0),some (.pointer v1),some (vA v5),some (vI v8),some (vI v9),some (.bool b11),some (vI v11)],h21))
else
some (.inl ([some (.pointer v0),some (.pointer v1),some (vA v5),some (vI v8),some (vI v9),some (.bool false),some (vI v11)],h21)))
else none)))
else none)
else none)).bind fun j1=>joinK j1 fun j1=>
j_PPAIIBI j1.1 fun p22 p23 d24 n25 n26 b27 n28=>
some (0,[some (.pointer p22),some (.pointer p23),some (vA d24),some (vI n25),some (vI n26),some (.bool b27),some (vI (IntKind.wrap .i64 (n28+(1:Int))))],j1.2)
else
some (2,[some (.pointer v0),some (vI v8),some (vI v9),some (.bool v10)],h)):Option (Nat×Slots×AH)):=by kernel_rfl
theorem r231 {base:Nat} {v0:Option Addr} {v1:Option Addr} {v2_0:Int} {v2_1:Int} {v2_2:ByteArray} {v2_3:Option Addr} {v2_3n:Nat} {h:AH} {r:Value×AH} (hx:(nw1 h 42 [(vI v2_0),(vI v2_1),(vT v2_2),(vL v2_3 v2_3n)] fun h1=>
((cell h1 (List.length h) 3).bind getS).bind fun l2=>
(if (((l2.2:Nat):Int)==(0:Int))=true then
(run (Et base) 191 [(vI (3:Int)),(vI (0:Int))] h1).bind fun r3=>
((some r3.1).bind (getI .i64)).bind fun n4=>
some ((.tuple #[(vI n4),(.bool true)]),r3.2)
else
(v0).bind fun a5=>
((cell h1 a5.block a5.off).bind getS).bind fun l6=>
(v0).bind fun a7=>
((cell h1 a7.block a7.off).bind getS).bind fun l8=>
(if 0≤(IntKind.wrap .i64 ((2:Int)*((l2.2:Nat):Int)))∧(IntKind.wrap .i64 ((2:Int)*((l2.2:Nat):Int)))≤140737488355328 then
(app base h1 3 1 8 l8.1 l8.2 (some (rep [(vI 0)] (Int.toNat (IntKind.wrap .i64 ((2:Int)*((l2.2:Nat):Int)))))) (Int.toNat (IntKind.wrap .i64 ((2:Int)*((l2.2:Nat):Int))))).bind fun p9=>
((some p9.1).bind getS).bind fun l10=>
(v0).bind fun a11=>
(wr base p9.2 a11.block a11.off [(vL l10.1 l10.2)]).bind fun h12=>
(loopL (B231_0 base) [some (.pointer v0),some (.pointer v1),some (vP (List.length h)),some (vI ((l2.2:Nat):Int)),some (vI ((l6.2:Nat):Int)),some (.bool true),some (vI (0:Int))] h12).bind fun q13=>
(if q13.1=2 then
j_PIIB q13.2.1 fun p14 n15 n16 b17=>
(p14).bind fun a18=>
((cell q13.2.2 a18.block a18.off).bind getS).bind fun l19=>
(run (Et base) 191 [(vI (3:Int)),(vI (0:Int))] q13.2.2).bind fun r20=>
((some r20.1).bind (getI .i64)).bind fun n21=>
(gate (sameA q13.2.2 r20.2 (some a18) 1)
((if 0≤(IntKind.wrap .i64 ((IntKind.wrap .i64 (n16+(IntKind.wrap .i64 ((2:Int)*n15))))-(1:Int)))∧(IntKind.wrap .i64 ((IntKind.wrap .i64 (n16+(IntKind.wrap .i64 ((2:Int)*n15))))-(1:Int)))<((l19.2:Nat):Int) then
((l19.1:Option Addr)).bind fun a22=>
(wr base r20.2 a22.block (a22.off+Int.toNat (IntKind.wrap .i64 ((IntKind.wrap .i64 (n16+(IntKind.wrap .i64 ((2:Int)*n15))))-(1:Int)))*1) [(vI n21)]).bind fun h23=>
(run (Et base) 191 [(vI (5:Int)),(vI n16)] h23).bind fun r24=>
((some r24.1).bind (getI .i64)).bind fun n25=>
some ((.tuple #[(vI n25),(.bool b17)]),r24.2)
else none)))
else
none)
else none)))=some r):run (Et base) 231 [(.pointer v0),(.pointer v1),(.agg #[(vI v2_0),(vI v2_1),(vT v2_2),(vL v2_3 v2_3n)])] h=some r:=run_i (an:=a231) Try.func231 (by kernel_rfl) (.trans (by kernel_rfl) hx)
theorem r232 {base:Nat} {v0:Option Addr} {v1:Int} {h:AH} {r:Value×AH} (hx:((v0).bind fun a1=>
((cell h a1.block (a1.off+0)).bind getF).bind fun f2=>
(callU (Et base) (run (Et base)) f2.1 (f2.2.1.toList++[(.int .i64 v1)]++f2.2.2.toList) h).bind fun r3=>
(getTup 2 r3.1).bind fun l4=>
((l4[0]?).bind (getI .i64)).bind fun n5=>
((l4[1]?).bind getB).bind fun b6=>
((v0).bind fun a8=>
((cell r3.2 a8.block (a8.off+3)).bind getB).bind fun b9=>
(if b9=true then
(v0).bind fun a10=>
(wr base r3.2 a10.block (a10.off+3) [(.bool true)]).bind fun h11=>
some (.inl ([some (.int .i64 n5)],h11))
else
(v0).bind fun a12=>
(wr base r3.2 a12.block (a12.off+3) [(.bool (!b6))]).bind fun h13=>
some (.inl ([some (.int .i64 n5)],h13)))).bind fun j7=>joinK j7 fun j7=>
((sget j7.1 0).bind (getI .i64)).bind fun n14=>
some ((.int .i64 n14),j7.2))=some r):run (Et base) 232 [(.pointer v0),(vI v1)] h=some r:=run_i (an:=a232) Try.func232 (by kernel_rfl) (.trans (by kernel_rfl) hx)
theorem r233 {base:Nat} {v0:Option Addr} {v1:Int} {v2:Int} {h:AH} {r:Value×AH} (hx:(((v0).bind fun a2=>
((cell h a2.block (a2.off+3)).bind getB).bind fun b3=>
(if b3=true then
some (.inl ([some (.pointer v0),some (vI v1),some (vI v2),some (.bool true)],h))
else
(v0).bind fun a4=>
((cell h a4.block (a4.off+0)).bind getS).bind fun l5=>
(run (Et base) 90 [(vI v1),(vI (0:Int)),(vI ((l5.2:Nat):Int))] h).bind fun r6=>
((some r6.1).bind getB).bind fun b7=>
(if (!b7)=true then
some (.inl ([some (.pointer v0),some (vI v1),some (vI v2),some (.bool true)],r6.2))
else
(v0).bind fun a8=>
((cell r6.2 a8.block (a8.off+0)).bind getS).bind fun l9=>
(run (Et base) 90 [(vI v2),(vI (0:Int)),(vI (IntKind.wrap .i64 (((l9.2:Nat):Int)-v1)))] r6.2).bind fun r10=>
((some r10.1).bind getB).bind fun b11=>
some (.inl ([some (.pointer v0),some (vI v1),some (vI v2),some (.bool (!b11))],r10.2))))).bind fun j1=>joinK j1 fun j1=>
j_PIIB j1.1 fun p12 n13 n14 b15=>
(if b15=true then
(p12).bind fun a16=>
(wr base j1.2 a16.block (a16.off+3) [(.bool true)]).bind fun h17=>
nw1 h17 3 [] fun h18=>
some ((vL (some ⟨(List.length h17),0,none⟩) 0),h18)
else
(p12).bind fun a19=>
((cell j1.2 a19.block (a19.off+0)).bind getS).bind fun l20=>
(if 0≤n13∧n13≤(IntKind.wrap .i64 (n13+n14))∧(IntKind.wrap .i64 (n13+n14))≤((l20.2:Nat):Int)∧okTy base j1.2 l20.1 3 (Int.toNat n13)=true then
some ((.slice (shiftA l20.1 (Int.toNat n13*1)) (Int.toNat (IntKind.wrap .i64 (n13+n14))-Int.toNat n13) (Int.toNat (IntKind.wrap .i64 (n13+n14))-Int.toNat n13)),j1.2)
else none)))=some r):run (Et base) 233 [(.pointer v0),(vI v1),(vI v2)] h=some r:=run_i (an:=a233) Try.func233 (by kernel_rfl) (.trans (by kernel_rfl) hx)
theorem r234 {base:Nat} {v0:Option Addr} {v1:Int} {v2:Int} {h:AH} {r:Value×AH} (hx:((run (Et base) 233 [(.pointer v0),(.int .i64 v1),(.int .i64 (1:Int))] h).bind fun r1=>
((some r1.1).bind getS).bind fun l2=>
((if (((l2.2:Nat):Int)==(0:Int))=true then
some (.inl ([some (.pointer v0),some (.slice l2.1 l2.2 l2.2),some (.bool true)],r1.2))
else
(if 0≤(0:Int)∧(0:Int)<((l2.2:Nat):Int) then
((l2.1:Option Addr)).bind fun a4=>
((cell r1.2 a4.block (a4.off+Int.toNat (0:Int)*1)).bind (getI .i64)).bind fun n5=>
(run (Et base) 90 [(.int .i64 n5),(.int .i64 (0:Int)),(.int .i64 v2)] r1.2).bind fun r6=>
((some r6.1).bind getB).bind fun b7=>
some (.inl ([some (.pointer v0),some (.slice l2.1 l2.2 l2.2),some (.bool (!b7))],r6.2))
else none))).bind fun j3=>joinK j3 fun j3=>
((sget j3.1 0).bind getP).bind fun p8=>
((sget (j3.1.tail) 0).bind getS).bind fun l9=>
((sget (j3.1.tail.tail) 0).bind getB).bind fun b10=>
(if b10=true then
(p8).bind fun a11=>
(wr base j3.2 a11.block (a11.off+3) [(.bool true)]).bind fun h12=>
some ((.int .i64 (0:Int)),h12)
else
(if 0≤(0:Int)∧(0:Int)<((l9.2:Nat):Int) then
((l9.1:Option Addr)).bind fun a13=>
((cell j3.2 a13.block (a13.off+Int.toNat (0:Int)*1)).bind (getI .i64)).bind fun n14=>
some ((.int .i64 n14),j3.2)
else none)))=some r):run (Et base) 234 [(.pointer v0),(vI v1),(vI v2)] h=some r:=run_i (an:=a234) Try.func234 (by kernel_rfl) (.trans (by kernel_rfl) hx)
end Go.Proofs.Ytkdenmdijdmnjaa.Am
