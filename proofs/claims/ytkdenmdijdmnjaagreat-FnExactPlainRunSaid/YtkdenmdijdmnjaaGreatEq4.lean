/- What each of these functions comes to on the abstract machine, one equation a function and one a loop.
Conditions: none. -/
import Derived.Test.YtkdenmdijdmnjaaGreatTb
set_option linter.unusedVariables false
set_option maxRecDepth 100000
namespace Go.Proofs.YtkdenmdijdmnjaaGreat.Am
open Go Go.RowKit
open _root_.Go.IntKind renaming wrap->ag
open _root_.Int renaming toNat->af
open _root_.List renaming length->ae
noncomputable section
abbrev ajV(base:Nat)(aV:Int)(aW:Int)(aX:Int)(aY:Int)(cz:Int)(dy:ByteArray)(eO:Int)(eP:Int)(eQ:Option Addr)(fi:Nat)(eT:Option Addr)(dd:Nat)(gn:Option Addr)(fj:Nat)(v2:Int)(h:AH):OV:=
cR h 89 [(vI aV),(vI aW),(vI aX),(vI aY),(vI cz),(vT dy)] λh1=>
cR h1 53 [(vI eO),(vI eP),(vL eQ fi),(vL eT dd),(vL gn fj)] λh2=>
cR h2 56 [(vI 0),(vI 0),(vT ⟨#[]⟩),(vL none 0)] λh3=>
gI (cell h3 (ae h) 0) λn4=>
(if (n4==1)=true then
gI (cell h3 (ae h) 4) λn5=>
(run (Et base) 117 [(vI n5)] h3).bind λr6=>
gG (some r6.1) 4 λl7=>
cF l7 λn8 n9 sf fw=>
(wr base r6.2 (ae h2) 0 [(vI n8),(vI n9),(vT sf),(vL fw.1 fw.2)]).bind λlZ=>
aL lZ (ae h2) 0 λjz mT LQ kt=>
some ((.tuple #[(.agg #[(vI jz),(vI mT),(vT LQ),(vL kt.1 kt.2)]),(.bool true)]),lZ)
else
(if (n4==2)=true then
gT (cell h3 (ae h) 5) λs17=>
(run (Et base) 92 [(vT s17)] h3).bind λqv=>
gG (some qv.1) 4 λjy=>
cF jy λpK tE s22 nQ=>
(wr base qv.2 (ae h2) 0 [(vI pK),(vI tE),(vT s22),(vL nQ.1 nQ.2)]).bind λh24=>
aL h24 (ae h2) 0 λnA u9 s27 ry=>
some ((.tuple #[(.agg #[(vI nA),(vI u9),(vT s27),(vL ry.1 ry.2)]),(.bool true)]),h24)
else
(if (n4==20)=true then
(wr base h3 (ae h2) 0 [(vI 5),(vI 0),(vT (⟨#[]⟩:ByteArray)),(vL none 0)]).bind λwx=>
aL wx (ae h2) 0 λxH Io XL rz=>
some ((.tuple #[(.agg #[(vI xH),(vI Io),(vT XL),(vL rz.1 rz.2)]),(.bool true)]),wx)
else
(if (n4==3)=true then
gL (cell h3 (ae h1) 2) λuX=>
gI (cell h3 (ae h) 2) λqm=>
(if 0<=qm/\qm<(uX.2:Int) then
uX.1.bind λEU=>
aL h3 EU.block (EU.off+af qm*4) λE8 Oi s39 wa=>
(run (Et base) 40 [(.agg #[(vI E8),(vI Oi),(vT s39),(vL wa.1 wa.2)])] h3).bind λud=>
gG (some ud.1) 4 λJd=>
cF Jd λE9 UB Wt yY=>
(wr base ud.2 (ae h2) 0 [(vI E9),(vI UB),(vT Wt),(vL yY.1 yY.2)]).bind λP9=>
aL P9 (ae h2) 0 λLN E0 s50 LO=>
some ((.tuple #[(.agg #[(vI LN),(vI E0),(vT s50),(vL LO.1 LO.2)]),(.bool true)]),P9)
else none)
else
(if (n4==4)=true then
gL (cell h3 (ae h1) 2) λA8=>
gI (cell h3 (ae h) 2) λCt=>
gI (cell h3 (ae h) 2) λtF=>
gI (cell h3 (ae h) 4) λOm=>
(if 0<=Ct/\Ct<=(ag .i64 (tF+Om))/\(ag .i64 (tF+Om))<=(A8.2:Int)/\jZ base h3 A8.1 56 (af Ct)=true then
(run (Et base) 81 [(.slice (dm A8.1 (af Ct*4)) (af (ag .i64 (tF+Om))-af Ct) (af (ag .i64 (tF+Om))-af Ct))] h3).bind λGY=>
gL (some GY.1) λl57=>
(wr base GY.2 (ae h2) 0 [(vI 4),(vI 0),(vT (⟨#[]⟩:ByteArray)),(vL l57.1 l57.2)]).bind λh58=>
aL h58 (ae h2) 0 λWu Wy s61 Lc=>
some ((.tuple #[(.agg #[(vI Wu),(vI Wy),(vT s61),(vL Lc.1 Lc.2)]),(.bool true)]),h58)
else none)
else
(if (n4==5)=true then
gL (cell h3 (ae h1) 2) λUK=>
gI (cell h3 (ae h) 2) λOu=>
(if 0<=Ou/\Ou<(UK.2:Int) then
UK.1.bind λTr=>
aL h3 Tr.block (Tr.off+af Ou*4) λLd UF s68 UL=>
(run (Et base) 40 [(.agg #[(vI Ld),(vI UF),(vT s68),(vL UL.1 UL.2)])] h3).bind λIw=>
gG (some Iw.1) 4 λZb=>
cF Zb λn72 Oy s74 Uv=>
(gate (bc h3 Iw.2 (some ⟨(ae h1),2,none⟩) 1)
(gL (cell Iw.2 (ae h1) 2) λl76=>
(gate (bc h3 Iw.2 (some ⟨(ae h),3,none⟩) 1)
(gI (cell Iw.2 (ae h) 3) λIh=>
(if 0<=Ih/\Ih<(l76.2:Int) then
l76.1.bind λPj=>
(gate (bc h3 Iw.2 (some ⟨Pj.block,((Pj.off+af Ih*4)+3),none⟩) 1)
(gL (cell Iw.2 Pj.block ((Pj.off+af Ih*4)+3)) λUw=>
(run (Et base) 81 [(vL Uw.1 Uw.2)] Iw.2).bind λUT=>
gL (some UT.1) λGG=>
(gate (fP (some ⟨Pj.block,((Pj.off+af Ih*4)+3),none⟩) (ae UT.2))
((gate (fP (some ⟨(ae h),3,none⟩) (ae UT.2))
((gate (fP (some ⟨(ae h1),2,none⟩) (ae UT.2))
(cR UT.2 56 [(vI n72),(vI Oy),(vT s74),(vL Uv.1 Uv.2)] λWA=>
(app base WA 56 4 56 (some ⟨(ae UT.2),0,none⟩) 1 (br WA GG.1 (GG.2*4)) GG.2).bind λUU=>
gL (some UU.1) λUx=>
gL (cell UU.2 (ae h1) 2) λUy=>
gI (cell UU.2 (ae h) 3) λOf=>
(if 0<=Of/\Of<(Uy.2:Int) then
Uy.1.bind λWf=>
gI (cell UU.2 Wf.block ((Wf.off+af Of*4)+0)) λXh=>
(wr base UU.2 (ae h2) 0 [(vI 5),(vI 0),(vT (⟨#[]⟩:ByteArray)),(vL Ux.1 Ux.2)]).bind λh89=>
(gate (bc UU.2 h89 (some ⟨Wf.block,((Wf.off+af Of*4)+0),none⟩) 1)
((gate (bc UU.2 h89 (some ⟨(ae h),3,none⟩) 1)
((gate (bc UU.2 h89 (some ⟨(ae h1),2,none⟩) 1)
(aL h89 (ae h2) 0 λJc n91 s92 Lf=>
some ((.tuple #[(.agg #[(vI Jc),(vI n91),(vT s92),(vL Lf.1 Lf.2)]),(.bool (Xh==5))]),h89)))))))
else none)))))))))
else none)))))
else none)
else
(if (n4==15)=true then
gI (cell h3 (ae h1) 0) λn94=>
(run (Et base) 118 [(vI n94)] h3).bind λr95=>
gG (some r95.1) 4 λl96=>
cF l96 λn97 Zd s99 BS=>
(wr base r95.2 (ae h2) 0 [(vI n97),(vI Zd),(vT s99),(vL BS.1 BS.2)]).bind λMM=>
aL MM (ae h2) 0 λCo uZ Ix r_=>
some ((.tuple #[(.agg #[(vI Co),(vI uZ),(vT Ix),(vL r_.1 r_.2)]),(.bool true)]),MM)
else
(if (n4==16)=true then
(run (Et base) 118 [(vI v2)] h3).bind λzm=>
gG (some zm.1) 4 λPV=>
cF PV λE2 ze XX adU=>
(wr base zm.2 (ae h2) 0 [(vI E2),(vI ze),(vT XX),(vL adU.1 adU.2)]).bind λadV=>
aL adV (ae h2) 0 λWE L0 ajW L1=>
some ((.tuple #[(.agg #[(vI WE),(vI L0),(vT ajW),(vL L1.1 L1.2)]),(.bool true)]),adV)
else
dW h3 (ae h) 0 λMD Xm E3 L2 L4 ajX=>
aZ h3 (ae h1) 0 λFa MF L5 BV Ln=>
(run (Et base) 119 [(.agg #[(vI MD),(vI Xm),(vI E3),(vI L2),(vI L4),(vT ajX)]),(.agg #[(vI Fa),(vI MF),(vL L5.1 L5.2),(vL BV.1 BV.2),(vL Ln.1 Ln.2)])] h3).bind λvj=>
(cM 2 vj.1).bind λLp=>
gG (Lp[0]?) 4 λPM=>
cF PM λXn Xo ajY MG=>
gB (Lp[1]?) λXY=>
(wr base vj.2 (ae h2) 0 [(vI Xn),(vI Xo),(vT ajY),(vL MG.1 MG.2)]).bind λadW=>
aL adW (ae h2) 0 λL8 Iq ajZ Lv=>
some ((.tuple #[(.agg #[(vI L8),(vI Iq),(vT ajZ),(vL Lv.1 Lv.2)]),(.bool XY)]),adW)))))))))
theorem r89{base:Nat}{aV:Int}{aW:Int}{aX:Int}{aY:Int}{cz:Int}{dy:ByteArray}{eO:Int}{eP:Int}{eQ:Option Addr}{fi:Nat}{eT:Option Addr}{dd:Nat}{gn:Option Addr}{fj:Nat}{v2:Int}{h:AH}{r:Value×AH}(hx:ajV base aV aW aX aY cz dy eO eP eQ fi eT dd gn fj v2 h=some r):run (Et base) 89 [(.agg #[(vI aV),(vI aW),(vI aX),(vI aY),(vI cz),(vT dy)]),(.agg #[(vI eO),(vI eP),(vL eQ fi),(vL eT dd),(vL gn fj)]),(vI v2)] h=some r:=cZ (an:=a89) Tryz.func89 hx
abbrev aj0(base:Nat)(v0:Option Addr)(v1:Int)(fB:Int)(fC:Int)(fD:ByteArray)(fE:Option Addr)(fa:Nat)(h:AH):OV:=
cR h 56 [(vI fB),(vI fC),(vT fD),(vL fE fa)] λh1=>
(v0).bind λa2=>
ca h1 a2.block a2.off λl3 l4 n5 l6=>
(run (Et base) 45 [(.agg #[(vL l3.1 l3.2),(vL l4.1 l4.2),(vI n5),(vL l6.1 l6.2)]),(vI v1)] h1).bind λr7=>
gI (some r7.1) λn8=>
((if decide (n8<0)=true then
some (.inl ([some (.pointer v0),some (vP (ae h)),some (vI n8),some (.bool true)],r7.2))
else
(v0).bind λnt=>
gL (cell r7.2 nt.block (nt.off+1)) λfw=>
(if 0<=n8/\n8<(fw.2:Int) then
fw.1.bind λyU=>
gL (cell r7.2 yU.block ((yU.off+af n8*5)+3)) λiN=>
some (.inl ([some (.pointer v0),some (vP (ae h)),some (vI n8),some (.bool (decide ((iN.2:Int)>=(30:Int))))],r7.2))
else none))).bind λj9=>bH j9 λj9=>
K6 j9.1 λIv d15 lC zd=>
(if zd=true then
some ((.bool false),j9.2)
else
(Iv).bind λnu=>
gL (cell j9.2 nu.block (nu.off+1)) λjy=>
(gate (fP (some ⟨nu.block,(nu.off+1),none⟩) (ae j9.2))
(cR j9.2 56 [] λA_=>
(Iv).bind λOc=>
(gate (fP (some ⟨Oc.block,(Oc.off+1),none⟩) (ae j9.2))
(gL (cell A_ Oc.block (Oc.off+1)) λmR=>
(if 0<=lC/\lC<(mR.2:Int) then
mR.1.bind λOd=>
(gate (fP (some ⟨Od.block,((Od.off+af lC*5)+3),none⟩) (ae j9.2))
(gL (cell A_ Od.block ((Od.off+af lC*5)+3)) λkJ=>
(app base A_ 56 4 56 (some ⟨(ae j9.2),0,none⟩) 0 (br A_ kJ.1 (kJ.2*4)) kJ.2).bind λOC=>
gL (some OC.1) λpv=>
(gate (bc A_ OC.2 (some ⟨nu.block,(nu.off+1),none⟩) 1)
((gate (fP (some d15) (ae j9.2))
((gate (bc A_ OC.2 (some d15) 4)
(aL OC.2 d15.block d15.off λuc rF s29 A7=>
(run (Et base) 40 [(.agg #[(vI uc),(vI rF),(vT s29),(vL A7.1 A7.2)])] OC.2).bind λIp=>
gG (some Ip.1) 4 λqk=>
cF qk λPF Oh s35 Ed=>
(gate (bc OC.2 Ip.2 (some ⟨nu.block,(nu.off+1),none⟩) 1)
((gate (fP (some ⟨nu.block,(nu.off+1),none⟩) (ae Ip.2))
(cR Ip.2 56 [(vI PF),(vI Oh),(vT s35),(vL Ed.1 Ed.2)] λh37=>
(app base h37 56 4 56 pv.1 pv.2 (br h37 (some ⟨(ae Ip.2),0,none⟩) (1*4)) 1).bind λp38=>
gL (some p38.1) λxM=>
(gate (bc h37 p38.2 (some ⟨nu.block,(nu.off+1),none⟩) 1)
((if 0<=lC/\lC<(jy.2:Int) then
jy.1.bind λOe=>
(wr base p38.2 Oe.block ((Oe.off+af lC*5)+3) [(vL xM.1 xM.2)]).bind λPI=>
some ((.bool true),PI)
else none)))))))))))))))
else none))))))
theorem r90{base:Nat}{v0:Option Addr}{v1:Int}{fB:Int}{fC:Int}{fD:ByteArray}{fE:Option Addr}{fa:Nat}{h:AH}{r:Value×AH}(hx:aj0 base v0 v1 fB fC fD fE fa h=some r):run (Et base) 90 [(.pointer v0),(vI v1),(.agg #[(vI fB),(vI fC),(vT fD),(vL fE fa)])] h=some r:=cZ (an:=a90) Tryz.func90 hx
def C5(base:Nat):Body:=gH base T7 T9 [1,1,1,1,1,1,1,1,0,0] Tryz.f91 T8
def C6(base:Nat):Body:=gH base T_ Ub [1,1,1,1,1,0,1,0,0] Tryz.f91 Ua
theorem C7(base:Nat)(v0:Option Addr)(v5:Addr)(v7:Option Addr)(ue:Nat)(v9:Int)(h:AH):C5 base [some (.pointer v0),some (vA v5),some (vL v7 ue),some (vI v9)] h =
(((if decide (v9<(ue:Int))=true then
aL h v5.block v5.off λn2 n3 s4 l5=>
(run (Et base) 92 [(vT (⟨#[111,107]⟩:ByteArray))] h).bind λr6=>
gG (some r6.1) 4 λl7=>
cF l7 λn8 n9 sf fw=>
(gate (bc h r6.2 (some v5) 4)
((run (Et base) 87 [(.agg #[(vI n2),(vI n3),(vT s4),(vL l5.1 l5.2)]),(.agg #[(vI n8),(vI n9),(vT sf),(vL fw.1 fw.2)])] r6.2).bind λiq=>
gB (some iq.1) λMK=>
some (.inl ([some (.pointer v0),some (vA v5),some (vL v7 ue),some (vI v9),some (.bool (!MK))],iq.2))))
else
some (.inl ([some (.pointer v0),some (vA v5),some (vL v7 ue),some (vI v9),some (.bool false)],h)))).bind λj1=>bH j1 λj1=>
Pq j1.1 λIv d15 kt nL P7=>
(if P7=true then
(if 0<=nL/\nL<(kt.2:Int) then
kt.1.bind λa19=>
gI (cell j1.2 a19.block (a19.off+af nL*1)) λpK=>
aL j1.2 d15.block d15.off λtE pO XK kJ=>
(run (Et base) 91 [(.pointer Iv),(vI pK),(.agg #[(vI tE),(vI pO),(vT XK),(vL kJ.1 kJ.2)])] j1.2).bind λCs=>
(cM 0 Cs.1).bind λ_=>
some (0,[some (.pointer Iv),some (vA d15),some (vL kt.1 kt.2),some (vI (ag .i64 (nL+1)))],Cs.2)
else none)
else
some (4,[],j1.2)):OB):=by kernel_rfl
theorem C8(base:Nat)(v0:Option Addr)(v1:Int)(v5:Addr)(v7:Option Addr)(ue:Nat)(v8:Int)(h:AH):C6 base [some (.pointer v0),some (vI v1),some (vA v5),some (vL v7 ue),some (vI v8)] h =
((v0).bind λa1=>
gL (cell h a1.block (a1.off+1)) λl2=>
(if decide (v8<(l2.2:Int))=true then
(v0).bind λa3=>
gL (cell h a3.block (a3.off+1)) λl4=>
(v0).bind λa5=>
gL (cell h a5.block (a5.off+1)) λl6=>
(if 0<=v8/\v8<(l6.2:Int) then
l6.1.bind λa7=>
gL (cell h a7.block ((a7.off+af v8*5)+4)) λl8=>
(run (Et base) 120 [(vL l8.1 l8.2),(vI v1)] h).bind λr9=>
gL (some r9.1) λep=>
(gate (bc h r9.2 (some ⟨a3.block,(a3.off+1),none⟩) 1)
((if 0<=v8/\v8<(l4.2:Int) then
l4.1.bind λyT=>
(wr base r9.2 yT.block ((yT.off+af v8*5)+4) [(vL ep.1 ep.2)]).bind λlZ=>
some (0,[some (.pointer v0),some (vI v1),some (.pointer (some v5)),some (vL v7 ue),some (vI (ag .i64 (v8+1)))],lZ)
else none)))
else none)
else
some (2,[some (.pointer v0),some (vI v1),some (.pointer (some v5)),some (vL v7 ue)],h)):OB):=by kernel_rfl
abbrev aj1(base:Nat)(v0:Option Addr)(v1:Int)(fB:Int)(fC:Int)(fD:ByteArray)(fE:Option Addr)(fa:Nat)(h:AH):OV:=
cR h 56 [(vI fB),(vI fC),(vT fD),(vL fE fa)] λh1=>
(v0).bind λa2=>
ca h1 a2.block a2.off λl3 l4 n5 l6=>
(run (Et base) 45 [(.agg #[(vL l3.1 l3.2),(vL l4.1 l4.2),(vI n5),(vL l6.1 l6.2)]),(vI v1)] h1).bind λr7=>
gI (some r7.1) λn8=>
(if decide (n8<0)=true then
some ((.tuple #[]),r7.2)
else
(v0).bind λa9=>
gL (cell r7.2 a9.block (a9.off+1)) λep=>
(if 0<=n8/\n8<(ep.2:Int) then
ep.1.bind λyT=>
gL (cell r7.2 yT.block ((yT.off+af n8*5)+4)) λiI=>
cR r7.2 53 [] λnK=>
(v0).bind λsY=>
(gate (fP (some ⟨sY.block,(sY.off+1),none⟩) (ae r7.2))
(gL (cell nK sY.block (sY.off+1)) λhK=>
(if 0<=(0:Int)/\(0:Int)<=n8/\n8<=(hK.2:Int)/\jZ base nK hK.1 53 (af (0:Int))=true then
(app base nK 53 5 88 (some ⟨(ae r7.2),0,none⟩) 0 (br nK (dm hK.1 (af (0:Int)*5)) ((af n8-af (0:Int))*5)) (af n8-af (0:Int))).bind λBc=>
gL (some Bc.1) λiz=>
(v0).bind λnu=>
(gate (fP (some ⟨nu.block,(nu.off+1),none⟩) (ae r7.2))
((gate (bc nK Bc.2 (some ⟨nu.block,(nu.off+1),none⟩) 1)
(gL (cell Bc.2 nu.block (nu.off+1)) λjy=>
(gate (fP jy.1 (ae r7.2))
((gate (bc nK Bc.2 jy.1 0)
((if 0<=(ag .i64 (n8+1))/\(ag .i64 (n8+1))<=(jy.2:Int)/\(jy.2:Int)<=(jy.2:Int)/\jZ base Bc.2 jy.1 53 (af (ag .i64 (n8+1)))=true then
(app base Bc.2 53 5 88 iz.1 iz.2 (br Bc.2 (dm jy.1 (af (ag .i64 (n8+1))*5)) ((af (jy.2:Int)-af (ag .i64 (n8+1)))*5)) (af (jy.2:Int)-af (ag .i64 (n8+1)))).bind λp20=>
gL (some p20.1) λlD=>
(v0).bind λKh=>
(wr base p20.2 Kh.block (Kh.off+1) [(vL lD.1 lD.2)]).bind λh23=>
(aF (C6 base) [some (.pointer v0),some (vI v1),some (vP (ae h)),some (vL iI.1 iI.2),some (vI 0)] h23).bind λq24=>
(if q24.1=2 then
K8 q24.2.1 λOC u9 d27 ry=>
(OC).bind λSg=>
gL (cell q24.2.2 Sg.block (Sg.off+3)) λA7=>
aL q24.2.2 d27.block d27.off λIo PB s33 uX=>
(run (Et base) 94 [(vL A7.1 A7.2),(vI 3),(vI u9),(.agg #[(vI Io),(vI PB),(vT s33),(vL uX.1 uX.2)])] q24.2.2).bind λOv=>
gL (some Ov.1) λEd=>
(OC).bind λa37=>
(wr base Ov.2 a37.block (a37.off+3) [(vL Ed.1 Ed.2)]).bind λY4=>
(aF (C5 base) [some (.pointer OC),some (vA d27),some (vL ry.1 ry.2),some (vI 0)] Y4).bind λq39=>
(if q39.1=4 then
some ((.tuple #[]),q39.2.2)
else
none)
else
none)
else none)))))))))
else none)))
else none))
theorem r91{base:Nat}{v0:Option Addr}{v1:Int}{fB:Int}{fC:Int}{fD:ByteArray}{fE:Option Addr}{fa:Nat}{h:AH}{r:Value×AH}(hx:aj1 base v0 v1 fB fC fD fE fa h=some r):run (Et base) 91 [(.pointer v0),(vI v1),(.agg #[(vI fB),(vI fC),(vT fD),(vL fE fa)])] h=some r:=cZ (an:=a91) Tryz.func91 hx
theorem UW{base:Nat}{v0:ByteArray}{h:AH}{r:Value×AH}(hx:((some (h++[some ⟨[(.int .i64 0),(.int .i64 0),(.string ⟨#[]⟩),(.slice none 0 0)],56⟩])).bind λh1=>
(wr base h1 (ae h) 0 [(.int .i64 (2:Int)),(.int .i64 (0:Int)),(.string v0),(.slice none 0 0)]).bind λh2=>
((cell h2 (ae h) 0).bind (au .i64)).bind λn3=>
((cell h2 (ae h) 1).bind (au .i64)).bind λn4=>
((cell h2 (ae h) 2).bind aK).bind λs5=>
((cell h2 (ae h) 3).bind aN).bind λl6=>
some ((.agg #[(.int .i64 n3),(.int .i64 n4),(.string s5),(.slice l6.1 l6.2 l6.2)]),h2))=some r):run (Et base) 92 [(vT v0)] h=some r:=cZ (an:=a92) Tryz.func92 hx
def M3(base:Nat):Body:=gH base Uc Ue [1,1,1,0,1,0,0] Tryz.f93 Ud
theorem C9(base:Nat)(v6:Addr)(v7:Addr)(v8:Int)(h:AH):M3 base [some (vA v6),some (vA v7),some (vI v8)] h =
((if decide (v8<8)=true then
((cell h v7.block (v7.off+2)).bind aN).bind λl1=>
(run (Et base) 117 [(.int .i64 (0:Int))] h).bind λr2=>
((some r2.1).bind (ig 4)).bind λl3=>
((l3[0]?).bind (au .i64)).bind λn4=>
((l3[1]?).bind (au .i64)).bind λn5=>
((l3[2]?).bind aK).bind λs6=>
((l3[3]?).bind aN).bind λl7=>
(gate (bc h r2.2 (some ⟨v7.block,(v7.off+2),none⟩) 1)
((gate (fP (some ⟨v7.block,(v7.off+2),none⟩) (ae r2.2))
((some (r2.2++[some ⟨[(.int .i64 n4),(.int .i64 n5),(.string s6),(.slice l7.1 l7.2 l7.2)],56⟩])).bind λh8=>
(app base h8 56 4 56 l1.1 l1.2 (br h8 (some ⟨(ae r2.2),0,none⟩) (1*4)) 1).bind λp9=>
((some p9.1).bind aN).bind λep=>
(wr base p9.2 v7.block (v7.off+2) [(.slice ep.1 ep.2 ep.2)]).bind λjc=>
some (0,[some (.pointer (some v6)),some (.pointer (some v7)),some (.int .i64 (ag .i64 (v8+1)))],jc)))))
else
some (2,[some (.pointer (some v6)),some (.pointer (some v7))],h)):OB):=by kernel_rfl
abbrev aj2(base:Nat)(v0:Int)(v1:Int)(fB:Int)(fC:Int)(fD:ByteArray)(fE:Option Addr)(fa:Nat)(h:AH):OV:=
cR h 56 [(vI fB),(vI fC),(vT fD),(vL fE fa)] λh1=>
cR h1 53 [(vI 0),(vI 0),(vL none 0),(vL none 0),(vL none 0)] λh2=>
((run (Et base) 16 [(vI v0),(vI 1),(vI 99999)] h2).bind λr4=>
((some r4.1).bind aO).bind λb5=>
(if (!b5)=true then
some (.inl ([some (vI v0),some (vI v1),some (vP (ae h)),some (vP (ae h1)),some (.bool true)],r4.2))
else
(if decide (v1<0)=true then
some (.inl ([some (vI v0),some (vI v1),some (vP (ae h)),some (vP (ae h1)),some (.bool true)],r4.2))
else
aL r4.2 (ae h) 0 λn6 n7 s8 l9=>
(run (Et base) 83 [(.agg #[(vI n6),(vI n7),(vT s8),(vL l9.1 l9.2)])] r4.2).bind λql=>
((some ql.1).bind aO).bind λE'=>
some (.inl ([some (vI v0),some (vI v1),some (vP (ae h)),some (vP (ae h1)),some (.bool (!E'))],ql.2))))).bind λj3=>bH j3 λj3=>
yX j3.1 λfS jz d14 d15 rZ=>
(if rZ=true then
(wr base j3.2 d15.block d15.off [(vI 0),(vI 0),(vL none 0),(vL none 0),(vL none 0)]).bind λtc=>
aZ tc d15.block d15.off λlE lh kH lD mR=>
some ((.agg #[(vI lE),(vI lh),(vL kH.1 kH.2),(vL lD.1 lD.2),(vL mR.1 mR.2)]),tc)
else
aL j3.2 d14.block d14.off λqR rD Iu pv=>
(run (Et base) 40 [(.agg #[(vI qR),(vI rD),(vT Iu),(vL pv.1 pv.2)])] j3.2).bind λFf=>
gG (some Ff.1) 4 λry=>
cF ry λwz xH s31 qk=>
cR Ff.2 56 [(vI wz),(vI xH),(vT s31),(vL qk.1 qk.2)] λB9=>
cR B9 53 [(vI 0),(vI 0),(vL none 0),(vL none 0),(vL none 0)] λPC=>
(wr base PC (ae B9) 0 [(vI fS),(vI jz),(vL (some ⟨(ae Ff.2),0,none⟩) 1),(vL none 0),(vL none 0)]).bind λY8=>
(aF (M3 base) [some (vA d15),some (vP (ae B9)),some (vI 1)] Y8).bind λQa=>
(if Qa.1=2 then
Ib Qa.2.1 λd37 d38=>
aZ Qa.2.2 d38.block d38.off λLM LH tD Jd xK=>
(wr base Qa.2.2 d37.block d37.off [(vI LM),(vI LH),(vL tD.1 tD.2),(vL Jd.1 Jd.2),(vL xK.1 xK.2)]).bind λOg=>
aZ Og d37.block d37.off λXV n46 BR GF US=>
some ((.agg #[(vI XV),(vI n46),(vL BR.1 BR.2),(vL GF.1 GF.2),(vL US.1 US.2)]),Og)
else
none))
theorem r93{base:Nat}{v0:Int}{v1:Int}{fB:Int}{fC:Int}{fD:ByteArray}{fE:Option Addr}{fa:Nat}{h:AH}{r:Value×AH}(hx:aj2 base v0 v1 fB fC fD fE fa h=some r):run (Et base) 93 [(vI v0),(vI v1),(.agg #[(vI fB),(vI fC),(vT fD),(vL fE fa)])] h=some r:=cZ (an:=a93) Tryz.func93 hx
theorem Wl{base:Nat}{v0:Option Addr}{aB:Nat}{v1:Int}{v2:Int}{MO:Int}{MP:Int}{MQ:ByteArray}{MR:Option Addr}{CU:Nat}{h:AH}{r:Value×AH}(hx:((some (h++[some ⟨[(vI MO),(vI MP),(.string MQ),(vL MR CU)],56⟩])).bind λh1=>
(if decide ((aB:Int)>=(500:Int))=true then
some ((vL v0 aB),h1)
else
gI (cell h1 (ae h) 0) λn2=>
gI (cell h1 (ae h) 1) λn3=>
gT (cell h1 (ae h) 2) λs4=>
gL (cell h1 (ae h) 3) λl5=>
(run (Et base) 40 [(.agg #[(vI n2),(vI n3),(.string s4),(vL l5.1 l5.2)])] h1).bind λr6=>
((some r6.1).bind (ig 4)).bind λl7=>
gI (l7[0]?) λn8=>
gI (l7[1]?) λn9=>
gT (l7[2]?) λsf=>
gL (l7[3]?) λfw=>
(some (r6.2++[some ⟨[(vI v1),(vI v2),(vI n8),(vI n9),(.string sf),(vL fw.1 fw.2)],82⟩])).bind λlZ=>
(app base lZ 82 6 72 v0 aB (br lZ (some ⟨(ae r6.2),0,none⟩) (1*6)) 1).bind λES=>
gL (some ES.1) λeU=>
some ((vL eU.1 eU.2),ES.2)))=some r):run (Et base) 94 [(vL v0 aB),(vI v1),(vI v2),(.agg #[(vI MO),(vI MP),(vT MQ),(vL MR CU)])] h=some r:=cZ (an:=a94) Tryz.func94 hx
abbrev aj3(base:Nat)(v0:Option Addr)(v1:Int)(v2:Int)(h:AH):OV:=
(v0).bind λa1=>
ca h a1.block a1.off λl2 l3 n4 l5=>
(run (Et base) 45 [(.agg #[(vL l2.1 l2.2),(vL l3.1 l3.2),(vI n4),(vL l5.1 l5.2)]),(vI v1)] h).bind λr6=>
gI (some r6.1) λn7=>
(v0).bind λa8=>
ca r6.2 a8.block a8.off λl9 ep eV iI=>
(run (Et base) 45 [(.agg #[(vL l9.1 l9.2),(vL ep.1 ep.2),(vI eV),(vL iI.1 iI.2)]),(vI v2)] r6.2).bind λlF=>
gI (some lF.1) λmT=>
((if decide (mT<0)=true then
some (.inl ([some (.pointer v0),some (vI v1),some (vI v2),some (vI n7),some (vI mT),some (.bool true)],lF.2))
else
(if (mT==n7)=true then
some (.inl ([some (.pointer v0),some (vI v1),some (vI v2),some (vI n7),some (vI mT),some (.bool true)],lF.2))
else
(v0).bind λww=>
gL (cell lF.2 ww.block (ww.off+1)) λiz=>
(if 0<=n7/\n7<(iz.2:Int) then
iz.1.bind λnu=>
gL (cell lF.2 nu.block ((nu.off+af n7*5)+4)) λjy=>
(if decide ((jy.2:Int)>=(50:Int))=true then
some (.inl ([some (.pointer v0),some (vI v1),some (vI v2),some (vI n7),some (vI mT),some (.bool true)],lF.2))
else
(v0).bind λOb=>
gL (cell lF.2 Ob.block (Ob.off+1)) λlD=>
(if 0<=mT/\mT<(lD.2:Int) then
lD.1.bind λKh=>
gL (cell lF.2 Kh.block ((Kh.off+af mT*5)+4)) λnQ=>
some (.inl ([some (.pointer v0),some (vI v1),some (vI v2),some (vI n7),some (vI mT),some (.bool (decide ((nQ.2:Int)>=(50:Int))))],lF.2))
else none))
else none)))).bind λs_=>bH s_ λs_=>
BQ s_.1 λp24 nA u9 uc rF b29=>
(if b29=true then
some ((.tuple #[]),s_.2)
else
(p24).bind λA2=>
gL (cell s_.2 A2.block (A2.off+1)) λxI=>
(p24).bind λGC=>
gL (cell s_.2 GC.block (GC.off+1)) λrz=>
(if 0<=uc/\uc<(rz.2:Int) then
rz.1.bind λxE=>
gL (cell s_.2 xE.block ((xE.off+af uc*5)+4)) λub=>
(run (Et base) 121 [(vL ub.1 ub.2),(vI u9)] s_.2).bind λy_=>
gL (some y_.1) λuY=>
(gate (bc s_.2 y_.2 (some ⟨A2.block,(A2.off+1),none⟩) 1)
((if 0<=uc/\uc<(xI.2:Int) then
xI.1.bind λA3=>
(wr base y_.2 A3.block ((A3.off+af uc*5)+4) [(vL uY.1 uY.2)]).bind λIf=>
(p24).bind λOe=>
gL (cell If Oe.block (Oe.off+1)) λtD=>
(p24).bind λSN=>
gL (cell If SN.block (SN.off+1)) λxK=>
(if 0<=rF/\rF<(xK.2:Int) then
xK.1.bind λSS=>
gL (cell If SS.block ((SS.off+af rF*5)+4)) λEZ=>
(run (Et base) 121 [(vL EZ.1 EZ.2),(vI nA)] If).bind λOz=>
gL (some Oz.1) λBR=>
(gate (bc If Oz.2 (some ⟨Oe.block,(Oe.off+1),none⟩) 1)
((if 0<=rF/\rF<(tD.2:Int) then
tD.1.bind λSY=>
(wr base Oz.2 SY.block ((SY.off+af rF*5)+4) [(vL BR.1 BR.2)]).bind λZc=>
some ((.tuple #[]),Zc)
else none)))
else none)
else none)))
else none))
theorem r95{base:Nat}{v0:Option Addr}{v1:Int}{v2:Int}{h:AH}{r:Value×AH}(hx:aj3 base v0 v1 v2 h=some r):run (Et base) 95 [(.pointer v0),(vI v1),(vI v2)] h=some r:=cZ (an:=a95) Tryz.func95 hx
def G4(base:Nat):Body:=gH base Uf Uh [1,1,0,1,0,0] Tryz.f96 Ug
theorem C_(base:Nat)(v0:Option Addr)(aB:Nat)(v3:Option Addr)(lM:Nat)(v4:Int)(h:AH):G4 base [some (vL v0 aB),some (vL v3 lM),some (vI v4)] h =
((if decide (v4<(aB:Int))=true then
(if 0<=v4/\v4<(aB:Int) then
v0.bind λa1=>
((cell h a1.block (a1.off+af v4*4)).bind (au .i64)).bind λn2=>
((cell h a1.block ((a1.off+af v4*4)+1)).bind (au .i64)).bind λn3=>
((cell h a1.block (((a1.off+af v4*4)+1)+1)).bind aK).bind λs4=>
((cell h a1.block ((((a1.off+af v4*4)+1)+1)+1)).bind aN).bind λl5=>
(run (Et base) 98 [(.agg #[(.int .i64 n2),(.int .i64 n3),(.string s4),(.slice l5.1 l5.2 l5.2)])] h).bind λr6=>
((some r6.1).bind (ig 4)).bind λl7=>
((l7[0]?).bind (au .i64)).bind λn8=>
((l7[1]?).bind (au .i64)).bind λn9=>
((l7[2]?).bind aK).bind λsf=>
((l7[3]?).bind aN).bind λfw=>
(if 0<=v4/\v4<(lM:Int) then
v3.bind λyU=>
(wr base r6.2 yU.block (yU.off+af v4*4) [(.int .i64 n8),(.int .i64 n9),(.string sf),(.slice fw.1 fw.2 fw.2)]).bind λnK=>
some (0,[some (.slice v0 aB aB),some (.slice v3 lM lM),some (.int .i64 (ag .i64 (v4+1)))],nK)
else none)
else none)
else
some (2,[some (.slice v3 lM lM)],h)):OB):=by kernel_rfl
theorem XZ{base:Nat}{v0:Option Addr}{aB:Nat}{h:AH}{r:Value×AH}(hx:((if (aB:Int)=(aB:Int)/\0<=(aB:Int)/\(aB:Int)*56<=140737488355328/\(aB:Int)<=140737488355328 then
(some (h++[some ⟨lz [(.int .i64 0),(.int .i64 0),(.string ⟨#[]⟩),(.slice none 0 0)] (af (aB:Int)),56⟩])).bind λh1=>
(aF (G4 base) [some (.slice v0 aB aB),some (.slice (some ⟨(ae h),0,none⟩) (af (aB:Int)) (af (aB:Int))),some (.int .i64 (0:Int))] h1).bind λq2=>
(if q2.1=2 then
((ay q2.2.1 0).bind aN).bind λl3=>
some ((.slice l3.1 l3.2 l3.2),q2.2.2)
else
none)
else none))=some r):run (Et base) 96 [(vL v0 aB)] h=some r:=cZ (an:=a96) Tryz.func96 hx
def G5(base:Nat):Body:=gH base Ui Uk [1,1,0,1,0,0] Tryz.f97 Uj
theorem vk(base:Nat)(v0:Option Addr)(aB:Nat)(v3:Option Addr)(lM:Nat)(v4:Int)(h:AH):G5 base [some (vL v0 aB),some (vL v3 lM),some (vI v4)] h =
((if decide (v4<(aB:Int))=true then
(if 0<=v4/\v4<(aB:Int) then
v0.bind λa1=>
((cell h a1.block (a1.off+af v4*1)).bind (au .i64)).bind λn2=>
(if 0<=v4/\v4<(lM:Int) then
v3.bind λa3=>
(wr base h a3.block (a3.off+af v4*1) [(.int .i64 n2)]).bind λh4=>
some (0,[some (.slice v0 aB aB),some (.slice v3 lM lM),some (.int .i64 (ag .i64 (v4+1)))],h4)
else none)
else none)
else
some (2,[some (.slice v3 lM lM)],h)):OB):=by kernel_rfl
theorem r97{base:Nat}{v0:Option Addr}{aB:Nat}{h:AH}{r:Value×AH}(hx:((if (aB:Int)=(aB:Int)/\0<=(aB:Int)/\(aB:Int)*8<=140737488355328/\(aB:Int)<=140737488355328 then
(some (h++[some ⟨lz [(.int .i64 0)] (af (aB:Int)),3⟩])).bind λh1=>
(aF (G5 base) [some (.slice v0 aB aB),some (.slice (some ⟨(ae h),0,none⟩) (af (aB:Int)) (af (aB:Int))),some (.int .i64 (0:Int))] h1).bind λq2=>
(if q2.1=2 then
((ay q2.2.1 0).bind aN).bind λl3=>
some ((.slice l3.1 l3.2 l3.2),q2.2.2)
else
none)
else none))=some r):run (Et base) 97 [(vL v0 aB)] h=some r:=cZ (an:=a97) Tryz.func97 hx
theorem r98{base:Nat}{aV:Int}{aW:Int}{aX:ByteArray}{aY:Option Addr}{aR:Nat}{h:AH}{r:Value×AH}(hx:(cR h 77 [(vI aV),(vI aW),(vT aX),(vL aY aR)] λh1=>
cR h1 56 [(vI 0),(vI 0),(vT ⟨#[]⟩),(vL none 0)] λh2=>
cR h2 56 [(vI 0),(vI 0),(vT ⟨#[]⟩),(vL none 0)] λh3=>
((cell h3 (ae h) 0).bind (au .i64)).bind λn4=>
(wr base h3 (ae h2) 0 [(vI n4)]).bind λh5=>
((cell h5 (ae h) 1).bind (au .i64)).bind λn6=>
(wr base h5 (ae h2) 1 [(vI n6)]).bind λh7=>
((cell h7 (ae h) 2).bind aK).bind λs8=>
(wr base h7 (ae h2) 2 [(vT s8)]).bind λh9=>
((cell h9 (ae h) 3).bind aN).bind λep=>
(run (Et base) 96 [(vL ep.1 ep.2)] h9).bind λiY=>
((some iY.1).bind aN).bind λiI=>
(wr base iY.2 (ae h2) 3 [(vL iI.1 iI.2)]).bind λnK=>
aL nK (ae h2) 0 λmT qj PU iz=>
(wr base nK (ae h1) 0 [(vI mT),(vI qj),(vT PU),(vL iz.1 iz.2)]).bind λku=>
aL ku (ae h1) 0 λlh pK Xf mR=>
some ((.agg #[(vI lh),(vI pK),(vT Xf),(vL mR.1 mR.2)]),ku))=some r):run (Et base) 98 [(.agg #[(vI aV),(vI aW),(vT aX),(vL aY aR)])] h=some r:=cZ (an:=a98) Tryz.func98 hx
def M4(base:Nat):Body:=gH base Ul Un [1,1,0,1,0,0] Tryz.f99 Um
theorem Da(base:Nat)(v3:Option Addr)(lM:Nat)(v6:Option Addr)(XO:Nat)(v7:Int)(v8:Int)(h:AH):M4 base [some (vL v3 lM),some (vL v6 XO),some (vI v7),some (vI v8)] h =
((if decide (v8<v7)=true then
(if 0<=v8/\v8<(XO:Int) then
v6.bind λa1=>
aL h a1.block (a1.off+af v8*4) λn2 n3 s4 l5=>
cR h 56 [(vI 0),(vI 0),(vT ⟨#[]⟩),(vL none 0)] λh6=>
(wr base h6 (ae h) 0 [(vI n2),(vI n3),(vT s4),(vL l5.1 l5.2)]).bind λh7=>
aL h7 (ae h) 0 λn8 n9 sf fw=>
(run (Et base) 62 [(.agg #[(vI n8),(vI n9),(vT sf),(vL fw.1 fw.2)])] h7).bind λiq=>
gG (some iq.1) 4 λiN=>
cF iN λmT qj PU iz=>
cR iq.2 56 [(vI mT),(vI qj),(vT PU),(vL iz.1 iz.2)] λku=>
(app base ku 56 4 56 v3 lM (br ku (some ⟨(ae iq.2),0,none⟩) (1*4)) 1).bind λp19=>
((some p19.1).bind aN).bind λkH=>
some (0,[some (vL kH.1 kH.2),some (vL v6 XO),some (vI v7),some (vI (ag .i64 (v8+1)))],p19.2)
else none)
else
some (2,[some (vL v3 lM)],h)):OB):=by kernel_rfl
theorem r99{base:Nat}{v0:Option Addr}{aB:Nat}{h:AH}{r:Value×AH}(hx:((aF (M4 base) [some (.slice none 0 0),some (.slice v0 aB aB),some (.int .i64 (aB:Int)),some (.int .i64 (0:Int))] h).bind λq1=>
(if q1.1=2 then
((ay q1.2.1 0).bind aN).bind λl2=>
some ((.slice l2.1 l2.2 l2.2),q1.2.2)
else
none))=some r):run (Et base) 99 [(vL v0 aB)] h=some r:=cZ (an:=a99) Tryz.func99 hx
theorem qV{base:Nat}{v0:Option Addr}{aB:Nat}{h:AH}{r:Value×AH}(hx:((app base h 3 1 8 none 0 (br h v0 (aB*1)) aB).bind λp1=>
((some p1.1).bind aN).bind λl2=>
some ((.slice l2.1 l2.2 l2.2),p1.2))=some r):run (Et base) 100 [(vL v0 aB)] h=some r:=cZ (an:=aar) Tryz.func100 hx
abbrev adX(base:Nat)(aV:Int)(aW:Int)(aX:Int)(aY:Int)(cz:Int)(dy:ByteArray)(v1:Int)(h:AH):OV:=
cR h 89 [(vI aV),(vI aW),(vI aX),(vI aY),(vI cz),(vT dy)] λh1=>
((run (Et base) 23 [(vI v1),(vI 1),(vI 200)] h1).bind λr3=>
((some r3.1).bind aO).bind λb4=>
(if (!b4)=true then
some (.inl ([some (vI v1),some (vP (ae h)),some (.bool true)],r3.2))
else
dW r3.2 (ae h) 0 λn5 n6 n7 n8 n9 sf=>
(run (Et base) 122 [(.agg #[(vI n5),(vI n6),(vI n7),(vI n8),(vI n9),(vT sf)])] r3.2).bind λiY=>
((some iY.1).bind aO).bind λwy=>
(if (!wy)=true then
some (.inl ([some (vI v1),some (vP (ae h)),some (.bool true)],iY.2))
else
((cell iY.2 (ae h) 1).bind (au .i64)).bind λjz=>
(run (Et base) 123 [(vI jz)] iY.2).bind λrE=>
((some rE.1).bind aO).bind λM1=>
(if (!M1)=true then
some (.inl ([some (vI v1),some (vP (ae h)),some (.bool true)],rE.2))
else
((cell rE.2 (ae h) 2).bind (au .i64)).bind λlC=>
(run (Et base) 123 [(vI lC)] rE.2).bind λEf=>
((some Ef.1).bind aO).bind λP7=>
(if (!P7)=true then
some (.inl ([some (vI v1),some (vP (ae h)),some (.bool true)],Ef.2))
else
((cell Ef.2 (ae h) 3).bind (au .i64)).bind λlh=>
(run (Et base) 123 [(vI lh)] Ef.2).bind λsZ=>
((some sZ.1).bind aO).bind λLD=>
some (.inl ([some (vI v1),some (vP (ae h)),some (.bool (!LD))],sZ.2))))))).bind λj2=>bH j2 λj2=>
xF j2.1 λpO d23 b24=>
(if b24=true then
some ((.bool false),j2.2)
else
((cell j2.2 d23.block (d23.off+0)).bind (au .i64)).bind λnA=>
(if (nA==1)=true then
((cell j2.2 d23.block (d23.off+4)).bind (au .i64)).bind λu9=>
(run (Et base) 23 [(vI u9),(vI (-1000000:Int)),(vI 1000000)] j2.2).bind λFf=>
((some Ff.1).bind aO).bind λb28=>
some ((.bool b28),Ff.2)
else
(if (nA==2)=true then
((cell j2.2 d23.block (d23.off+5)).bind aK).bind λs29=>
(run (Et base) 124 [(vT s29)] j2.2).bind λJa=>
((some Ja.1).bind aO).bind λb31=>
some ((.bool b31),Ja.2)
else
(if (nA==4)=true then
((cell j2.2 d23.block (d23.off+4)).bind (au .i64)).bind λPB=>
(run (Et base) 23 [(vI PB),(vI 0),(vI 8)] j2.2).bind λOw=>
((some Ow.1).bind aO).bind λb34=>
(if b34=true then
((cell Ow.2 d23.block (d23.off+2)).bind (au .i64)).bind λqm=>
((cell Ow.2 d23.block (d23.off+4)).bind (au .i64)).bind λxJ=>
some ((.bool (decide ((ag .i64 (qm+xJ))<=8))),Ow.2)
else
some ((.bool false),Ow.2))
else
(if (nA==6)=true then
((cell j2.2 d23.block (d23.off+4)).bind (au .i64)).bind λE8=>
(run (Et base) 23 [(vI E8),(vI 0),(vI 7)] j2.2).bind λr38=>
((some r38.1).bind aO).bind λb39=>
some ((.bool b39),r38.2)
else
(if (nA==11)=true then
((cell j2.2 d23.block (d23.off+2)).bind (au .i64)).bind λLH=>
(run (Et base) 23 [(vI LH),(vI 1),(vI 6)] j2.2).bind λud=>
((some ud.1).bind aO).bind λb42=>
(if b42=true then
((cell ud.2 d23.block (d23.off+4)).bind (au .i64)).bind λE9=>
(run (Et base) 23 [(vI E9),(vI 0),(vI (ag .i64 (pO-1)))] ud.2).bind λwc=>
((some wc.1).bind aO).bind λb45=>
some ((.bool b45),wc.2)
else
some ((.bool false),ud.2))
else
((if (nA==10)=true then
some (.inl ([some (vI pO),some (vA d23),some (.bool (nA==10))],j2.2))
else
(if (nA==12)=true then
some (.inl ([some (vI pO),some (vA d23),some (.bool (nA==12))],j2.2))
else
some (.inl ([some (vI pO),some (vA d23),some (.bool (nA==16))],j2.2))))).bind λZh=>bH Zh λZh=>
xF Zh.1 λxL d48 b49=>
(if b49=true then
((cell Zh.2 d48.block (d48.off+4)).bind (au .i64)).bind λOt=>
(run (Et base) 23 [(vI Ot),(vI 0),(vI (ag .i64 (xL-1)))] Zh.2).bind λr51=>
((some r51.1).bind aO).bind λb52=>
some ((.bool b52),r51.2)
else
some ((.bool true),Zh.2))))))))
theorem Iy{base:Nat}{aV:Int}{aW:Int}{aX:Int}{aY:Int}{cz:Int}{dy:ByteArray}{v1:Int}{h:AH}{r:Value×AH}(hx:adX base aV aW aX aY cz dy v1 h=some r):run (Et base) 101 [(.agg #[(vI aV),(vI aW),(vI aX),(vI aY),(vI cz),(vT dy)]),(vI v1)] h=some r:=cZ (an:=aas) Tryz.func101 hx
def zn(base:Nat):Body:=gH base Ki Kk [1,0,1,0,0] Tryz.f102 Kj
theorem xP(base:Nat)(v5:Option Addr)(tH:Nat)(v6:Int)(v7:Int)(h:AH):zn base [some (vL v5 tH),some (vI v6),some (vI v7)] h =
((if decide (v7<v6)=true then
(if 0<=v7/\v7<(tH:Int) then
v5.bind λa1=>
((cell h a1.block (a1.off+af v7*4)).bind (au .i64)).bind λn2=>
((cell h a1.block ((a1.off+af v7*4)+1)).bind (au .i64)).bind λn3=>
((cell h a1.block (((a1.off+af v7*4)+1)+1)).bind aK).bind λs4=>
((cell h a1.block ((((a1.off+af v7*4)+1)+1)+1)).bind aN).bind λl5=>
(some (h++[some ⟨[(.int .i64 0),(.int .i64 0),(.string ⟨#[]⟩),(.slice none 0 0)],56⟩])).bind λh6=>
(wr base h6 (ae h) 0 [(.int .i64 n2),(.int .i64 n3),(.string s4),(.slice l5.1 l5.2 l5.2)]).bind λh7=>
((cell h7 (ae h) 0).bind (au .i64)).bind λn8=>
((cell h7 (ae h) 1).bind (au .i64)).bind λn9=>
((cell h7 (ae h) 2).bind aK).bind λsf=>
((cell h7 (ae h) 3).bind aN).bind λfw=>
(run (Et base) 61 [(.agg #[(.int .i64 n8),(.int .i64 n9),(.string sf),(.slice fw.1 fw.2 fw.2)])] h7).bind λiq=>
((some iq.1).bind aO).bind λMK=>
(if (!MK)=true then
some (1,[some (.bool false)],iq.2)
else
some (0,[some (.slice v5 tH tH),some (.int .i64 v6),some (.int .i64 (ag .i64 (v7+1)))],iq.2))
else none)
else
some (2,[],h)):OB):=by kernel_rfl
theorem adY{base:Nat}{v0:Option Addr}{aB:Nat}{h:AH}{r:Value×AH}(hx:((aF (zn base) [some (.slice v0 aB aB),some (.int .i64 (aB:Int)),some (.int .i64 (0:Int))] h).bind λq1=>
(if q1.1=1 then
((ay q1.2.1 0).bind aO).bind λb2=>
some ((.bool b2),q1.2.2)
else
(if q1.1=2 then
some ((.bool true),q1.2.2)
else
none)))=some r):run (Et base) 102 [(vL v0 aB)] h=some r:=cZ (an:=aat) Tryz.func102 hx
def zo(base:Nat):Body:=gH base Kl Kn [1,0,1,0,0] Tryz.f103 Km
theorem xQ(base:Nat)(v0:Option Addr)(aB:Nat)(v1:Int)(v7:Option Addr)(ue:Nat)(v8:Int)(v9:Int)(h:AH):zo base [some (vL v0 aB),some (vI v1),some (vL v7 ue),some (vI v8),some (vI v9)] h =
((if decide (v9<v8)=true then
(if 0<=v9/\v9<(ue:Int) then
v7.bind λa1=>
((cell h a1.block (a1.off+af v9*1)).bind (au .i64)).bind λn2=>
((run (Et base) 23 [(vI n2),(vI 1),(vI 99999)] h).bind λr4=>
((some r4.1).bind aO).bind λb5=>
(if (!b5)=true then
some (.inl ([some (vL v0 aB),some (vI v1),some (vL v7 ue),some (vI v8),some (vI v9),some (.bool true)],r4.2))
else
(if (n2==v1)=true then
some (.inl ([some (vL v0 aB),some (vI v1),some (vL v7 ue),some (vI v8),some (vI v9),some (.bool true)],r4.2))
else
(if decide (v9>0)=true then
(if 0<=(ag .i64 (v9-1))/\(ag .i64 (v9-1))<(aB:Int) then
v0.bind λa6=>
((cell r4.2 a6.block (a6.off+af (ag .i64 (v9-1))*1)).bind (au .i64)).bind λn7=>
some (.inl ([some (vL v0 aB),some (vI v1),some (vL v7 ue),some (vI v8),some (vI v9),some (.bool (decide (n7>=n2)))],r4.2))
else none)
else
some (.inl ([some (vL v0 aB),some (vI v1),some (vL v7 ue),some (vI v8),some (vI v9),some (.bool false)],r4.2)))))).bind λj3=>bH j3 λj3=>
K5 j3.1 λl8 n9 ep eV fS MK=>
(if MK=true then
some (1,[some (.bool false)],j3.2)
else
some (0,[some (vL l8.1 l8.2),some (vI n9),some (vL ep.1 ep.2),some (vI eV),some (vI (ag .i64 (fS+1)))],j3.2))
else none)
else
some (2,[some (vL v0 aB)],h)):OB):=by kernel_rfl
theorem adZ{base:Nat}{v0:Option Addr}{aB:Nat}{v1:Int}{h:AH}{r:Value×AH}(hx:((aF (zo base) [some (.slice v0 aB aB),some (.int .i64 v1),some (.slice v0 aB aB),some (.int .i64 (aB:Int)),some (.int .i64 (0:Int))] h).bind λq1=>
(if q1.1=1 then
((ay q1.2.1 0).bind aO).bind λb2=>
some ((.bool b2),q1.2.2)
else
(if q1.1=2 then
((ay q1.2.1 0).bind aN).bind λl3=>
some ((.bool (decide ((l3.2:Int)<=(50:Int)))),q1.2.2)
else
none)))=some r):run (Et base) 103 [(vL v0 aB),(vI v1)] h=some r:=cZ (an:=aau) Tryz.func103 hx
def Fj(base:Nat):Body:=gH base Ko Kr [1,1,1,0,1,0,0] Tryz.f104 Kq
theorem sj(base:Nat)(v1:Int)(v2:Int)(v27:Option Addr)(X0:Nat)(v28:Int)(Zi:Int)(h:AH):Fj base [some (vI v1),some (vI v2),some (vL v27 X0),some (vI v28),some (vI Zi)] h =
((if decide (Zi<v28)=true then
(if 0<=Zi/\Zi<(X0:Int) then
v27.bind λa1=>
aL h a1.block (a1.off+af Zi*4) λn2 n3 s4 l5=>
cR h 56 [(vI 0),(vI 0),(vT ⟨#[]⟩),(vL none 0)] λh6=>
(wr base h6 (ae h) 0 [(vI n2),(vI n3),(vT s4),(vL l5.1 l5.2)]).bind λh7=>
aL h7 (ae h) 0 λn8 n9 sf fw=>
(run (Et base) 104 [(.agg #[(vI n8),(vI n9),(vT sf),(vL fw.1 fw.2)]),(vI (ag .i64 (v1+1))),(vI v2)] h7).bind λiq=>
(cM 2 iq.1).bind λiN=>
afx iN λmT M1=>
(if (!M1)=true then
some (1,[some (vI mT),some (.bool false)],iq.2)
else
some (0,[some (vI v1),some (vI mT),some (vL v27 X0),some (vI v28),some (vI (ag .i64 (Zi+1)))],iq.2))
else none)
else
some (2,[some (vI v2)],h)):OB):=by kernel_rfl
theorem Qb{base:Nat}{aV:Int}{aW:Int}{aX:ByteArray}{aY:Option Addr}{aR:Nat}{v1:Int}{v2:Int}{h:AH}{r:Value×AH}(hx:(cR h 56 [(vI aV),(vI aW),(vT aX),(vL aY aR)] λh1=>
((if decide (v1>6)=true then
some (.inl ([some (vI v1),some (vI (ag .i64 (v2+1))),some (vP (ae h)),some (.bool true)],h1))
else
(if decide ((ag .i64 (v2+1))>100)=true then
some (.inl ([some (vI v1),some (vI (ag .i64 (v2+1))),some (vP (ae h)),some (.bool true)],h1))
else
aL h1 (ae h) 0 λn3 n4 s5 l6=>
(run (Et base) 125 [(.agg #[(vI n3),(vI n4),(vT s5),(vL l6.1 l6.2)])] h1).bind λr7=>
((some r7.1).bind aO).bind λb8=>
some (.inl ([some (vI v1),some (vI (ag .i64 (v2+1))),some (vP (ae h)),some (.bool (!b8))],r7.2))))).bind λj2=>bH j2 λj2=>
K3 j2.1 λn9 fl d11 wy=>
(if wy=true then
some ((.tuple #[(vI fl),(.bool false)]),j2.2)
else
((cell j2.2 d11.block (d11.off+3)).bind aN).bind λiN=>
(aF (Fj base) [some (vI n9),some (vI fl),some (vL iN.1 iN.2),some (vI (iN.2:Int)),some (vI 0)] j2.2).bind λLK=>
(if LK.1=1 then
Pn LK.2.1 λqj rZ=>
some ((.tuple #[(vI qj),(.bool rZ)]),LK.2.2)
else
(if LK.1=2 then
((ay LK.2.1 0).bind (au .i64)).bind λnL=>
some ((.tuple #[(vI nL),(.bool true)]),LK.2.2)
else
none))))=some r):run (Et base) 104 [(.agg #[(vI aV),(vI aW),(vT aX),(vL aY aR)]),(vI v1),(vI v2)] h=some r:=cZ (an:=aav) Tryz.func104 hx
def vl(base:Nat):Body:=gH base Ks Ku [1,1,0,1,0,0] Tryz.f105 Kt
theorem xS(base:Nat)(v2:Addr)(v3:Addr)(v36:Int)(Qc:Int)(h:AH):vl base [some (vA v2),some (vA v3),some (vI v36),some (vI Qc)] h =
((if decide (Qc<v36)=true then
((cell h v2.block (v2.off+3)).bind aN).bind λl1=>
(if 0<=Qc/\Qc<(l1.2:Int) then
l1.1.bind λa2=>
aL h a2.block (a2.off+af Qc*4) λn3 n4 s5 l6=>
((cell h v3.block (v3.off+3)).bind aN).bind λl7=>
(if 0<=Qc/\Qc<(l7.2:Int) then
l7.1.bind λa8=>
aL h a8.block (a8.off+af Qc*4) λn9 fl s11 iI=>
(run (Et base) 105 [(.agg #[(vI n3),(vI n4),(vT s5),(vL l6.1 l6.2)]),(.agg #[(vI n9),(vI fl),(vT s11),(vL iI.1 iI.2)])] h).bind λlF=>
((some lF.1).bind aO).bind λzc=>
(if (!zc)=true then
some (1,[some (.bool false)],lF.2)
else
some (0,[some (vA v2),some (vA v3),some (vI v36),some (vI (ag .i64 (Qc+1)))],lF.2))
else none)
else none)
else
some (2,[],h)):OB):=by kernel_rfl
theorem Lh{base:Nat}{aV:Int}{aW:Int}{aX:ByteArray}{aY:Option Addr}{aR:Nat}{eO:Int}{eP:Int}{eQ:ByteArray}{eT:Option Addr}{dd:Nat}{h:AH}{r:Value×AH}(hx:(cR h 56 [(vI aV),(vI aW),(vT aX),(vL aY aR)] λh1=>
cR h1 56 [(vI eO),(vI eP),(vT eQ),(vL eT dd)] λh2=>
(((cell h2 (ae h) 0).bind (au .i64)).bind λn4=>
((cell h2 (ae h1) 0).bind (au .i64)).bind λn5=>
(if (n4 != n5)=true then
some (.inl ([some (vP (ae h)),some (vP (ae h1)),some (.bool true)],h2))
else
((cell h2 (ae h) 1).bind (au .i64)).bind λn6=>
((cell h2 (ae h1) 1).bind (au .i64)).bind λn7=>
(if (n6 != n7)=true then
some (.inl ([some (vP (ae h)),some (vP (ae h1)),some (.bool true)],h2))
else
((cell h2 (ae h) 2).bind aK).bind λs8=>
((cell h2 (ae h1) 2).bind aK).bind λs9=>
(if (!(s8.toList==s9.toList))=true then
some (.inl ([some (vP (ae h)),some (vP (ae h1)),some (.bool true)],h2))
else
((cell h2 (ae h) 3).bind aN).bind λep=>
((cell h2 (ae h1) 3).bind aN).bind λfw=>
some (.inl ([some (vP (ae h)),some (vP (ae h1)),some (.bool ((ep.2:Int) != (fw.2:Int)))],h2)))))).bind λj3=>bH j3 λj3=>
Uo j3.1 λd12 d13 zc=>
(if zc=true then
some ((.bool false),j3.2)
else
((cell j3.2 d12.block (d12.off+3)).bind aN).bind λhK=>
(aF (vl base) [some (vA d12),some (vA d13),some (vI (hK.2:Int)),some (vI 0)] j3.2).bind λCk=>
(if Ck.1=1 then
((ay Ck.2.1 0).bind aO).bind λzd=>
some ((.bool zd),Ck.2.2)
else
(if Ck.1=2 then
some ((.bool true),Ck.2.2)
else
none))))=some r):run (Et base) 105 [(.agg #[(vI aV),(vI aW),(vT aX),(vL aY aR)]),(.agg #[(vI eO),(vI eP),(vT eQ),(vL eT dd)])] h=some r:=cZ (an:=aaw) Tryz.func105 hx
def zp(base:Nat):Body:=gH base Kv Kx [1,1,0,1,0,0] Tryz.f106 Kw
theorem xT(base:Nat)(v1:Int)(v5:Option Addr)(tH:Nat)(v8:Option Addr)(UQ:Nat)(v9:Int)(v10:Int)(h:AH):zp base [some (vI v1),some (vL v5 tH),some (vL v8 UQ),some (vI v9),some (vI v10)] h =
((if decide (v10<v9)=true then
(if 0<=v10/\v10<(UQ:Int) then
v8.bind λa1=>
gI (cell h a1.block (a1.off+af v10*1)) λn2=>
(if (n2 != v1)=true then
(some (h++[some ⟨[(vI n2)],3⟩])).bind λh3=>
(app base h3 3 1 8 v5 tH (br h3 (some ⟨(ae h),0,none⟩) (1*1)) 1).bind λp4=>
gL (some p4.1) λl5=>
some (0,[some (vI v1),some (vL l5.1 l5.2),some (vL v8 UQ),some (vI v9),some (vI (ag .i64 (v10+1)))],p4.2)
else
some (0,[some (vI v1),some (vL v5 tH),some (vL v8 UQ),some (vI v9),some (vI (ag .i64 (v10+1)))],h))
else none)
else
some (2,[some (vL v5 tH)],h)):OB):=by kernel_rfl
theorem zm{base:Nat}{v0:Option Addr}{aB:Nat}{v1:Int}{h:AH}{r:Value×AH}(hx:((aF (zp base) [some (vI v1),some (vL none 0),some (vL v0 aB),some (vI (aB:Int)),some (vI 0)] h).bind λq1=>
(if q1.1=2 then
gL (ay q1.2.1 0) λl2=>
some ((vL l2.1 l2.2),q1.2.2)
else
none))=some r):run (Et base) 106 [(vL v0 aB),(vI v1)] h=some r:=cZ (an:=aax) Tryz.func106 hx
theorem Qd{base:Nat}{aV:Int}{aW:Int}{aX:ByteArray}{aY:Option Addr}{aR:Nat}{h:AH}{r:Value×AH}(hx:((some (h++[some ⟨[(vI aV),(vI aW),(.string aX),(vL aY aR)],56⟩])).bind λh1=>
gI (cell h1 (ae h) 0) λn2=>
(if (n2==2)=true then
gT (cell h1 (ae h) 2) λs3=>
some ((.bool (s3.toList==(⟨#[111,107]⟩:ByteArray).toList)),h1)
else
some ((.bool false),h1)))=some r):run (Et base) 107 [(.agg #[(vI aV),(vI aW),(vT aX),(vL aY aR)])] h=some r:=cZ (an:=aay) Tryz.func107 hx
def sk(base:Nat):Body:=gH base Ky KA [1,1,0,0,0] Tryz.f108 Kz
theorem sn(base:Nat)(v0:Option Addr)(aB:Nat)(v1:Int)(v5:Int)(h:AH):sk base [some (vL v0 aB),some (vI v1),some (vI v5)] h =
(((if decide (v5<(aB:Int))=true then
(if 0<=v5/\v5<(aB:Int) then
v0.bind λa2=>
gI (cell h a2.block (a2.off+af v5*1)) λn3=>
some (.inl ([some (vL v0 aB),some (vI v1),some (vI v5),some (.bool (decide (n3<v1)))],h))
else none)
else
some (.inl ([some (vL v0 aB),some (vI v1),some (vI v5),some (.bool false)],h)))).bind λj1=>bH j1 λj1=>
gL (ay j1.1 0) λl4=>
gI (ay (j1.1.tail) 0) λn5=>
gI (ay (j1.1.tail.tail) 0) λn6=>
gB (ay (j1.1.tail.tail.tail) 0) λb7=>
(if b7=true then
some (0,[some (vL l4.1 l4.2),some (vI n5),some (vI (ag .i64 (n6+1)))],j1.2)
else
some (2,[some (vL l4.1 l4.2),some (vI n5),some (vI n6)],j1.2)):OB):=by kernel_rfl
theorem aj4{base:Nat}{v0:Option Addr}{aB:Nat}{v1:Int}{h:AH}{r:Value×AH}(hx:((aF (sk base) [some (vL v0 aB),some (vI v1),some (vI 0)] h).bind λq1=>
(if q1.1=2 then
aa2 q1.2.1 λl2 n3 n4=>
((if decide (n4<(l2.2:Int))=true then
(if 0<=n4/\n4<(l2.2:Int) then
l2.1.bind λa6=>
gI (cell q1.2.2 a6.block (a6.off+af n4*1)) λn7=>
some (.inl ([some (vL l2.1 l2.2),some (vI n3),some (vI n4),some (.bool (n7==n3))],q1.2.2))
else none)
else
some (.inl ([some (vL l2.1 l2.2),some (vI n3),some (vI n4),some (.bool false)],q1.2.2)))).bind λj5=>bH j5 λj5=>
K4 j5.1 λl8 n9 fl E'=>
(if E'=true then
(run (Et base) 100 [(vL l8.1 l8.2)] j5.2).bind λiq=>
gL (some iq.1) λiN=>
some ((vL iN.1 iN.2),iq.2)
else
(if 0<=(0:Int)/\(0:Int)<=fl/\fl<=(l8.2:Int)/\jZ base j5.2 l8.1 3 (af (0:Int))=true then
(run (Et base) 100 [(.slice (dm l8.1 (af (0:Int)*1)) (af fl-af (0:Int)) (af fl-af (0:Int)))] j5.2).bind λrE=>
gL (some rE.1) λhK=>
cR rE.2 3 [(vI n9)] λCn=>
(app base Cn 3 1 8 hK.1 hK.2 (br Cn (some ⟨(ae rE.2),0,none⟩) (1*1)) 1).bind λZj=>
gL (some Zj.1) λpu=>
(gate (fP l8.1 (ae rE.2))
((gate (bc Cn Zj.2 l8.1 0)
((gate (bc j5.2 Zj.2 l8.1 0)
((if 0<=fl/\fl<=(l8.2:Int)/\(l8.2:Int)<=(l8.2:Int)/\jZ base Zj.2 l8.1 3 (af fl)=true then
(app base Zj.2 3 1 8 pu.1 pu.2 (br Zj.2 (dm l8.1 (af fl*1)) ((af (l8.2:Int)-af fl)*1)) (af (l8.2:Int)-af fl)).bind λp19=>
gL (some p19.1) λkH=>
some ((vL kH.1 kH.2),p19.2)
else none)))))))
else none))
else
none))=some r):run (Et base) 108 [(vL v0 aB),(vI v1)] h=some r:=cZ (an:=aaz) Tryz.func108 hx
def zt(base:Nat):Body:=gH base KC KE [1,1,0,1,0,0] Tryz.f109 KD
theorem xU(base:Nat)(v0:Option Addr)(aB:Nat)(v1:Option Addr)(gW:Nat)(v5:Int)(h:AH):zt base [some (vL v0 aB),some (vL v1 gW),some (vI v5)] h =
((if decide (v5<(aB:Int))=true then
(if 0<=v5/\v5<(aB:Int) then
v0.bind λa1=>
((cell h a1.block (a1.off+af v5*4)).bind (au .i64)).bind λn2=>
((cell h a1.block ((a1.off+af v5*4)+1)).bind (au .i64)).bind λn3=>
((cell h a1.block (((a1.off+af v5*4)+1)+1)).bind aK).bind λs4=>
((cell h a1.block ((((a1.off+af v5*4)+1)+1)+1)).bind aN).bind λl5=>
(if 0<=v5/\v5<(gW:Int) then
v1.bind λa6=>
((cell h a6.block (a6.off+af v5*4)).bind (au .i64)).bind λn7=>
((cell h a6.block ((a6.off+af v5*4)+1)).bind (au .i64)).bind λn8=>
((cell h a6.block (((a6.off+af v5*4)+1)+1)).bind aK).bind λs9=>
((cell h a6.block ((((a6.off+af v5*4)+1)+1)+1)).bind aN).bind λep=>
(run (Et base) 111 [(.agg #[(.int .i64 n2),(.int .i64 n3),(.string s4),(.slice l5.1 l5.2 l5.2)]),(.agg #[(.int .i64 n7),(.int .i64 n8),(.string s9),(.slice ep.1 ep.2 ep.2)])] h).bind λiY=>
((some iY.1).bind aO).bind λwy=>
(if (!wy)=true then
some (1,[some (.bool false)],iY.2)
else
some (0,[some (.slice v0 aB aB),some (.slice v1 gW gW),some (.int .i64 (ag .i64 (v5+1)))],iY.2))
else none)
else none)
else
some (2,[],h)):OB):=by kernel_rfl
theorem aj5{base:Nat}{v0:Option Addr}{aB:Nat}{v1:Option Addr}{gW:Nat}{h:AH}{r:Value×AH}(hx:((if ((aB:Int) != (gW:Int))=true then
some ((.bool false),h)
else
(aF (zt base) [some (.slice v0 aB aB),some (.slice v1 gW gW),some (.int .i64 (0:Int))] h).bind λq1=>
(if q1.1=1 then
((ay q1.2.1 0).bind aO).bind λb2=>
some ((.bool b2),q1.2.2)
else
(if q1.1=2 then
some ((.bool true),q1.2.2)
else
none))))=some r):run (Et base) 109 [(vL v0 aB),(vL v1 gW)] h=some r:=cZ (an:=aaA) Tryz.func109 hx
def Fk(base:Nat):Body:=gH base KF KH [1,1,0,1,0,0] Tryz.f110 KG
theorem xV(base:Nat)(v0:Option Addr)(aB:Nat)(v1:Option Addr)(gW:Nat)(v5:Int)(h:AH):Fk base [some (vL v0 aB),some (vL v1 gW),some (vI v5)] h =
((if decide (v5<(aB:Int))=true then
(if 0<=v5/\v5<(aB:Int) then
v0.bind λa1=>
((cell h a1.block (a1.off+af v5*1)).bind (au .i64)).bind λn2=>
(if 0<=v5/\v5<(gW:Int) then
v1.bind λa3=>
((cell h a3.block (a3.off+af v5*1)).bind (au .i64)).bind λn4=>
(if (n2 != n4)=true then
some (1,[some (.bool false)],h)
else
some (0,[some (.slice v0 aB aB),some (.slice v1 gW gW),some (.int .i64 (ag .i64 (v5+1)))],h))
else none)
else none)
else
some (2,[],h)):OB):=by kernel_rfl
theorem aj6{base:Nat}{v0:Option Addr}{aB:Nat}{v1:Option Addr}{gW:Nat}{h:AH}{r:Value×AH}(hx:((if ((aB:Int) != (gW:Int))=true then
some ((.bool false),h)
else
(aF (Fk base) [some (.slice v0 aB aB),some (.slice v1 gW gW),some (.int .i64 (0:Int))] h).bind λq1=>
(if q1.1=1 then
((ay q1.2.1 0).bind aO).bind λb2=>
some ((.bool b2),q1.2.2)
else
(if q1.1=2 then
some ((.bool true),q1.2.2)
else
none))))=some r):run (Et base) 110 [(vL v0 aB),(vL v1 gW)] h=some r:=cZ (an:=aaB) Tryz.func110 hx
theorem aj7{base:Nat}{aV:Int}{aW:Int}{aX:ByteArray}{aY:Option Addr}{aR:Nat}{eO:Int}{eP:Int}{eQ:ByteArray}{eT:Option Addr}{dd:Nat}{h:AH}{r:Value×AH}(hx:((some (h++[some ⟨[(.int .i64 aV),(.int .i64 aW),(.string aX),(.slice aY aR aR)],56⟩])).bind λh1=>
(some (h1++[some ⟨[(.int .i64 eO),(.int .i64 eP),(.string eQ),(.slice eT dd dd)],56⟩])).bind λh2=>
((cell h2 (ae h) 0).bind (au .i64)).bind λn3=>
((cell h2 (ae h1) 0).bind (au .i64)).bind λn4=>
(if (n3 != n4)=true then
some ((.bool false),h2)
else
((cell h2 (ae h) 1).bind (au .i64)).bind λn5=>
((cell h2 (ae h1) 1).bind (au .i64)).bind λn6=>
(if (n5 != n6)=true then
some ((.bool false),h2)
else
((cell h2 (ae h) 2).bind aK).bind λs7=>
((cell h2 (ae h1) 2).bind aK).bind λs8=>
(if (!(s7.toList==s8.toList))=true then
some ((.bool false),h2)
else
((cell h2 (ae h) 3).bind aN).bind λl9=>
((cell h2 (ae h1) 3).bind aN).bind λep=>
(run (Et base) 109 [(.slice l9.1 l9.2 l9.2),(.slice ep.1 ep.2 ep.2)] h2).bind λiY=>
((some iY.1).bind aO).bind λwy=>
(if (!wy)=true then
some ((.bool false),iY.2)
else
some ((.bool true),iY.2))))))=some r):run (Et base) 111 [(.agg #[(vI aV),(vI aW),(vT aX),(vL aY aR)]),(.agg #[(vI eO),(vI eP),(vT eQ),(vL eT dd)])] h=some r:=cZ (an:=aaC) Tryz.func111 hx
theorem Fl{base:Nat}  {h:AH}{r:Value×AH}(hx:((some (h++[some ⟨[(.string (⟨#[65,78]⟩:ByteArray)),(.string (⟨#[65,83]⟩:ByteArray)),(.string (⟨#[65,66]⟩:ByteArray)),(.string (⟨#[65,66,78]⟩:ByteArray)),(.string (⟨#[65,66,67]⟩:ByteArray)),(.string (⟨#[65,66,78]⟩:ByteArray)),(.string (⟨#[65,66]⟩:ByteArray)),(.string (⟨#[65,66]⟩:ByteArray)),(.string (⟨#[65,66,67]⟩:ByteArray)),(.string (⟨#[65,66,78]⟩:ByteArray)),(.string (⟨#[65,66,78]⟩:ByteArray)),(.string (⟨#[78]⟩:ByteArray)),(.string (⟨#[65,66]⟩:ByteArray)),(.string (⟨#[65]⟩:ByteArray)),(.string (⟨#[65]⟩:ByteArray)),(.string (⟨#[65,66,78]⟩:ByteArray)),(.string (⟨#[65]⟩:ByteArray)),(.string (⟨#[65]⟩:ByteArray)),(.string (⟨#[65]⟩:ByteArray)),(.string (⟨#[65]⟩:ByteArray))],9⟩])).bind λh1=>
some ((.slice (some ⟨(ae h),0,none⟩) 20 20),h1))=some r):run (Et base) 112 [] h=some r:=cZ (an:=aaD) Tryz.func112 hx
theorem Qe{base:Nat}{v0:ByteArray}{v1:Int}{v2:Int}{h:AH}{r:Value×AH}(hx:((run (Et base) 126 [(.string v0),(.int .u8 v1)] h).bind λr1=>
((some r1.1).bind aO).bind λb2=>
(if (!b2)=true then
some ((.bool (v2==0)),r1.2)
else
(run (Et base) 16 [(.int .i64 v2),(.int .i64 (0:Int)),(.int .i64 (7:Int))] r1.2).bind λr3=>
((some r3.1).bind aO).bind λb4=>
some ((.bool b4),r3.2)))=some r):run (Et base) 113 [(vT v0),(.int .u8 v1),(vI v2)] h=some r:=cZ (an:=aaE) Tryz.func113 hx
def zu(base:Nat):Body:=gH base KI KK [1,0,1,0,0] Tryz.f114 KJ
theorem xW(base:Nat)(v0:ByteArray)(v3:Int)(h:AH):zu base [some (vT v0),some (vI v3)] h =
((if decide (v3<(v0.size:Int))=true then
(if 0<=v3/\v3<(v0.size:Int) then
(run (Et base) 16 [(.int .i64 (ag .i64 ((v0.data.toList.getD (af v3) 0).toNat:Int))),(.int .i64 (97:Int)),(.int .i64 (122:Int))] h).bind λr1=>
((some r1.1).bind aO).bind λb2=>
((if (!b2)=true then
(if (v3==0)=true then
some (.inl ([some (.string v0),some (.int .i64 v3),some (.bool true)],r1.2))
else
(if 0<=v3/\v3<(v0.size:Int) then
(run (Et base) 16 [(.int .i64 (ag .i64 ((v0.data.toList.getD (af v3) 0).toNat:Int))),(.int .i64 (48:Int)),(.int .i64 (57:Int))] r1.2).bind λr4=>
((some r4.1).bind aO).bind λb5=>
some (.inl ([some (.string v0),some (.int .i64 v3),some (.bool (!b5))],r4.2))
else none))
else
some (.inl ([some (.string v0),some (.int .i64 v3),some (.bool false)],r1.2)))).bind λj3=>bH j3 λj3=>
((ay j3.1 0).bind aK).bind λs6=>
((ay (j3.1.tail) 0).bind (au .i64)).bind λn7=>
((ay (j3.1.tail.tail) 0).bind aO).bind λb8=>
(if b8=true then
some (1,[some (.bool false)],j3.2)
else
some (0,[some (.string s6),some (.int .i64 (ag .i64 (n7+1)))],j3.2))
else none)
else
some (2,[some (.string v0)],h)):OB):=by kernel_rfl
theorem aj8{base:Nat}{v0:ByteArray}{h:AH}{r:Value×AH}(hx:((aF (zu base) [some (.string v0),some (.int .i64 (0:Int))] h).bind λq1=>
(if q1.1=1 then
((ay q1.2.1 0).bind aO).bind λb2=>
some ((.bool b2),q1.2.2)
else
(if q1.1=2 then
((ay q1.2.1 0).bind aK).bind λs3=>
(run (Et base) 16 [(.int .i64 (s3.size:Int)),(.int .i64 (1:Int)),(.int .i64 (12:Int))] q1.2.2).bind λr4=>
((some r4.1).bind aO).bind λb5=>
some ((.bool b5),r4.2)
else
none)))=some r):run (Et base) 114 [(vT v0)] h=some r:=cZ (an:=aaF) Tryz.func114 hx
theorem aj9{base:Nat}{aV:Int}{aW:Int}{aX:Int}{aY:Int}{cz:Int}{dy:ByteArray}{v1:Int}{h:AH}{r:Value×AH}(hx:(cR h 89 [(vI aV),(vI aW),(vI aX),(vI aY),(vI cz),(vT dy)] λh1=>
((cell h1 (ae h) 0).bind (au .i64)).bind λn2=>
(if (n2==1)=true then
((cell h1 (ae h) 4).bind (au .i64)).bind λn3=>
(run (Et base) 16 [(vI n3),(vI (-1000000:Int)),(vI 1000000)] h1).bind λr4=>
((some r4.1).bind aO).bind λb5=>
some ((.bool b5),r4.2)
else
(if (n2==4)=true then
((cell h1 (ae h) 4).bind (au .i64)).bind λn6=>
(run (Et base) 16 [(vI n6),(vI 0),(vI 8)] h1).bind λr7=>
((some r7.1).bind aO).bind λb8=>
(if b8=true then
((cell r7.2 (ae h) 2).bind (au .i64)).bind λn9=>
((cell r7.2 (ae h) 4).bind (au .i64)).bind λfl=>
some ((.bool (decide ((ag .i64 (n9+fl))<=8))),r7.2)
else
some ((.bool false),r7.2))
else
(if (n2==6)=true then
((cell h1 (ae h) 4).bind (au .i64)).bind λeV=>
(run (Et base) 16 [(vI eV),(vI 0),(vI 7)] h1).bind λiq=>
((some iq.1).bind aO).bind λMK=>
some ((.bool MK),iq.2)
else
((if (n2==10)=true then
some (.inl ([some (vI v1),some (vP (ae h)),some (.bool (n2==10))],h1))
else
(if (n2==11)=true then
some (.inl ([some (vI v1),some (vP (ae h)),some (.bool (n2==11))],h1))
else
(if (n2==12)=true then
some (.inl ([some (vI v1),some (vP (ae h)),some (.bool (n2==12))],h1))
else
some (.inl ([some (vI v1),some (vP (ae h)),some (.bool (n2==16))],h1)))))).bind λBe=>bH Be λBe=>
xF Be.1 λqj d16 zd=>
(if zd=true then
((cell Be.2 d16.block (d16.off+4)).bind (au .i64)).bind λlE=>
(if decide (lE>=0)=true then
((cell Be.2 d16.block (d16.off+4)).bind (au .i64)).bind λlh=>
some ((.bool (decide (lh<qj))),Be.2)
else
some ((.bool false),Be.2))
else
((cell Be.2 d16.block (d16.off+4)).bind (au .i64)).bind λpK=>
some ((.bool (pK==0)),Be.2))))))=some r):run (Et base) 115 [(.agg #[(vI aV),(vI aW),(vI aX),(vI aY),(vI cz),(vT dy)]),(vI v1)] h=some r:=cZ (an:=aaG) Tryz.func115 hx
def Fm(base:Nat):Body:=gH base KL KN [1,1,1,0,1,0,0] Tryz.f116 KM
theorem sq(base:Nat)(v1:Int)(v2:Int)(v3:Addr)(v7:Int)(h:AH):Fm base [some (vI v1),some (vI v2),some (vA v3),some (vI v7)] h =
((((cell h v3.block (v3.off+3)).bind aN).bind λl2=>
(if decide (v7<(l2.2:Int))=true then
some (.inl ([some (vI v1),some (vI v2),some (vA v3),some (vI v7),some (.bool (decide (v2>=0)))],h))
else
some (.inl ([some (vI v1),some (vI v2),some (vA v3),some (vI v7),some (.bool false)],h)))).bind λj1=>bH j1 λj1=>
Po j1.1 λn3 n4 d5 n6 b7=>
(if b7=true then
((cell j1.2 d5.block (d5.off+3)).bind aN).bind λl8=>
(if 0<=n6/\n6<(l8.2:Int) then
l8.1.bind λa9=>
aL j1.2 a9.block (a9.off+af n6*4) λfl eV Mt iN=>
(run (Et base) 116 [(.agg #[(vI fl),(vI eV),(vT Mt),(vL iN.1 iN.2)]),(vI (ag .i64 (n3-1))),(vI n4)] j1.2).bind λrE=>
((some rE.1).bind (au .i64)).bind λqj=>
some (0,[some (vI n3),some (vI qj),some (vA d5),some (vI (ag .i64 (n6+1)))],rE.2)
else none)
else
some (2,[some (vI n4)],j1.2)):OB):=by kernel_rfl
theorem zv{base:Nat}{aV:Int}{aW:Int}{aX:ByteArray}{aY:Option Addr}{aR:Nat}{v1:Int}{v2:Int}{h:AH}{r:Value×AH}(hx:(cR h 56 [(vI aV),(vI aW),(vT aX),(vL aY aR)] λh1=>
((if decide (v1<1)=true then
some (.inl ([some (vI v1),some (vI v2),some (vP (ae h)),some (.bool true)],h1))
else
(if decide (v2<1)=true then
some (.inl ([some (vI v1),some (vI v2),some (vP (ae h)),some (.bool true)],h1))
else
aL h1 (ae h) 0 λn3 n4 s5 l6=>
(run (Et base) 127 [(.agg #[(vI n3),(vI n4),(vT s5),(vL l6.1 l6.2)])] h1).bind λr7=>
((some r7.1).bind aO).bind λb8=>
some (.inl ([some (vI v1),some (vI v2),some (vP (ae h)),some (.bool (!b8))],r7.2))))).bind λj2=>bH j2 λj2=>
K3 j2.1 λn9 fl d11 wy=>
(if wy=true then
some ((vI (-1:Int)),j2.2)
else
(aF (Fm base) [some (vI n9),some (vI (ag .i64 (fl-1))),some (vA d11),some (vI 0)] j2.2).bind λUE=>
(if UE.1=2 then
((ay UE.2.1 0).bind (au .i64)).bind λmT=>
some ((vI mT),UE.2.2)
else
none)))=some r):run (Et base) 116 [(.agg #[(vI aV),(vI aW),(vT aX),(vL aY aR)]),(vI v1),(vI v2)] h=some r:=cZ (an:=aaH) Tryz.func116 hx
theorem M5{base:Nat}{v0:Int}{h:AH}{r:Value×AH}(hx:((some (h++[some ⟨[(.int .i64 0),(.int .i64 0),(.string ⟨#[]⟩),(.slice none 0 0)],56⟩])).bind λh1=>
(wr base h1 (ae h) 0 [(.int .i64 (1:Int)),(.int .i64 v0),(.string (⟨#[]⟩:ByteArray)),(.slice none 0 0)]).bind λh2=>
((cell h2 (ae h) 0).bind (au .i64)).bind λn3=>
((cell h2 (ae h) 1).bind (au .i64)).bind λn4=>
((cell h2 (ae h) 2).bind aK).bind λs5=>
((cell h2 (ae h) 3).bind aN).bind λl6=>
some ((.agg #[(.int .i64 n3),(.int .i64 n4),(.string s5),(.slice l6.1 l6.2 l6.2)]),h2))=some r):run (Et base) 117 [(vI v0)] h=some r:=cZ (an:=aaI) Tryz.func117 hx
theorem Lk{base:Nat}{v0:Int}{h:AH}{r:Value×AH}(hx:((some (h++[some ⟨[(vI 0),(vI 0),(.string ⟨#[]⟩),(vL none 0)],56⟩])).bind λh1=>
(wr base h1 (ae h) 0 [(vI 3),(vI v0),(.string (⟨#[]⟩:ByteArray)),(vL none 0)]).bind λh2=>
gI (cell h2 (ae h) 0) λn3=>
gI (cell h2 (ae h) 1) λn4=>
gT (cell h2 (ae h) 2) λs5=>
gL (cell h2 (ae h) 3) λl6=>
some ((.agg #[(vI n3),(vI n4),(.string s5),(vL l6.1 l6.2)]),h2))=some r):run (Et base) 118 [(vI v0)] h=some r:=cZ (an:=aaJ) Tryz.func118 hx
abbrev ad0(base:Nat)(aV:Int)(aW:Int)(aX:Int)(aY:Int)(cz:Int)(dy:ByteArray)(eO:Int)(eP:Int)(eQ:Option Addr)(fi:Nat)(eT:Option Addr)(dd:Nat)(gn:Option Addr)(fj:Nat)(h:AH):OV:=
cR h 89 [(vI aV),(vI aW),(vI aX),(vI aY),(vI cz),(vT dy)] λh1=>
cR h1 53 [(vI eO),(vI eP),(vL eQ fi),(vL eT dd),(vL gn fj)] λh2=>
cR h2 56 [(vI 0),(vI 0),(vT ⟨#[]⟩),(vL none 0)] λh3=>
gL (cell h3 (ae h1) 2) λl4=>
gI (cell h3 (ae h) 2) λn5=>
(if 0<=n5/\n5<(l4.2:Int) then
l4.1.bind λa6=>
aL h3 a6.block (a6.off+af n5*4) λn7 n8 s9 ep=>
cR h3 56 [(vI 0),(vI 0),(vT ⟨#[]⟩),(vL none 0)] λjc=>
(wr base jc (ae h3) 0 [(vI n7),(vI n8),(vT s9),(vL ep.1 ep.2)]).bind λlZ=>
gI (cell lZ (ae h) 0) λjz=>
(if (jz==6)=true then
(gI (cell lZ (ae h3) 0) λqj=>
(if (qj != 4)=true then
some (.inl ([some (vP (ae h)),some (vP (ae h2)),some (vP (ae h3)),some (.bool true)],lZ))
else
gI (cell lZ (ae h) 4) λlC=>
gL (cell lZ (ae h3) 3) λiz=>
some (.inl ([some (vP (ae h)),some (vP (ae h2)),some (vP (ae h3)),some (.bool (decide (lC>=(iz.2:Int))))],lZ)))).bind λBe=>bH Be λBe=>
yV Be.1 λd18 d19 d20 LD=>
(if LD=true then
(wr base Be.2 d19.block d19.off [(vI 0),(vI 0),(vT (⟨#[]⟩:ByteArray)),(vL none 0)]).bind λEe=>
aL Ee d19.block d19.off λqR rD Iu pv=>
some ((.tuple #[(.agg #[(vI qR),(vI rD),(vT Iu),(vL pv.1 pv.2)]),(.bool false)]),Ee)
else
gL (cell Be.2 d20.block (d20.off+3)) λBY=>
gI (cell Be.2 d18.block (d18.off+4)) λrF=>
(if 0<=rF/\rF<(BY.2:Int) then
BY.1.bind λSg=>
aL Be.2 Sg.block (Sg.off+af rF*4) λxH Io XL rz=>
(run (Et base) 40 [(.agg #[(vI xH),(vI Io),(vT XL),(vL rz.1 rz.2)])] Be.2).bind λOx=>
gG (some Ox.1) 4 λub=>
cF ub λxJ E8 s38 xM=>
(wr base Ox.2 d19.block d19.off [(vI xJ),(vI E8),(vT s38),(vL xM.1 xM.2)]).bind λh40=>
aL h40 d19.block d19.off λWs La s43 LX=>
some ((.tuple #[(.agg #[(vI Ws),(vI La),(vT s43),(vL LX.1 LX.2)]),(.bool true)]),h40)
else none))
else
((if (jz==7)=true then
some (.inl ([some (vP (ae h)),some (vP (ae h1)),some (vP (ae h2)),some (vP (ae h3)),some (.bool (jz==7))],lZ))
else
some (.inl ([some (vP (ae h)),some (vP (ae h1)),some (vP (ae h2)),some (vP (ae h3)),some (.bool (jz==8))],lZ)))).bind λFo=>bH Fo λFo=>
Pm Fo.1 λd46 d47 d48 d49 b50=>
(if b50=true then
(gI (cell Fo.2 d49.block (d49.off+0)) λGU=>
(if (GU != 5)=true then
some (.inl ([some (vA d46),some (vA d48),some (vA d49),some (.bool true)],Fo.2))
else
gL (cell Fo.2 d49.block (d49.off+3)) λOj=>
some (.inl ([some (vA d46),some (vA d48),some (vA d49),some (.bool ((Oj.2:Int)==(0:Int)))],Fo.2)))).bind λM6=>bH M6 λM6=>
yV M6.1 λd54 d55 d56 b57=>
(if b57=true then
(wr base M6.2 d55.block d55.off [(vI 0),(vI 0),(vT (⟨#[]⟩:ByteArray)),(vL none 0)]).bind λh58=>
aL h58 d55.block d55.off λWu Wy s61 Lc=>
some ((.tuple #[(.agg #[(vI Wu),(vI Wy),(vT s61),(vL Lc.1 Lc.2)]),(.bool false)]),h58)
else
gI (cell M6.2 d54.block (d54.off+0)) λn63=>
(if (n63==7)=true then
gL (cell M6.2 d56.block (d56.off+3)) λl64=>
(if 0<=(0:Int)/\(0:Int)<(l64.2:Int) then
l64.1.bind λTr=>
aL M6.2 Tr.block (Tr.off+af (0:Int)*4) λLd UF s68 UL=>
(run (Et base) 40 [(.agg #[(vI Ld),(vI UF),(vT s68),(vL UL.1 UL.2)])] M6.2).bind λIw=>
gG (some Iw.1) 4 λZb=>
cF Zb λn72 Oy s74 Uv=>
(wr base Iw.2 d55.block d55.off [(vI n72),(vI Oy),(vT s74),(vL Uv.1 Uv.2)]).bind λh76=>
aL h76 d55.block d55.off λIh Y' s79 l80=>
some ((.tuple #[(.agg #[(vI Ih),(vI Y'),(vT s79),(vL l80.1 l80.2)]),(.bool true)]),h76)
else none)
else
gL (cell M6.2 d56.block (d56.off+3)) λGG=>
(if 0<=(1:Int)/\(1:Int)<=(GG.2:Int)/\(GG.2:Int)<=(GG.2:Int)/\jZ base M6.2 GG.1 56 (af (1:Int))=true then
(run (Et base) 81 [(.slice (dm GG.1 (af (1:Int)*4)) (af (GG.2:Int)-af (1:Int)) (af (GG.2:Int)-af (1:Int)))] M6.2).bind λE1=>
gL (some E1.1) λl83=>
(wr base E1.2 d55.block d55.off [(vI 5),(vI 0),(vT (⟨#[]⟩:ByteArray)),(vL l83.1 l83.2)]).bind λh84=>
aL h84 d55.block d55.off λn85 Of s87 WB=>
some ((.tuple #[(.agg #[(vI n85),(vI Of),(vT s87),(vL WB.1 WB.2)]),(.bool true)]),h84)
else none)))
else
gL (cell Fo.2 d47.block (d47.off+2)) λl89=>
gI (cell Fo.2 d46.block (d46.off+3)) λJc=>
(if 0<=Jc/\Jc<(l89.2:Int) then
l89.1.bind λa91=>
aL Fo.2 a91.block (a91.off+af Jc*4) λn92 n93 s94 l95=>
cR Fo.2 56 [(vI 0),(vI 0),(vT ⟨#[]⟩),(vL none 0)] λh96=>
(wr base h96 (ae Fo.2) 0 [(vI n92),(vI n93),(vT s94),(vL l95.1 l95.2)]).bind λh97=>
gI (cell h97 d49.block (d49.off+1)) λZd=>
gI (cell h97 (ae Fo.2) 1) λn99=>
(run (Et base) 117 [(vI (ag .i64 (Zd+n99)))] h97).bind λqV=>
gG (some qV.1) 4 λPw=>
cF Pw λCo uZ Ix r_=>
(gate (bc h97 qV.2 (some ⟨d49.block,(d49.off+0),none⟩) 1)
(gI (cell qV.2 d49.block (d49.off+0)) λCp=>
(if (Cp==1)=true then
gI (cell qV.2 (ae Fo.2) 0) λLi=>
(wr base qV.2 d48.block d48.off [(vI Co),(vI uZ),(vT Ix),(vL r_.1 r_.2)]).bind λX1=>
(gate (bc qV.2 X1 (some ⟨(ae Fo.2),0,none⟩) 1)
(aL X1 d48.block d48.off λze LY WD LZ=>
some ((.tuple #[(.agg #[(vI ze),(vI LY),(vT WD),(vL LZ.1 LZ.2)]),(.bool (Li==1))]),X1)))
else
(wr base qV.2 d48.block d48.off [(vI Co),(vI uZ),(vT Ix),(vL r_.1 r_.2)]).bind λad4=>
aL ad4 d48.block d48.off λL0 WG aka BT=>
some ((.tuple #[(.agg #[(vI L0),(vI WG),(vT aka),(vL BT.1 BT.2)]),(.bool false)]),ad4))))
else none)))
else none)
theorem akb{base:Nat}{aV:Int}{aW:Int}{aX:Int}{aY:Int}{cz:Int}{dy:ByteArray}{eO:Int}{eP:Int}{eQ:Option Addr}{fi:Nat}{eT:Option Addr}{dd:Nat}{gn:Option Addr}{fj:Nat}{h:AH}{r:Value×AH}(hx:ad0 base aV aW aX aY cz dy eO eP eQ fi eT dd gn fj h=some r):run (Et base) 119 [(.agg #[(vI aV),(vI aW),(vI aX),(vI aY),(vI cz),(vT dy)]),(.agg #[(vI eO),(vI eP),(vL eQ fi),(vL eT dd),(vL gn fj)])] h=some r:=cZ (an:=aaK) Tryz.func119 hx
def zw(base:Nat):Body:=gH base KO KQ [1,1,0,1,0,0] Tryz.f120 KP
theorem xX(base:Nat)(v0:Option Addr)(aB:Nat)(v1:Int)(v5:Option Addr)(tH:Nat)(v6:Int)(h:AH):zw base [some (vL v0 aB),some (vI v1),some (vL v5 tH),some (vI v6)] h =
((if decide (v6<(aB:Int))=true then
((if 0<=v6/\v6<(aB:Int) then
v0.bind λa2=>
gI (cell h a2.block (a2.off+af v6*1)) λn3=>
(if (n3 != v1)=true then
(if 0<=v6/\v6<(aB:Int) then
v0.bind λa4=>
gI (cell h a4.block (a4.off+af v6*1)) λn5=>
(some (h++[some ⟨[(vI n5)],3⟩])).bind λh6=>
(app base h6 3 1 8 v5 tH (br h6 (some ⟨(ae h),0,none⟩) (1*1)) 1).bind λp7=>
gL (some p7.1) λl8=>
some (.inl ([some (vL v0 aB),some (vI v1),some (vL l8.1 l8.2),some (vI v6)],p7.2))
else none)
else
some (.inl ([some (vL v0 aB),some (vI v1),some (vL v5 tH),some (vI v6)],h)))
else none)).bind λj1=>bH j1 λj1=>
gL (ay j1.1 0) λl9=>
gI (ay (j1.1.tail) 0) λfl=>
gL (ay (j1.1.tail.tail) 0) λfw=>
gI (ay (j1.1.tail.tail.tail) 0) λfS=>
some (0,[some (vL l9.1 l9.2),some (vI fl),some (vL fw.1 fw.2),some (vI (ag .i64 (fS+1)))],j1.2)
else
some (2,[some (vL v5 tH)],h)):OB):=by kernel_rfl
theorem akc{base:Nat}{v0:Option Addr}{aB:Nat}{v1:Int}{h:AH}{r:Value×AH}(hx:((some (h++[some ⟨[],3⟩])).bind λh1=>
(aF (zw base) [some (vL v0 aB),some (vI v1),some (.slice (some ⟨(ae h),0,none⟩) 0 0),some (vI 0)] h1).bind λq2=>
(if q2.1=2 then
gL (ay q2.2.1 0) λl3=>
some ((vL l3.1 l3.2),q2.2.2)
else
none))=some r):run (Et base) 120 [(vL v0 aB),(vI v1)] h=some r:=cZ (an:=aaL) Tryz.func120 hx
def vm(base:Nat):Body:=gH base KR KT [1,1,1,1,0,0,0] Tryz.f121 KS
theorem xY(base:Nat)(v1:Int)(v5:Option Addr)(tH:Nat)(v6:Int)(h:AH):vm base [some (vI v1),some (vL v5 tH),some (vI v6)] h =
(((if decide (v6>0)=true then
(if 0<=(ag .i64 (v6-1))/\(ag .i64 (v6-1))<(tH:Int) then
v5.bind λa2=>
gI (cell h a2.block (a2.off+af (ag .i64 (v6-1))*1)) λn3=>
some (.inl ([some (vI v1),some (vL v5 tH),some (vI v6),some (.bool (decide (n3>v1)))],h))
else none)
else
some (.inl ([some (vI v1),some (vL v5 tH),some (vI v6),some (.bool false)],h)))).bind λj1=>bH j1 λj1=>
gI (ay j1.1 0) λn4=>
gL (ay (j1.1.tail) 0) λl5=>
gI (ay (j1.1.tail.tail) 0) λn6=>
gB (ay (j1.1.tail.tail.tail) 0) λb7=>
(if b7=true then
(if 0<=(ag .i64 (n6-1))/\(ag .i64 (n6-1))<(l5.2:Int) then
l5.1.bind λa8=>
gI (cell j1.2 a8.block (a8.off+af (ag .i64 (n6-1))*1)) λn9=>
(if 0<=n6/\n6<(l5.2:Int) then
l5.1.bind λnt=>
(wr base j1.2 nt.block (nt.off+af n6*1) [(vI n9)]).bind λjc=>
some (0,[some (vI n4),some (vL l5.1 l5.2),some (vI (ag .i64 (n6-1)))],jc)
else none)
else none)
else
some (2,[some (vI n4),some (vL l5.1 l5.2),some (vI n6)],j1.2)):OB):=by kernel_rfl
theorem akd{base:Nat}{v0:Option Addr}{aB:Nat}{v1:Int}{h:AH}{r:Value×AH}(hx:((run (Et base) 86 [(vL v0 aB),(vI v1)] h).bind λr1=>
gB (some r1.1) λb2=>
(if b2=true then
some ((vL v0 aB),r1.2)
else
(some (r1.2++[some ⟨[],3⟩])).bind λh3=>
(app base h3 3 1 8 (some ⟨(ae r1.2),0,none⟩) 0 (br h3 v0 (aB*1)) aB).bind λp4=>
gL (some p4.1) λl5=>
(some (p4.2++[some ⟨[(vI v1)],3⟩])).bind λh6=>
(app base h6 3 1 8 l5.1 l5.2 (br h6 (some ⟨(ae p4.2),0,none⟩) (1*1)) 1).bind λp7=>
gL (some p7.1) λl8=>
(aF (vm base) [some (vI v1),some (vL l8.1 l8.2),some (.int .i64 (ag .i64 ((l8.2:Int)-(1:Int))))] p7.2).bind λq9=>
(if q9.1=2 then
gI (ay q9.2.1 0) λfl=>
gL (ay (q9.2.1.tail) 0) λfw=>
gI (ay (q9.2.1.tail.tail) 0) λfS=>
(if 0<=fS/\fS<(fw.2:Int) then
fw.1.bind λmy=>
(wr base q9.2.2 my.block (my.off+af fS*1) [(vI fl)]).bind λA5=>
some ((vL fw.1 fw.2),A5)
else none)
else
none)))=some r):run (Et base) 121 [(vL v0 aB),(vI v1)] h=some r:=cZ (an:=aaM) Tryz.func121 hx
end
end Go.Proofs.YtkdenmdijdmnjaaGreat.Am
