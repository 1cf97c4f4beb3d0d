/- What each of these functions comes to on the abstract machine, one equation a function and one a loop.
Conditions: none. -/
import Derived.Test.YtkdenmdijdmnjaaGreatTb
set_option linter.unusedVariables false
set_option maxRecDepth 100000
namespace Go.Proofs.YtkdenmdijdmnjaaGreat.Am
open Go Go.RowKit
open _root_.Go.IntKind renaming wrap->ag
open _root_.Int renaming toNat->af
open _root_.List renaming length->ae,set->GZ
noncomputable section
abbrev ajB(base:Nat)(aV:Int)(aW:Int)(aX:Int)(aY:Int)(cz:Int)(dy:ByteArray)(v1:Option Addr)(gW:Nat)(v2:Int)(h:AH):OV:=
cR h 89 [(vI aV),(vI aW),(vI aX),(vI aY),(vI cz),(vT dy)] λh1=>
cR h1 58 [(vI 0),(vI 0),(vI 0),(vI 0),(vI 0),(vT ⟨#[]⟩),(vL none 0)] λh2=>
gI (cell h2 (ae h) 1) λn3=>
(if 0<=n3/\n3<(gW:Int) then
v1.bind λa4=>
aL h2 a4.block (a4.off+af n3*4) λn5 n6 s7 l8=>
cR h2 56 [(vI 0),(vI 0),(vT ⟨#[]⟩),(vL none 0)] λh9=>
(wr base h9 (ae h2) 0 [(vI n5),(vI n6),(vT s7),(vL l8.1 l8.2)]).bind λiO=>
gI (cell iO (ae h) 0) λeV=>
(if (eV==13)=true then
gI (cell iO (ae h2) 1) λfS=>
gI (cell iO (ae h) 2) λjz=>
(if 0<=jz/\jz<(gW:Int) then
v1.bind λsY=>
aL iO sY.block (sY.off+af jz*4) λqj lC s17 pu=>
(run (Et base) 62 [(.agg #[(vI qj),(vI lC),(vT s17),(vL pu.1 pu.2)])] iO).bind λpP=>
gG (some pP.1) 4 λkH=>
cF kH λtE pO XK kJ=>
(gate (bc iO pP.2 (some ⟨(ae h2),1,none⟩) 1)
((gate (bc iO pP.2 (some ⟨(ae h2),0,none⟩) 1)
(gI (cell pP.2 (ae h2) 0) λnA=>
(wr base pP.2 (ae h1) 0 [(vI 3),(vI fS),(vI 0),(vI tE),(vI pO),(vT XK),(vL kJ.1 kJ.2)]).bind λWj=>
(gate (bc pP.2 Wj (some ⟨(ae h2),0,none⟩) 1)
(bu Wj (ae h1) 0 λuc rF wz xH Io XL rz=>
some ((.tuple #[(.agg #[(vI uc),(vI rF),(vI wz),(vI xH),(vI Io),(vT XL),(vL rz.1 rz.2)]),(.bool (nA==3))]),Wj)))))))
else none)
else
(if (eV==16)=true then
gI (cell iO (ae h) 4) λOh=>
gI (cell iO (ae h) 2) λqm=>
(if 0<=qm/\qm<(gW:Int) then
v1.bind λEU=>
aL iO EU.block (EU.off+af qm*4) λE8 Oi s39 wa=>
(run (Et base) 62 [(.agg #[(vI E8),(vI Oi),(vT s39),(vL wa.1 wa.2)])] iO).bind λud=>
gG (some ud.1) 4 λJd=>
cF Jd λE9 UB Wt yY=>
(gate (bc iO ud.2 (some ⟨(ae h),4,none⟩) 1)
((wr base ud.2 (ae h1) 0 [(vI 4),(vI v2),(vI Oh),(vI E9),(vI UB),(vT Wt),(vL yY.1 yY.2)]).bind λP9=>
bu P9 (ae h1) 0 λLN E0 Ot Wx GU s53 l54=>
some ((.tuple #[(.agg #[(vI LN),(vI E0),(vI Ot),(vI Wx),(vI GU),(vT s53),(vL l54.1 l54.2)]),(.bool true)]),P9)))
else none)
else
(if (eV==17)=true then
aL iO (ae h2) 0 λOm On s57 Ut=>
(run (Et base) 62 [(.agg #[(vI Om),(vI On),(vT s57),(vL Ut.1 Ut.2)])] iO).bind λr59=>
gG (some r59.1) 4 λl60=>
cF l60 λn61 n62 s63 l64=>
(wr base r59.2 (ae h1) 0 [(vI 5),(vI 0),(vI 0),(vI n61),(vI n62),(vT s63),(vL l64.1 l64.2)]).bind λh65=>
bu h65 (ae h1) 0 λLd UF UG n69 n70 s71 UH=>
some ((.tuple #[(.agg #[(vI Ld),(vI UF),(vI UG),(vI n69),(vI n70),(vT s71),(vL UH.1 UH.2)]),(.bool true)]),h65)
else
(if (eV==18)=true then
gI (cell iO (ae h2) 1) λOy=>
gI (cell iO (ae h2) 0) λPK=>
(wr base iO (ae h1) 0 [(vI 6),(vI Oy),(vI 0),(vI 0),(vI 0),(vT (⟨#[]⟩:ByteArray)),(vL none 0)]).bind λh75=>
(gate (bc iO h75 (some ⟨(ae h2),0,none⟩) 1)
(bu h75 (ae h1) 0 λPu Ih Y' n79 n80 s81 l82=>
some ((.tuple #[(.agg #[(vI Pu),(vI Ih),(vI Y'),(vI n79),(vI n80),(vT s81),(vL l82.1 l82.2)]),(.bool (PK==3))]),h75)))
else
(if (eV==19)=true then
aL iO (ae h2) 0 λn83 n84 s85 UN=>
(run (Et base) 62 [(.agg #[(vI n83),(vI n84),(vT s85),(vL UN.1 UN.2)])] iO).bind λr87=>
gG (some r87.1) 4 λWB=>
cF WB λn89 Jc s91 l92=>
(wr base r87.2 (ae h1) 0 [(vI 7),(vI 0),(vI 0),(vI n89),(vI Jc),(vT s91),(vL l92.1 l92.2)]).bind λh93=>
bu h93 (ae h1) 0 λn94 Pv UI n97 Zd s99 BS=>
some ((.tuple #[(.agg #[(vI n94),(vI Pv),(vI UI),(vI n97),(vI Zd),(vT s99),(vL BS.1 BS.2)]),(.bool true)]),h93)
else
(wr base iO (ae h1) 0 [(vI 1),(vI 0),(vI 0),(vI 0),(vI 0),(vT (⟨#[]⟩:ByteArray)),(vL none 0)]).bind λMM=>
bu MM (ae h1) 0 λCo uZ Xj XQ Cp ajC adP=>
some ((.tuple #[(.agg #[(vI Co),(vI uZ),(vI Xj),(vI XQ),(vI Cp),(vT ajC),(vL adP.1 adP.2)]),(.bool true)]),MM))))))
else none)
theorem XM{base:Nat}{aV:Int}{aW:Int}{aX:Int}{aY:Int}{cz:Int}{dy:ByteArray}{v1:Option Addr}{gW:Nat}{v2:Int}{h:AH}{r:Value×AH}(hx:ajB base aV aW aX aY cz dy v1 gW v2 h=some r):run (Et base) 57 [(.agg #[(vI aV),(vI aW),(vI aX),(vI aY),(vI cz),(vT dy)]),(vL v1 gW),(vI v2)] h=some r:=cZ (an:=a57) Tryz.func57 hx
theorem r58{base:Nat}  {h:AH}{r:Value×AH}(hx:((some (h++[some ⟨[(vI 0),(vI 0),(vI 0),(vI 0),(vI 0),(.string ⟨#[]⟩),(vL none 0)],58⟩])).bind λh1=>
(run (Et base) 66 [(.string (⟨#[102,97,117,108,116]⟩:ByteArray))] h1).bind λr2=>
((some r2.1).bind (ig 4)).bind λl3=>
gI (l3[0]?) λn4=>
gI (l3[1]?) λn5=>
gT (l3[2]?) λs6=>
gL (l3[3]?) λl7=>
(wr base r2.2 (ae h) 0 [(vI 7),(vI 0),(vI 0),(vI n4),(vI n5),(.string s6),(vL l7.1 l7.2)]).bind λh8=>
gI (cell h8 (ae h) 0) λn9=>
gI (cell h8 (ae h) 1) λfl=>
gI (cell h8 (ae h) 2) λeV=>
gI (cell h8 (ae h) 3) λfS=>
gI (cell h8 (ae h) 4) λjz=>
gT (cell h8 (ae h) 5) λE_=>
gL (cell h8 (ae h) 6) λhK=>
some ((.agg #[(vI n9),(vI fl),(vI eV),(vI fS),(vI jz),(.string E_),(vL hK.1 hK.2)]),h8))=some r):run (Et base) 58 [] h=some r:=cZ (an:=a58) Tryz.func58 hx
theorem r59{base:Nat}{v0:Int}{h:AH}{r:Value×AH}(hx:(((if (v0==10)=true then
some (.inl ([some (.bool (v0==10))],h))
else
(if (v0==11)=true then
some (.inl ([some (.bool (v0==11))],h))
else
(if (v0==12)=true then
some (.inl ([some (.bool (v0==12))],h))
else
(if (v0==13)=true then
some (.inl ([some (.bool (v0==13))],h))
else
(if (v0==17)=true then
some (.inl ([some (.bool (v0==17))],h))
else
(if (v0==18)=true then
some (.inl ([some (.bool (v0==18))],h))
else
some (.inl ([some (.bool (v0==19))],h))))))))).bind λj1=>bH j1 λj1=>
gB (ay j1.1 0) λb2=>
(if b2=true then
some ((.bool false),j1.2)
else
some ((.bool true),j1.2)))=some r):run (Et base) 59 [(vI v0)] h=some r:=cZ (an:=a59) Tryz.func59 hx
abbrev ajD(base:Nat)(aV:Int)(aW:Int)(aX:Int)(aY:Int)(cz:Int)(dy:ByteArray)(v1:Option Addr)(gW:Nat)(v2:Int)(v3:Int)(h:AH):OV:=
cR h 89 [(vI aV),(vI aW),(vI aX),(vI aY),(vI cz),(vT dy)] λh1=>
cR h1 56 [(vI 0),(vI 0),(vT ⟨#[]⟩),(vL none 0)] λh2=>
gI (cell h2 (ae h) 2) λn3=>
(if 0<=n3/\n3<(gW:Int) then
v1.bind λa4=>
aL h2 a4.block (a4.off+af n3*4) λn5 n6 s7 l8=>
gI (cell h2 (ae h) 3) λn9=>
(if 0<=n9/\n9<(gW:Int) then
v1.bind λnt=>
aL h2 nt.block (nt.off+af n9*4) λeV fS Fg eU=>
(gate (fP (some ⟨nt.block,(nt.off+af n9*4),none⟩) (ae h2))
((gate (fP (some ⟨(ae h),3,none⟩) (ae h2))
((gate (fP (some ⟨a4.block,(a4.off+af n3*4),none⟩) (ae h2))
((gate (fP (some ⟨(ae h),2,none⟩) (ae h2))
(cR h2 56 [(vI 0),(vI 0),(vT ⟨#[]⟩),(vL none 0)] λpx=>
(gate (fP (some ⟨nt.block,(nt.off+af n9*4),none⟩) (ae px))
((gate (fP (some ⟨(ae h),3,none⟩) (ae px))
((gate (fP (some ⟨a4.block,(a4.off+af n3*4),none⟩) (ae px))
((gate (fP (some ⟨(ae h),2,none⟩) (ae px))
(cR px 56 [(vI 0),(vI 0),(vT ⟨#[]⟩),(vL none 0)] λCn=>
(wr base Cn (ae h2) 0 [(vI n5),(vI n6),(vT s7),(vL l8.1 l8.2)]).bind λtc=>
(gate (bc Cn tc (some ⟨nt.block,(nt.off+af n9*4),none⟩) 4)
((gate (bc Cn tc (some ⟨(ae h),3,none⟩) 1)
((wr base tc (ae px) 0 [(vI eV),(vI fS),(vT Fg),(vL eU.1 eU.2)]).bind λku=>
gI (cell ku (ae h) 0) λlh=>
(if (lh==1)=true then
gI (cell ku (ae h) 4) λpK=>
(wr base ku (ae h1) 0 [(vI 1),(vI pK),(vT (⟨#[]⟩:ByteArray)),(vL none 0)]).bind λY9=>
aL Y9 (ae h1) 0 λpO qR s24 Ba=>
some ((.tuple #[(.agg #[(vI pO),(vI qR),(vT s24),(vL Ba.1 Ba.2)]),(.bool true)]),Y9)
else
(if (lh==2)=true then
gT (cell ku (ae h) 5) λs26=>
(run (Et base) 66 [(vT s26)] ku).bind λFf=>
gG (some Ff.1) 4 λry=>
cF ry λwz xH s31 qk=>
(wr base Ff.2 (ae h1) 0 [(vI wz),(vI xH),(vT s31),(vL qk.1 qk.2)]).bind λB9=>
aL B9 (ae h1) 0 λOh qm s36 uY=>
some ((.tuple #[(.agg #[(vI Oh),(vI qm),(vT s36),(vL uY.1 uY.2)]),(.bool true)]),B9)
else
(if (lh==20)=true then
(wr base ku (ae h1) 0 [(vI 5),(vI 0),(vT (⟨#[]⟩:ByteArray)),(vL none 0)]).bind λY4=>
aL Y4 (ae h1) 0 λLM LH s41 Jd=>
some ((.tuple #[(.agg #[(vI LM),(vI LH),(vT s41),(vL Jd.1 Jd.2)]),(.bool true)]),Y4)
else
(if (lh==3)=true then
aL ku (ae h2) 0 λE9 UB Wt yY=>
(wr base ku (ae h1) 0 [(vI E9),(vI UB),(vT Wt),(vL yY.1 yY.2)]).bind λP9=>
aL P9 (ae h1) 0 λLN E0 s50 LO=>
some ((.tuple #[(.agg #[(vI LN),(vI E0),(vT s50),(vL LO.1 LO.2)]),(.bool true)]),P9)
else
(if (lh==4)=true then
gI (cell ku (ae h) 2) λGU=>
gI (cell ku (ae h) 2) λCt=>
gI (cell ku (ae h) 4) λtF=>
(if 0<=GU/\GU<=(ag .i64 (Ct+tF))/\(ag .i64 (Ct+tF))<=(gW:Int)/\jZ base ku v1 56 (af GU)=true then
(wr base ku (ae h1) 0 [(vI 4),(vI 0),(vT (⟨#[]⟩:ByteArray)),(.slice (dm v1 (af GU*4)) (af (ag .i64 (Ct+tF))-af GU) (af (ag .i64 (Ct+tF))-af GU))]).bind λh55=>
aL h55 (ae h1) 0 λOn Ps s58 Lb=>
some ((.tuple #[(.agg #[(vI On),(vI Ps),(vT s58),(vL Lb.1 Lb.2)]),(.bool true)]),h55)
else none)
else
(if (lh==5)=true then
aL ku (ae h2) 0 λWy n61 s62 UK=>
cR ku 56 [(vI Wy),(vI n61),(vT s62),(vL UK.1 UK.2)] λh64=>
(gate (fP (some ⟨(ae px),3,none⟩) (ae ku))
(gL (cell h64 (ae px) 3) λl65=>
(app base h64 56 4 56 (some ⟨(ae ku),0,none⟩) 1 (br h64 l65.1 (l65.2*4)) l65.2).bind λp66=>
gL (some p66.1) λl67=>
(gate (fP (some ⟨(ae px),0,none⟩) (ae ku))
((gate (bc h64 p66.2 (some ⟨(ae px),0,none⟩) 1)
(gI (cell p66.2 (ae px) 0) λUG=>
(wr base p66.2 (ae h1) 0 [(vI 5),(vI 0),(vT (⟨#[]⟩:ByteArray)),(vL l67.1 l67.2)]).bind λh69=>
(gate (bc p66.2 h69 (some ⟨(ae px),0,none⟩) 1)
(aL h69 (ae h1) 0 λn70 n71 s72 l73=>
some ((.tuple #[(.agg #[(vI n70),(vI n71),(vT s72),(vL l73.1 l73.2)]),(.bool (UG==5))]),h69)))))))))
else
(if (lh==6)=true then
(gI (cell ku (ae h2) 0) λWz=>
(if (Wz != 4)=true then
some (.inl ([some (vP (ae h)),some (vP (ae h1)),some (vP (ae h2)),some (.bool true)],ku))
else
gI (cell ku (ae h) 4) λPu=>
gL (cell ku (ae h2) 3) λWk=>
some (.inl ([some (vP (ae h)),some (vP (ae h1)),some (vP (ae h2)),some (.bool (decide (Pu>=(Wk.2:Int))))],ku)))).bind λUR=>bH UR λUR=>
yV UR.1 λd78 d79 d80 b81=>
(if b81=true then
(wr base UR.2 d79.block d79.off [(vI 0),(vI 0),(vT (⟨#[]⟩:ByteArray)),(vL none 0)]).bind λWA=>
aL WA d79.block d79.off λn83 n84 s85 UN=>
some ((.tuple #[(.agg #[(vI n83),(vI n84),(vT s85),(vL UN.1 UN.2)]),(.bool false)]),WA)
else
gL (cell UR.2 d80.block (d80.off+3)) λUz=>
gI (cell UR.2 d78.block (d78.off+4)) λXh=>
(if 0<=Xh/\Xh<(Uz.2:Int) then
Uz.1.bind λa89=>
aL UR.2 a89.block (a89.off+af Xh*4) λJc n91 s92 Lf=>
(wr base UR.2 d79.block d79.off [(vI Jc),(vI n91),(vT s92),(vL Lf.1 Lf.2)]).bind λh94=>
aL h94 d79.block d79.off λPv UI s97 UA=>
some ((.tuple #[(.agg #[(vI Pv),(vI UI),(vT s97),(vL UA.1 UA.2)]),(.bool true)]),h94)
else none))
else
((if (lh==7)=true then
some (.inl ([some (vI v2),some (vI v3),some (vP (ae h)),some (vP (ae h1)),some (vP (ae h2)),some (vP (ae px)),some (vI lh),some (.bool (lh==7))],ku))
else
some (.inl ([some (vI v2),some (vI v3),some (vP (ae h)),some (vP (ae h1)),some (vP (ae h2)),some (vP (ae px)),some (vI lh),some (.bool (lh==8))],ku)))).bind λEh=>bH Eh λEh=>
EY Eh.1 λajE WC d102 d103 d104 d105 Cp ajF=>
(if ajF=true then
(gI (cell Eh.2 d104.block (d104.off+0)) λze=>
(if (ze != 5)=true then
some (.inl ([some (vA d102),some (vA d103),some (vA d104),some (.bool true)],Eh.2))
else
gL (cell Eh.2 d104.block (d104.off+3)) λajG=>
some (.inl ([some (vA d102),some (vA d103),some (vA d104),some (.bool ((ajG.2:Int)==(0:Int)))],Eh.2)))).bind λvf=>bH vf λvf=>
yV vf.1 λd111 d112 d113 XR=>
(if XR=true then
(wr base vf.2 d112.block d112.off [(vI 0),(vI 0),(vT (⟨#[]⟩:ByteArray)),(vL none 0)]).bind λMC=>
aL MC d112.block d112.off λWm MD ajH ME=>
some ((.tuple #[(.agg #[(vI Wm),(vI MD),(vT ajH),(vL ME.1 ME.2)]),(.bool false)]),MC)
else
gI (cell vf.2 d111.block (d111.off+0)) λL2=>
(if (L2==7)=true then
gL (cell vf.2 d113.block (d113.off+3)) λBU=>
(if 0<=(0:Int)/\(0:Int)<(BU.2:Int) then
BU.1.bind λKU=>
aL vf.2 KU.block (KU.off+af (0:Int)*4) λFa MF ajI BV=>
(wr base vf.2 d112.block d112.off [(vI Fa),(vI MF),(vT ajI),(vL BV.1 BV.2)]).bind λIi=>
aL Ii d112.block d112.off λLo L7 ajJ E5=>
some ((.tuple #[(.agg #[(vI Lo),(vI L7),(vT ajJ),(vL E5.1 E5.2)]),(.bool true)]),Ii)
else none)
else
gL (cell vf.2 d113.block (d113.off+3)) λrY=>
(if 0<=(1:Int)/\(1:Int)<=(rY.2:Int)/\(rY.2:Int)<=(rY.2:Int)/\jZ base vf.2 rY.1 56 (af (1:Int))=true then
(wr base vf.2 d112.block d112.off [(vI 5),(vI 0),(vT (⟨#[]⟩:ByteArray)),(.slice (dm rY.1 (af (1:Int)*4)) (af (rY.2:Int)-af (1:Int)) (af (rY.2:Int)-af (1:Int)))]).bind λadQ=>
aL adQ d112.block d112.off λLr WH ajK Lt=>
some ((.tuple #[(.agg #[(vI Lr),(vI WH),(vT ajK),(vL Lt.1 Lt.2)]),(.bool true)]),adQ)
else none)))
else
(if (Cp==9)=true then
gI (cell Eh.2 d104.block (d104.off+1)) λIq=>
gI (cell Eh.2 d105.block (d105.off+1)) λPX=>
gI (cell Eh.2 d104.block (d104.off+0)) λXp=>
(if (Xp==1)=true then
gI (cell Eh.2 d105.block (d105.off+0)) λE6=>
(wr base Eh.2 d103.block d103.off [(vI 1),(vI (ag .i64 (Iq+PX))),(vT (⟨#[]⟩:ByteArray)),(vL none 0)]).bind λXS=>
(gate (bc Eh.2 XS (some ⟨d105.block,(d105.off+0),none⟩) 1)
(aL XS d103.block d103.off λWJ ajL ajM adR=>
some ((.tuple #[(.agg #[(vI WJ),(vI ajL),(vT ajM),(vL adR.1 adR.2)]),(.bool (E6==1))]),XS)))
else
(wr base Eh.2 d103.block d103.off [(vI 1),(vI (ag .i64 (Iq+PX))),(vT (⟨#[]⟩:ByteArray)),(vL none 0)]).bind λadS=>
aL adS d103.block d103.off λajN Wo ajO Lz=>
some ((.tuple #[(.agg #[(vI ajN),(vI Wo),(vT ajO),(vL Lz.1 Lz.2)]),(.bool false)]),adS))
else
(if (Cp==15)=true then
(wr base Eh.2 d103.block d103.off [(vI 3),(vI ajE),(vT (⟨#[]⟩:ByteArray)),(vL none 0)]).bind λadT=>
aL adT d103.block d103.off λLA Xq Xr MH=>
some ((.tuple #[(.agg #[(vI LA),(vI Xq),(vT Xr),(vL MH.1 MH.2)]),(.bool true)]),adT)
else
(wr base Eh.2 d103.block d103.off [(vI 3),(vI WC),(vT (⟨#[]⟩:ByteArray)),(vL none 0)]).bind λIj=>
aL Ij d103.block d103.off λy9 WN ajP BW=>
some ((.tuple #[(.agg #[(vI y9),(vI WN),(vT ajP),(vL BW.1 BW.2)]),(.bool true)]),Ij)))))))))))))))))))))))))))))))
else none)
else none)
theorem MB{base:Nat}{aV:Int}{aW:Int}{aX:Int}{aY:Int}{cz:Int}{dy:ByteArray}{v1:Option Addr}{gW:Nat}{v2:Int}{v3:Int}{h:AH}{r:Value×AH}(hx:ajD base aV aW aX aY cz dy v1 gW v2 v3 h=some r):run (Et base) 60 [(.agg #[(vI aV),(vI aW),(vI aX),(vI aY),(vI cz),(vT dy)]),(vL v1 gW),(vI v2),(vI v3)] h=some r:=cZ (an:=a60) Tryz.func60 hx
theorem r61{base:Nat}{aV:Int}{aW:Int}{aX:ByteArray}{aY:Option Addr}{aR:Nat}{h:AH}{r:Value×AH}(hx:((some (h++[some ⟨[(.int .i64 aV),(.int .i64 aW),(.string aX),(.slice aY aR aR)],56⟩])).bind λh1=>
((cell h1 (ae h) 0).bind (au .i64)).bind λn2=>
((cell h1 (ae h) 1).bind (au .i64)).bind λn3=>
((cell h1 (ae h) 2).bind aK).bind λs4=>
((cell h1 (ae h) 3).bind aN).bind λl5=>
(run (Et base) 104 [(.agg #[(.int .i64 n2),(.int .i64 n3),(.string s4),(.slice l5.1 l5.2 l5.2)]),(.int .i64 (1:Int)),(.int .i64 (0:Int))] h1).bind λr6=>
(cM 2 r6.1).bind λl7=>
((l7[0]?).bind (au .i64)).bind λn8=>
((l7[1]?).bind aO).bind λb9=>
some ((.bool b9),r6.2))=some r):run (Et base) 61 [(.agg #[(vI aV),(vI aW),(vT aX),(vL aY aR)])] h=some r:=cZ (an:=a61) Tryz.func61 hx
theorem r62{base:Nat}{aV:Int}{aW:Int}{aX:ByteArray}{aY:Option Addr}{aR:Nat}{h:AH}{r:Value×AH}(hx:((some (h++[some ⟨[(.int .i64 aV),(.int .i64 aW),(.string aX),(.slice aY aR aR)],56⟩])).bind λh1=>
(some (h1++[some ⟨[(.int .i64 0),(.int .i64 0),(.string ⟨#[]⟩),(.slice none 0 0)],56⟩])).bind λh2=>
((cell h2 (ae h) 3).bind aN).bind λl3=>
(run (Et base) 99 [(.slice l3.1 l3.2 l3.2)] h2).bind λr4=>
((some r4.1).bind aN).bind λl5=>
(wr base r4.2 (ae h) 3 [(.slice l5.1 l5.2 l5.2)]).bind λh6=>
((cell h6 (ae h) 0).bind (au .i64)).bind λn7=>
((cell h6 (ae h) 1).bind (au .i64)).bind λn8=>
((cell h6 (ae h) 2).bind aK).bind λs9=>
((cell h6 (ae h) 3).bind aN).bind λep=>
(wr base h6 (ae h1) 0 [(.int .i64 n7),(.int .i64 n8),(.string s9),(.slice ep.1 ep.2 ep.2)]).bind λjc=>
((cell jc (ae h1) 0).bind (au .i64)).bind λfS=>
((cell jc (ae h1) 1).bind (au .i64)).bind λjz=>
((cell jc (ae h1) 2).bind aK).bind λE_=>
((cell jc (ae h1) 3).bind aN).bind λhK=>
some ((.agg #[(.int .i64 fS),(.int .i64 jz),(.string E_),(.slice hK.1 hK.2 hK.2)]),jc))=some r):run (Et base) 62 [(.agg #[(vI aV),(vI aW),(vT aX),(vL aY aR)])] h=some r:=cZ (an:=a62) Tryz.func62 hx
theorem r63{base:Nat}{aV:Int}{aW:Int}{aX:Int}{aY:Int}{cz:Int}{dy:ByteArray}{v1:Option Addr}{gW:Nat}{h:AH}{r:Value×AH}(hx:(cR h 89 [(vI aV),(vI aW),(vI aX),(vI aY),(vI cz),(vT dy)] λh1=>
gI (cell h1 (ae h) 0) λn2=>
(if (n2==10)=true then
gI (cell h1 (ae h) 1) λn3=>
(if 0<=n3/\n3<(gW:Int) then
v1.bind λa4=>
aL h1 a4.block (a4.off+af n3*4) λn5 n6 s7 l8=>
gI (cell h1 (ae h) 2) λn9=>
(if 0<=n9/\n9<(gW:Int) then
v1.bind λnt=>
aL h1 nt.block (nt.off+af n9*4) λeV fS Fg eU=>
(run (Et base) 105 [(.agg #[(vI n5),(vI n6),(vT s7),(vL l8.1 l8.2)]),(.agg #[(vI eV),(vI fS),(vT Fg),(vL eU.1 eU.2)])] h1).bind λjR=>
gB (some jR.1) λrZ=>
some ((.bool (!rZ)),jR.2)
else none)
else none)
else
(if (n2==11)=true then
gI (cell h1 (ae h) 1) λnL=>
(if 0<=nL/\nL<(gW:Int) then
v1.bind λnu=>
gI (cell h1 nu.block ((nu.off+af nL*4)+0)) λlh=>
gI (cell h1 (ae h) 2) λpK=>
some ((.bool (lh != pK)),h1)
else none)
else
gI (cell h1 (ae h) 0) λtE=>
some ((.bool (tE==12)),h1))))=some r):run (Et base) 63 [(.agg #[(vI aV),(vI aW),(vI aX),(vI aY),(vI cz),(vT dy)]),(vL v1 gW)] h=some r:=cZ (an:=a63) Tryz.func63 hx
abbrev ajQ(base:Nat)(v0:Option Addr)(v1:Int)(fB:Int)(fC:Int)(fD:ByteArray)(fE:Option Addr)(fa:Nat)(h:AH):OV:=
cR h 56 [(vI fB),(vI fC),(vT fD),(vL fE fa)] λh1=>
(run (Et base) 24 [(.pointer v0),(vI v1)] h1).bind λr2=>
gI (some r2.1) λn3=>
((if decide (n3<0)=true then
some (.inl ([some (.pointer v0),some (vP (ae h)),some (vI n3),some (.bool true)],r2.2))
else
(v0).bind λa5=>
gL (cell r2.2 a5.block (a5.off+1)) λl6=>
(if 0<=n3/\n3<(l6.2:Int) then
l6.1.bind λa7=>
gL (cell r2.2 a7.block ((a7.off+af n3*5)+3)) λl8=>
some (.inl ([some (.pointer v0),some (vP (ae h)),some (vI n3),some (.bool (decide ((l8.2:Int)>=(30:Int))))],r2.2))
else none))).bind λj4=>bH j4 λj4=>
K6 j4.1 λp9 d10 eV wy=>
(if wy=true then
some ((.bool false),j4.2)
else
(gate (Jn (Et base) 25 26 4 (aeS (BH [1,1,1,0,0] (Ri Tryz.f64))))
((gate ((((p9).bind λmy=>
gL (cell (j4.2++[none]) my.block (my.off+1)) λeU=>
(if 0<=eV/\eV<(eU.2:Int) then
eU.1.bind λEc=>
gL (cell (j4.2++[none]) Ec.block ((Ec.off+af eV*5)+3)) λkt=>
gI (cell (j4.2++[none]) d10.block d10.off) λnL=>
gI (cell (j4.2++[none]) d10.block (d10.off+1)) λlE=>
gT (cell (j4.2++[none]) d10.block ((d10.off+1)+1)) λP8=>
gL (cell (j4.2++[none]) d10.block (((d10.off+1)+1)+1)) λkH=>
(run (Et base) 62 [(.agg #[(vI nL),(vI lE),(vT P8),(vL kH.1 kH.2)])] (j4.2++[none])).bind λnM=>
gG (some nM.1) 4 λmR=>
cF mR λqR rD Iu pv=>
(gate (bc (j4.2++[none]) nM.2 (some ⟨Ec.block,((Ec.off+af eV*5)+3),none⟩) 1)
((gate (bc (j4.2++[none]) nM.2 (some ⟨my.block,(my.off+1),none⟩) 1)
((gate (fP (some d10) (ae nM.2))
((gate (fP (some ⟨Ec.block,((Ec.off+af eV*5)+3),none⟩) (ae nM.2))
((gate (fP (some ⟨my.block,(my.off+1),none⟩) (ae nM.2))
(cR nM.2 56 [(vI 0),(vI 0),(vT (⟨#[]⟩:ByteArray)),(vL none 0)] λGD=>
(app base GD 56 4 56 kt.1 kt.2 (br GD (some ⟨(ae nM.2),0,none⟩) (1*4)) 1).bind λUP=>
gL (some UP.1) λua=>
(if 0<=eV/\eV<(eU.2:Int) then
eU.1.bind λA2=>
(wr base UP.2 A2.block ((A2.off+af eV*5)+3) [(vL ua.1 ua.2)]).bind λI'=>
(if 0<=(kt.2:Int)/\(kt.2:Int)<(ua.2:Int) then
ua.1.bind λGC=>
(wr base I' GC.block (GC.off+af (kt.2:Int)*4) [(vI qR),(vI rD),(vT Iu),(vL pv.1 pv.2)]).bind λB9=>
some ((.bool true),(GZ B9 (ae nM.2) none))
else none)
else none)))))))))))
else none):OV))
=
((p9).bind λxE=>
gL (cell (j4.2++[none]) xE.block (xE.off+1)) λub=>
(p9).bind λEU=>
gL (cell (j4.2++[none]) EU.block (EU.off+1)) λuY=>
(if 0<=eV/\eV<(uY.2:Int) then
uY.1.bind λA3=>
gL (cell (j4.2++[none]) A3.block ((A3.off+af eV*5)+3)) λxM=>
gI (cell (j4.2++[none]) d10.block d10.off) λLH=>
gI (cell (j4.2++[none]) d10.block (d10.off+1)) λWs=>
gT (cell (j4.2++[none]) d10.block ((d10.off+1)+1)) λs42=>
gL (cell (j4.2++[none]) d10.block (((d10.off+1)+1)+1)) λxK=>
(run (Et base) 62 [(.agg #[(vI LH),(vI Ws),(vT s42),(vL xK.1 xK.2)])] (j4.2++[none])).bind λwc=>
gG (some wc.1) 4 λEZ=>
cF EZ λn46 xL s48 US=>
(gate (bc (j4.2++[none]) wc.2 (some ⟨A3.block,((A3.off+af eV*5)+3),none⟩) 1)
((gate (bc (j4.2++[none]) wc.2 (some ⟨EU.block,(EU.off+1),none⟩) 1)
((gate (bc (j4.2++[none]) wc.2 (some ⟨xE.block,(xE.off+1),none⟩) 1)
((gate (fP (some ⟨A3.block,((A3.off+af eV*5)+3),none⟩) (ae wc.2))
((gate (fP (some ⟨EU.block,(EU.off+1),none⟩) (ae wc.2))
((gate (fP (some ⟨xE.block,(xE.off+1),none⟩) (ae wc.2))
(cR wc.2 56 [(vI n46),(vI xL),(vT s48),(vL US.1 US.2)] λUJ=>
(app base UJ 56 4 56 xM.1 xM.2 (br UJ (some ⟨(ae wc.2),0,none⟩) (1*4)) 1).bind λp51=>
gL (some p51.1) λA8=>
(gate (bc UJ p51.2 (some ⟨xE.block,(xE.off+1),none⟩) 1)
((if 0<=eV/\eV<(ub.2:Int) then
ub.1.bind λTc=>
(wr base p51.2 Tc.block ((Tc.off+af eV*5)+3) [(vL A8.1 A8.2)]).bind λh54=>
some ((.bool true),(GZ h54 (ae wc.2) none))
else none)))))))))))))))
else none)))
((p9).bind λmy=>
gL (cell (j4.2++[none]) my.block (my.off+1)) λeU=>
(if 0<=eV/\eV<(eU.2:Int) then
eU.1.bind λEc=>
gL (cell (j4.2++[none]) Ec.block ((Ec.off+af eV*5)+3)) λkt=>
gI (cell (j4.2++[none]) d10.block d10.off) λnL=>
gI (cell (j4.2++[none]) d10.block (d10.off+1)) λlE=>
gT (cell (j4.2++[none]) d10.block ((d10.off+1)+1)) λP8=>
gL (cell (j4.2++[none]) d10.block (((d10.off+1)+1)+1)) λkH=>
(run (Et base) 62 [(.agg #[(vI nL),(vI lE),(vT P8),(vL kH.1 kH.2)])] (j4.2++[none])).bind λnM=>
gG (some nM.1) 4 λmR=>
cF mR λqR rD Iu pv=>
(gate (bc (j4.2++[none]) nM.2 (some ⟨Ec.block,((Ec.off+af eV*5)+3),none⟩) 1)
((gate (bc (j4.2++[none]) nM.2 (some ⟨my.block,(my.off+1),none⟩) 1)
((gate (fP (some d10) (ae nM.2))
((gate (fP (some ⟨Ec.block,((Ec.off+af eV*5)+3),none⟩) (ae nM.2))
((gate (fP (some ⟨my.block,(my.off+1),none⟩) (ae nM.2))
(cR nM.2 56 [(vI 0),(vI 0),(vT (⟨#[]⟩:ByteArray)),(vL none 0)] λGD=>
(app base GD 56 4 56 kt.1 kt.2 (br GD (some ⟨(ae nM.2),0,none⟩) (1*4)) 1).bind λUP=>
gL (some UP.1) λua=>
(if 0<=eV/\eV<(eU.2:Int) then
eU.1.bind λA2=>
(wr base UP.2 A2.block ((A2.off+af eV*5)+3) [(vL ua.1 ua.2)]).bind λI'=>
(if 0<=(kt.2:Int)/\(kt.2:Int)<(ua.2:Int) then
ua.1.bind λGC=>
(wr base I' GC.block (GC.off+af (kt.2:Int)*4) [(vI qR),(vI rD),(vT Iu),(vL pv.1 pv.2)]).bind λB9=>
some ((.bool true),(GZ B9 (ae nM.2) none))
else none)
else none)))))))))))
else none))))))
theorem r64{base:Nat}{v0:Option Addr}{v1:Int}{fB:Int}{fC:Int}{fD:ByteArray}{fE:Option Addr}{fa:Nat}{h:AH}{r:Value×AH}(hx:ajQ base v0 v1 fB fC fD fE fa h=some r):run (Et base) 64 [(.pointer v0),(vI v1),(.agg #[(vI fB),(vI fC),(vT fD),(vL fE fa)])] h=some r:=cZ (an:=a64) Tryz.func64 hx
def CO(base:Nat):Body:=gH base Tk Tn [1,1,1,1,1,1,1,1,1,0,0] Tryz.f65 Tl
def CP(base:Nat):Body:=gH base To Tq [1,1,1,1,1,0,1,0,0] Tryz.f65 Tp
theorem CQ(base:Nat)(v0:Option Addr)(v5:Addr)(v80:Option Addr)(XT:Nat)(v81:Int)(Ze:Int)(h:AH):CO base [some (.pointer v0),some (vA v5),some (vL v80 XT),some (vI v81),some (vI Ze)] h =
((if decide (Ze<v81)=true then
(if 0<=Ze/\Ze<(XT:Int) then
v80.bind λa1=>
gI (cell h a1.block (a1.off+af Ze*1)) λn2=>
gI (cell h v5.block v5.off) λn3=>
gI (cell h v5.block (v5.off+1)) λn4=>
gT (cell h v5.block ((v5.off+1)+1)) λs5=>
gL (cell h v5.block (((v5.off+1)+1)+1)) λl6=>
(run (Et base) 65 [(.pointer v0),(vI n2),(.agg #[(vI n3),(vI n4),(.string s5),(vL l6.1 l6.2)])] h).bind λr7=>
(cM 0 r7.1).bind λ_=>
some (0,[some (.pointer v0),some (.pointer (some v5)),some (vL v80 XT),some (vI v81),some (vI (ag .i64 (Ze+1)))],r7.2)
else none)
else
some (4,[],h)):OB):=by kernel_rfl
theorem CS(base:Nat)(v0:Option Addr)(v1:Int)(v5:Addr)(v7:Option Addr)(ue:Nat)(v46:Int)(P_:Int)(h:AH):CP base [some (.pointer v0),some (vI v1),some (vA v5),some (vL v7 ue),some (vI v46),some (vI P_)] h =
((if decide (P_<v46)=true then
(v0).bind λa1=>
gL (cell h a1.block (a1.off+1)) λl2=>
(v0).bind λa3=>
gL (cell h a3.block (a3.off+1)) λl4=>
(if 0<=P_/\P_<(l4.2:Int) then
l4.1.bind λa5=>
gL (cell h a5.block ((a5.off+af P_*5)+4)) λl6=>
(run (Et base) 106 [(vL l6.1 l6.2),(vI v1)] h).bind λr7=>
gL (some r7.1) λl8=>
(gate (bc h r7.2 (some ⟨a1.block,(a1.off+1),none⟩) 1)
((if 0<=P_/\P_<(l2.2:Int) then
l2.1.bind λa9=>
(wr base r7.2 a9.block ((a9.off+af P_*5)+4) [(vL l8.1 l8.2)]).bind λiO=>
some (0,[some (.pointer v0),some (vI v1),some (.pointer (some v5)),some (vL v7 ue),some (vI v46),some (vI (ag .i64 (P_+1)))],iO)
else none)))
else none)
else
some (2,[some (.pointer v0),some (vI v1),some (.pointer (some v5)),some (vL v7 ue)],h)):OB):=by kernel_rfl
abbrev ajR(base:Nat)(v0:Option Addr)(v1:Int)(fB:Int)(fC:Int)(fD:ByteArray)(fE:Option Addr)(fa:Nat)(h:AH):OV:=
cR h 56 [(vI fB),(vI fC),(vT fD),(vL fE fa)] λh1=>
(run (Et base) 24 [(.pointer v0),(vI v1)] h1).bind λr2=>
gI (some r2.1) λn3=>
(if decide (n3<0)=true then
some ((.tuple #[]),r2.2)
else
(v0).bind λa4=>
gL (cell r2.2 a4.block (a4.off+1)) λl5=>
(if 0<=n3/\n3<(l5.2:Int) then
l5.1.bind λa6=>
gL (cell r2.2 a6.block ((a6.off+af n3*5)+4)) λl7=>
(v0).bind λa8=>
gL (cell r2.2 a8.block (a8.off+1)) λl9=>
(if 0<=(0:Int)/\(0:Int)<=n3/\n3<=(l9.2:Int)/\jZ base r2.2 l9.1 53 (af (0:Int))=true then
(app base r2.2 53 5 88 none 0 (br r2.2 (dm l9.1 (af (0:Int)*5)) ((af n3-af (0:Int))*5)) (af n3-af (0:Int))).bind λXU=>
gL (some XU.1) λfw=>
(v0).bind λyU=>
(gate (bc r2.2 XU.2 (some ⟨yU.block,(yU.off+1),none⟩) 1)
(gL (cell XU.2 yU.block (yU.off+1)) λiN=>
(gate (bc r2.2 XU.2 iN.1 0)
((if 0<=(ag .i64 (n3+1))/\(ag .i64 (n3+1))<=(iN.2:Int)/\(iN.2:Int)<=(iN.2:Int)/\jZ base XU.2 iN.1 53 (af (ag .i64 (n3+1)))=true then
(app base XU.2 53 5 88 fw.1 fw.2 (br XU.2 (dm iN.1 (af (ag .i64 (n3+1))*5)) ((af (iN.2:Int)-af (ag .i64 (n3+1)))*5)) (af (iN.2:Int)-af (ag .i64 (n3+1)))).bind λIv=>
gL (some Iv.1) λhK=>
(v0).bind λww=>
(wr base Iv.2 ww.block (ww.off+1) [(vL hK.1 hK.2)]).bind λtc=>
(v0).bind λnu=>
gL (cell tc nu.block (nu.off+1)) λjy=>
(aF (CP base) [some (.pointer v0),some (vI v1),some (vP (ae h)),some (vL l7.1 l7.2),some (vI (jy.2:Int)),some (vI 0)] tc).bind λq20=>
(if q20.1=2 then
K8 q20.2.1 λp21 pO d23 kJ=>
(p21).bind λa25=>
gL (cell q20.2.2 a25.block (a25.off+3)) λpv=>
aL q20.2.2 d23.block d23.off λuc rF s29 A7=>
(run (Et base) 68 [(vL pv.1 pv.2),(vI 3),(vI pO),(.agg #[(vI uc),(vI rF),(vT s29),(vL A7.1 A7.2)])] q20.2.2).bind λIp=>
gL (some Ip.1) λqk=>
(p21).bind λa33=>
(wr base Ip.2 a33.block (a33.off+3) [(vL qk.1 qk.2)]).bind λPC=>
aL PC d23.block d23.off λqm xJ s37 GH=>
(run (Et base) 107 [(.agg #[(vI qm),(vI xJ),(vT s37),(vL GH.1 GH.2)])] PC).bind λBX=>
gB (some BX.1) λb40=>
(if b40=true then
some ((.tuple #[]),BX.2)
else
(aF (CO base) [some (.pointer p21),some (vA d23),some (vL kJ.1 kJ.2),some (vI (kJ.2:Int)),some (vI 0)] BX.2).bind λq41=>
(if q41.1=4 then
some ((.tuple #[]),q41.2.2)
else
none))
else
none)
else none)))))
else none)
else none))
theorem r65{base:Nat}{v0:Option Addr}{v1:Int}{fB:Int}{fC:Int}{fD:ByteArray}{fE:Option Addr}{fa:Nat}{h:AH}{r:Value×AH}(hx:ajR base v0 v1 fB fC fD fE fa h=some r):run (Et base) 65 [(.pointer v0),(vI v1),(.agg #[(vI fB),(vI fC),(vT fD),(vL fE fa)])] h=some r:=cZ (an:=Tr) Tryz.func65 hx
theorem Zf{base:Nat}{v0:ByteArray}{h:AH}{r:Value×AH}(hx:((some (h++[some ⟨[(.int .i64 0),(.int .i64 0),(.string ⟨#[]⟩),(.slice none 0 0)],56⟩])).bind λh1=>
(wr base h1 (ae h) 0 [(.int .i64 (2:Int)),(.int .i64 (0:Int)),(.string v0),(.slice none 0 0)]).bind λh2=>
((cell h2 (ae h) 0).bind (au .i64)).bind λn3=>
((cell h2 (ae h) 1).bind (au .i64)).bind λn4=>
((cell h2 (ae h) 2).bind aK).bind λs5=>
((cell h2 (ae h) 3).bind aN).bind λl6=>
some ((.agg #[(.int .i64 n3),(.int .i64 n4),(.string s5),(.slice l6.1 l6.2 l6.2)]),h2))=some r):run (Et base) 66 [(vT v0)] h=some r:=cZ (an:=a66) Tryz.func66 hx
def MN(base:Nat):Body:=gH base Ts Tu [1,1,1,0,0,0] Tryz.f67 Tt
theorem CT(base:Nat)(v6:Addr)(v7:Addr)(h:AH):MN base [some (vA v6),some (vA v7)] h =
(((cell h v7.block (v7.off+2)).bind aN).bind λl1=>
(if decide ((l1.2:Int)<(8:Int))=true then
((cell h v7.block (v7.off+2)).bind aN).bind λl2=>
(some (h++[some ⟨[(.int .i64 (1:Int)),(.int .i64 (0:Int)),(.string (⟨#[]⟩:ByteArray)),(.slice none 0 0)],56⟩])).bind λh3=>
(app base h3 56 4 56 l2.1 l2.2 (br h3 (some ⟨(ae h),0,none⟩) (1*4)) 1).bind λp4=>
((some p4.1).bind aN).bind λl5=>
(wr base p4.2 v7.block (v7.off+2) [(.slice l5.1 l5.2 l5.2)]).bind λh6=>
some (0,[some (.pointer (some v6)),some (.pointer (some v7))],h6)
else
some (2,[some (.pointer (some v6)),some (.pointer (some v7))],h)):OB):=by kernel_rfl
abbrev ajS(base:Nat)(v0:Int)(v1:Int)(fB:Int)(fC:Int)(fD:ByteArray)(fE:Option Addr)(fa:Nat)(h:AH):OV:=
cR h 56 [(vI fB),(vI fC),(vT fD),(vL fE fa)] λh1=>
cR h1 53 [(vI 0),(vI 0),(vL none 0),(vL none 0),(vL none 0)] λh2=>
((run (Et base) 23 [(vI v0),(vI 1),(vI 99999)] h2).bind λr4=>
((some r4.1).bind aO).bind λb5=>
(if (!b5)=true then
some (.inl ([some (vI v0),some (vI v1),some (vP (ae h)),some (vP (ae h1)),some (.bool true)],r4.2))
else
(if decide (v1<0)=true then
some (.inl ([some (vI v0),some (vI v1),some (vP (ae h)),some (vP (ae h1)),some (.bool true)],r4.2))
else
aL r4.2 (ae h) 0 λn6 n7 s8 l9=>
(run (Et base) 61 [(.agg #[(vI n6),(vI n7),(vT s8),(vL l9.1 l9.2)])] r4.2).bind λql=>
((some ql.1).bind aO).bind λE'=>
some (.inl ([some (vI v0),some (vI v1),some (vP (ae h)),some (vP (ae h1)),some (.bool (!E'))],ql.2))))).bind λj3=>bH j3 λj3=>
yX j3.1 λfS jz d14 d15 rZ=>
(if rZ=true then
(wr base j3.2 d15.block d15.off [(vI 0),(vI 0),(vL none 0),(vL none 0),(vL none 0)]).bind λtc=>
aZ tc d15.block d15.off λlE lh kH lD mR=>
some ((.agg #[(vI lE),(vI lh),(vL kH.1 kH.2),(vL lD.1 lD.2),(vL mR.1 mR.2)]),tc)
else
aL j3.2 d14.block d14.off λqR rD Iu pv=>
(run (Et base) 62 [(.agg #[(vI qR),(vI rD),(vT Iu),(vL pv.1 pv.2)])] j3.2).bind λFf=>
gG (some Ff.1) 4 λry=>
cF ry λwz xH s31 qk=>
cR Ff.2 56 [(vI wz),(vI xH),(vT s31),(vL qk.1 qk.2)] λB9=>
cR B9 53 [(vI 0),(vI 0),(vL none 0),(vL none 0),(vL none 0)] λPC=>
(wr base PC (ae B9) 0 [(vI fS),(vI jz),(vL (some ⟨(ae Ff.2),0,none⟩) 1),(vL none 0),(vL none 0)]).bind λY8=>
(aF (MN base) [some (vA d15),some (vP (ae B9))] Y8).bind λQa=>
(if Qa.1=2 then
Ib Qa.2.1 λd37 d38=>
aZ Qa.2.2 d38.block d38.off λLM LH tD Jd xK=>
(wr base Qa.2.2 d37.block d37.off [(vI LM),(vI LH),(vL tD.1 tD.2),(vL Jd.1 Jd.2),(vL xK.1 xK.2)]).bind λOg=>
aZ Og d37.block d37.off λXV n46 BR GF US=>
some ((.agg #[(vI XV),(vI n46),(vL BR.1 BR.2),(vL GF.1 GF.2),(vL US.1 US.2)]),Og)
else
none))
theorem UO{base:Nat}{v0:Int}{v1:Int}{fB:Int}{fC:Int}{fD:ByteArray}{fE:Option Addr}{fa:Nat}{h:AH}{r:Value×AH}(hx:ajS base v0 v1 fB fC fD fE fa h=some r):run (Et base) 67 [(vI v0),(vI v1),(.agg #[(vI fB),(vI fC),(vT fD),(vL fE fa)])] h=some r:=cZ (an:=a67) Tryz.func67 hx
theorem r68{base:Nat}{v0:Option Addr}{aB:Nat}{v1:Int}{v2:Int}{MO:Int}{MP:Int}{MQ:ByteArray}{MR:Option Addr}{CU:Nat}{h:AH}{r:Value×AH}(hx:((some (h++[some ⟨[(vI MO),(vI MP),(.string MQ),(vL MR CU)],56⟩])).bind λh1=>
(if decide ((aB:Int)>=(500:Int))=true then
some ((vL v0 aB),h1)
else
gI (cell h1 (ae h) 0) λn2=>
gI (cell h1 (ae h) 1) λn3=>
gT (cell h1 (ae h) 2) λs4=>
gL (cell h1 (ae h) 3) λl5=>
(run (Et base) 62 [(.agg #[(vI n2),(vI n3),(.string s4),(vL l5.1 l5.2)])] h1).bind λr6=>
((some r6.1).bind (ig 4)).bind λl7=>
gI (l7[0]?) λn8=>
gI (l7[1]?) λn9=>
gT (l7[2]?) λsf=>
gL (l7[3]?) λfw=>
(some (r6.2++[some ⟨[(vI v1),(vI v2),(vI n8),(vI n9),(.string sf),(vL fw.1 fw.2)],82⟩])).bind λlZ=>
(app base lZ 82 6 72 v0 aB (br lZ (some ⟨(ae r6.2),0,none⟩) (1*6)) 1).bind λES=>
gL (some ES.1) λeU=>
some ((vL eU.1 eU.2),ES.2)))=some r):run (Et base) 68 [(vL v0 aB),(vI v1),(vI v2),(.agg #[(vI MO),(vI MP),(vT MQ),(vL MR CU)])] h=some r:=cZ (an:=a68) Tryz.func68 hx
abbrev ajT(base:Nat)(v0:Option Addr)(v1:Int)(v2:Int)(h:AH):OV:=
(run (Et base) 24 [(.pointer v0),(vI v1)] h).bind λr1=>
gI (some r1.1) λn2=>
(run (Et base) 24 [(.pointer v0),(vI v2)] r1.2).bind λr3=>
gI (some r3.1) λn4=>
((if decide (n2<0)=true then
some (.inl ([some (.pointer v0),some (vI v1),some (vI v2),some (vI n2),some (vI n4),some (.bool true)],r3.2))
else
(if decide (n4<0)=true then
some (.inl ([some (.pointer v0),some (vI v1),some (vI v2),some (vI n2),some (vI n4),some (.bool true)],r3.2))
else
(if (n2==n4)=true then
some (.inl ([some (.pointer v0),some (vI v1),some (vI v2),some (vI n2),some (vI n4),some (.bool true)],r3.2))
else
(v0).bind λa6=>
gL (cell r3.2 a6.block (a6.off+1)) λl7=>
(if 0<=n2/\n2<(l7.2:Int) then
l7.1.bind λa8=>
gL (cell r3.2 a8.block ((a8.off+af n2*5)+4)) λl9=>
(if decide ((l9.2:Int)>=(50:Int))=true then
some (.inl ([some (.pointer v0),some (vI v1),some (vI v2),some (vI n2),some (vI n4),some (.bool true)],r3.2))
else
(v0).bind λnt=>
gL (cell r3.2 nt.block (nt.off+1)) λfw=>
(if 0<=n4/\n4<(fw.2:Int) then
fw.1.bind λyU=>
gL (cell r3.2 yU.block ((yU.off+af n4*5)+4)) λiN=>
some (.inl ([some (.pointer v0),some (vI v1),some (vI v2),some (vI n2),some (vI n4),some (.bool (decide ((iN.2:Int)>=(50:Int))))],r3.2))
else none))
else none))))).bind λj5=>bH j5 λj5=>
BQ j5.1 λIv qj lC nL lE LL=>
(if LL=true then
some ((.tuple #[]),j5.2)
else
(Iv).bind λOb=>
gL (cell j5.2 Ob.block (Ob.off+1)) λlD=>
(Iv).bind λKh=>
gL (cell j5.2 Kh.block (Kh.off+1)) λnQ=>
(if 0<=nL/\nL<(nQ.2:Int) then
nQ.1.bind λI9=>
gL (cell j5.2 I9.block ((I9.off+af nL*5)+4)) λBa=>
(run (Et base) 108 [(vL Ba.1 Ba.2),(vI lC)] j5.2).bind λxO=>
gL (some xO.1) λBY=>
(gate (bc j5.2 xO.2 (some ⟨Ob.block,(Ob.off+1),none⟩) 1)
((if 0<=nL/\nL<(lD.2:Int) then
lD.1.bind λa28=>
(wr base xO.2 a28.block ((a28.off+af nL*5)+4) [(vL BY.1 BY.2)]).bind λwx=>
(Iv).bind λA2=>
gL (cell wx A2.block (A2.off+1)) λxI=>
(Iv).bind λGC=>
gL (cell wx GC.block (GC.off+1)) λrz=>
(if 0<=lE/\lE<(rz.2:Int) then
rz.1.bind λxE=>
gL (cell wx xE.block ((xE.off+af lE*5)+4)) λub=>
(run (Et base) 108 [(vL ub.1 ub.2),(vI qj)] wx).bind λy_=>
gL (some y_.1) λuY=>
(gate (bc wx y_.2 (some ⟨A2.block,(A2.off+1),none⟩) 1)
((if 0<=lE/\lE<(xI.2:Int) then
xI.1.bind λA3=>
(wr base y_.2 A3.block ((A3.off+af lE*5)+4) [(vL uY.1 uY.2)]).bind λIf=>
some ((.tuple #[]),If)
else none)))
else none)
else none)))
else none))
theorem r69{base:Nat}{v0:Option Addr}{v1:Int}{v2:Int}{h:AH}{r:Value×AH}(hx:ajT base v0 v1 v2 h=some r):run (Et base) 69 [(.pointer v0),(vI v1),(vI v2)] h=some r:=cZ (an:=a69) Tryz.func69 hx
theorem Iw{base:Nat}{aV:Int}{aW:Int}{aX:Int}{aY:Int}{cz:Int}{dy:ByteArray}{eO:Int}{eP:Int}{eQ:Int}{eT:Int}{gn:Int}{MS:ByteArray}{h:AH}{r:Value×AH}(hx:((some (h++[some ⟨[(.int .i64 aV),(.int .i64 aW),(.int .i64 aX),(.int .i64 aY),(.int .i64 cz),(.string dy)],89⟩])).bind λh1=>
(some (h1++[some ⟨[(.int .i64 eO),(.int .i64 eP),(.int .i64 eQ),(.int .i64 eT),(.int .i64 gn),(.string MS)],89⟩])).bind λh2=>
((cell h2 (ae h) 0).bind (au .i64)).bind λn3=>
((cell h2 (ae h1) 0).bind (au .i64)).bind λn4=>
(if (n3 != n4)=true then
some ((.bool false),h2)
else
((cell h2 (ae h) 1).bind (au .i64)).bind λn5=>
((cell h2 (ae h1) 1).bind (au .i64)).bind λn6=>
(if (n5 != n6)=true then
some ((.bool false),h2)
else
((cell h2 (ae h) 2).bind (au .i64)).bind λn7=>
((cell h2 (ae h1) 2).bind (au .i64)).bind λn8=>
(if (n7 != n8)=true then
some ((.bool false),h2)
else
((cell h2 (ae h) 3).bind (au .i64)).bind λn9=>
((cell h2 (ae h1) 3).bind (au .i64)).bind λfl=>
(if (n9 != fl)=true then
some ((.bool false),h2)
else
((cell h2 (ae h) 4).bind (au .i64)).bind λeV=>
((cell h2 (ae h1) 4).bind (au .i64)).bind λfS=>
(if (eV != fS)=true then
some ((.bool false),h2)
else
((cell h2 (ae h) 5).bind aK).bind λFg=>
((cell h2 (ae h1) 5).bind aK).bind λE_=>
(if (!(Fg.toList==E_.toList))=true then
some ((.bool false),h2)
else
some ((.bool true),h2))))))))=some r):run (Et base) 70 [(.agg #[(vI aV),(vI aW),(vI aX),(vI aY),(vI cz),(vT dy)]),(.agg #[(vI eO),(vI eP),(vI eQ),(vI eT),(vI gn),(vT MS)])] h=some r:=cZ (an:=a70) Tryz.func70 hx
theorem PJ{base:Nat}{aV:Int}{aW:Int}{aX:Option Addr}{jd:Nat}{aY:Option Addr}{aR:Nat}{cz:Option Addr}{je:Nat}{eO:Int}{eP:Int}{eQ:Option Addr}{fi:Nat}{eT:Option Addr}{dd:Nat}{gn:Option Addr}{fj:Nat}{h:AH}{r:Value×AH}(hx:(cR h 53 [(vI aV),(vI aW),(vL aX jd),(vL aY aR),(vL cz je)] λh1=>
cR h1 53 [(vI eO),(vI eP),(vL eQ fi),(vL eT dd),(vL gn fj)] λh2=>
((cell h2 (ae h) 0).bind (au .i64)).bind λn3=>
((cell h2 (ae h1) 0).bind (au .i64)).bind λn4=>
(if (n3 != n4)=true then
some ((.bool false),h2)
else
((cell h2 (ae h) 1).bind (au .i64)).bind λn5=>
((cell h2 (ae h1) 1).bind (au .i64)).bind λn6=>
(if (n5 != n6)=true then
some ((.bool false),h2)
else
((cell h2 (ae h) 2).bind aN).bind λl7=>
((cell h2 (ae h1) 2).bind aN).bind λl8=>
(run (Et base) 109 [(vL l7.1 l7.2),(vL l8.1 l8.2)] h2).bind λr9=>
((some r9.1).bind aO).bind λGJ=>
(if (!GJ)=true then
some ((.bool false),r9.2)
else
((cell r9.2 (ae h) 3).bind aN).bind λfw=>
((cell r9.2 (ae h1) 3).bind aN).bind λiI=>
(run (Et base) 109 [(vL fw.1 fw.2),(vL iI.1 iI.2)] r9.2).bind λlF=>
((some lF.1).bind aO).bind λzc=>
(if (!zc)=true then
some ((.bool false),lF.2)
else
((cell lF.2 (ae h) 4).bind aN).bind λhK=>
((cell lF.2 (ae h1) 4).bind aN).bind λkt=>
(run (Et base) 110 [(vL hK.1 hK.2),(vL kt.1 kt.2)] lF.2).bind λEf=>
((some Ef.1).bind aO).bind λP7=>
(if (!P7)=true then
some ((.bool false),Ef.2)
else
some ((.bool true),Ef.2)))))))=some r):run (Et base) 71 [(.agg #[(vI aV),(vI aW),(vL aX jd),(vL aY aR),(vL cz je)]),(.agg #[(vI eO),(vI eP),(vL eQ fi),(vL eT dd),(vL gn fj)])] h=some r:=cZ (an:=a71) Tryz.func71 hx
theorem OA{base:Nat}{aV:Int}{aW:Int}{aX:Int}{aY:Int}{cz:ByteArray}{dy:Option Addr}{pQ:Nat}{eO:Int}{eP:Int}{eQ:Int}{eT:Int}{gn:ByteArray}{MS:Option Addr}{MT:Nat}{h:AH}{r:Value×AH}(hx:((some (h++[some ⟨[(.int .i64 aV),(.int .i64 aW),(.int .i64 aX),(.int .i64 aY),(.string cz),(.slice dy pQ pQ)],82⟩])).bind λh1=>
(some (h1++[some ⟨[(.int .i64 eO),(.int .i64 eP),(.int .i64 eQ),(.int .i64 eT),(.string gn),(.slice MS MT MT)],82⟩])).bind λh2=>
((cell h2 (ae h) 0).bind (au .i64)).bind λn3=>
((cell h2 (ae h1) 0).bind (au .i64)).bind λn4=>
(if (n3 != n4)=true then
some ((.bool false),h2)
else
((cell h2 (ae h) 1).bind (au .i64)).bind λn5=>
((cell h2 (ae h1) 1).bind (au .i64)).bind λn6=>
(if (n5 != n6)=true then
some ((.bool false),h2)
else
((cell h2 (ae h) 2).bind (au .i64)).bind λn7=>
((cell h2 (ae h) 3).bind (au .i64)).bind λn8=>
((cell h2 (ae h) 4).bind aK).bind λs9=>
((cell h2 (ae h) 5).bind aN).bind λep=>
((cell h2 (ae h1) 2).bind (au .i64)).bind λeV=>
((cell h2 (ae h1) 3).bind (au .i64)).bind λfS=>
((cell h2 (ae h1) 4).bind aK).bind λFg=>
((cell h2 (ae h1) 5).bind aN).bind λeU=>
(run (Et base) 111 [(.agg #[(.int .i64 n7),(.int .i64 n8),(.string s9),(.slice ep.1 ep.2 ep.2)]),(.agg #[(.int .i64 eV),(.int .i64 fS),(.string Fg),(.slice eU.1 eU.2 eU.2)])] h2).bind λjR=>
((some jR.1).bind aO).bind λrZ=>
(if (!rZ)=true then
some ((.bool false),jR.2)
else
some ((.bool true),jR.2)))))=some r):run (Et base) 72 [(.agg #[(vI aV),(vI aW),(vI aX),(vI aY),(vT cz),(vL dy pQ)]),(.agg #[(vI eO),(vI eP),(vI eQ),(vI eT),(vT gn),(vL MS MT)])] h=some r:=cZ (an:=a72) Tryz.func72 hx
def MU(base:Nat):Body:=gH base Tv Tx [1,1,1,0,0,0] Tryz.f73 Tw
theorem vg(base:Nat)(v0:Int)(v3:ByteArray)(h:AH):MU base [some (vI v0),some (vT v3)] h =
((if decide (v0>0)=true then
(some (h++[some ⟨[(.int .u8 (ag .u8 (ag .i64 ((48:Int)+(Int.tmod v0 (10:Int))))))],5⟩])).bind λh1=>
((br h1 (some ⟨(ae h),0,none⟩) 1).bind N4).bind λz2=>
(if (yq z2).size+v3.size<=9223372036854775807 then
some (0,[some (.int .i64 (ag .i64 (Int.tdiv v0 (10:Int)))),some (.string ((yq z2)++v3))],h1)
else none)
else
some (2,[some (.string v3)],h)):OB):=by kernel_rfl
theorem UM{base:Nat}{v0:Int}{h:AH}{r:Value×AH}(hx:((if decide (v0<=0)=true then
some ((.string (⟨#[109,48]⟩:ByteArray)),h)
else
(aF (MU base) [some (.int .i64 v0),some (.string (⟨#[]⟩:ByteArray))] h).bind λq1=>
(if q1.1=2 then
((ay q1.2.1 0).bind aK).bind λs2=>
(if (⟨#[109]⟩:ByteArray).size+s2.size<=9223372036854775807 then
some ((.string ((⟨#[109]⟩:ByteArray)++s2)),q1.2.2)
else none)
else
none)))=some r):run (Et base) 73 [(vI v0)] h=some r:=cZ (an:=a73) Tryz.func73 hx
def MV(base:Nat):Body:=gH base Ty TA [1,0,1,0,0] Tryz.f74 Tz
theorem CV(base:Nat)(v0:Option Addr)(aB:Nat)(v1:Int)(v5:Int)(h:AH):MV base [some (vL v0 aB),some (vI v1),some (vI v5)] h =
((if decide (v5<(aB:Int))=true then
(if 0<=v5/\v5<(aB:Int) then
v0.bind λa1=>
(wr base h a1.block ((a1.off+af v5*4)+0) [(.int .i64 v1)]).bind λh2=>
(if 0<=v5/\v5<(aB:Int) then
v0.bind λa3=>
(wr base h2 a3.block ((a3.off+af v5*4)+1) [(.int .i64 (ag .i64 (v1+1)))]).bind λh4=>
(run (Et base) 73 [(.int .i64 (ag .i64 ((ag .i64 (v1+1))+1)))] h4).bind λr5=>
((some r5.1).bind aK).bind λs6=>
(if 0<=v5/\v5<(aB:Int) then
v0.bind λa7=>
(wr base r5.2 a7.block ((a7.off+af v5*4)+2) [(.string s6)]).bind λh8=>
(if 0<=v5/\v5<(aB:Int) then
v0.bind λa9=>
((cell h8 a9.block ((a9.off+af v5*4)+3)).bind aN).bind λep=>
(run (Et base) 74 [(.slice ep.1 ep.2 ep.2),(.int .i64 (ag .i64 ((ag .i64 ((ag .i64 (v1+1))+1))+1)))] h8).bind λiY=>
((some iY.1).bind (au .i64)).bind λfS=>
some (0,[some (.slice v0 aB aB),some (.int .i64 fS),some (.int .i64 (ag .i64 (v5+1)))],iY.2)
else none)
else none)
else none)
else none)
else
some (2,[some (.int .i64 v1)],h)):OB):=by kernel_rfl
theorem r74{base:Nat}{v0:Option Addr}{aB:Nat}{v1:Int}{h:AH}{r:Value×AH}(hx:((aF (MV base) [some (.slice v0 aB aB),some (.int .i64 v1),some (.int .i64 (0:Int))] h).bind λq1=>
(if q1.1=2 then
((ay q1.2.1 0).bind (au .i64)).bind λn2=>
some ((.int .i64 n2),q1.2.2)
else
none))=some r):run (Et base) 74 [(vL v0 aB),(vI v1)] h=some r:=cZ (an:=a74) Tryz.func74 hx
def MW(base:Nat):Body:=gH base TB TD [1,0,1,0,0] Tryz.f75 TC
theorem CW(base:Nat)(v0:Option Addr)(aB:Nat)(v1:Int)(v5:Int)(h:AH):MW base [some (vL v0 aB),some (vI v1),some (vI v5)] h =
((if decide (v5<(aB:Int))=true then
(if 0<=v5/\v5<(aB:Int) then
v0.bind λa1=>
(wr base h a1.block (a1.off+af v5*1) [(.int .i64 v1)]).bind λh2=>
some (0,[some (.slice v0 aB aB),some (.int .i64 (ag .i64 (v1+1))),some (.int .i64 (ag .i64 (v5+1)))],h2)
else none)
else
some (2,[some (.int .i64 v1)],h)):OB):=by kernel_rfl
theorem r75{base:Nat}{v0:Option Addr}{aB:Nat}{v1:Int}{h:AH}{r:Value×AH}(hx:((aF (MW base) [some (.slice v0 aB aB),some (.int .i64 v1),some (.int .i64 (0:Int))] h).bind λq1=>
(if q1.1=2 then
((ay q1.2.1 0).bind (au .i64)).bind λn2=>
some ((.int .i64 n2),q1.2.2)
else
none))=some r):run (Et base) 75 [(vL v0 aB),(vI v1)] h=some r:=cZ (an:=a75) Tryz.func75 hx
def MX(base:Nat):Body:=gH base TE TG [1,0,1,0,0] Tryz.f76 TF
theorem CX(base:Nat)(v0:Option Addr)(aB:Nat)(v1:Int)(v5:Int)(h:AH):MX base [some (vL v0 aB),some (vI v1),some (vI v5)] h =
((if decide (v5<(aB:Int))=true then
(if 0<=v5/\v5<(aB:Int) then
v0.bind λa1=>
((cell h a1.block ((a1.off+af v5*4)+0)).bind (au .i64)).bind λn2=>
(if (n2 != v1)=true then
some (1,[some (vI (-1:Int))],h)
else
(if 0<=v5/\v5<(aB:Int) then
v0.bind λa3=>
((cell h a3.block ((a3.off+af v5*4)+1)).bind (au .i64)).bind λn4=>
(if (n4 != (ag .i64 (v1+1)))=true then
some (1,[some (vI (-1:Int))],h)
else
(if 0<=v5/\v5<(aB:Int) then
v0.bind λa5=>
((cell h a5.block ((a5.off+af v5*4)+2)).bind aK).bind λs6=>
(run (Et base) 73 [(vI (ag .i64 ((ag .i64 (v1+1))+1)))] h).bind λr7=>
((some r7.1).bind aK).bind λs8=>
(gate (bc h r7.2 (some ⟨a5.block,((a5.off+af v5*4)+2),none⟩) 1)
((if (!(s6.toList==s8.toList))=true then
some (1,[some (vI (-1:Int))],r7.2)
else
(if 0<=v5/\v5<(aB:Int) then
v0.bind λa9=>
((cell r7.2 a9.block ((a9.off+af v5*4)+3)).bind aN).bind λep=>
(run (Et base) 76 [(vL ep.1 ep.2),(vI (ag .i64 ((ag .i64 ((ag .i64 (v1+1))+1))+1)))] r7.2).bind λiY=>
((some iY.1).bind (au .i64)).bind λfS=>
(if decide (fS<0)=true then
some (1,[some (vI (-1:Int))],iY.2)
else
some (0,[some (vL v0 aB),some (vI fS),some (vI (ag .i64 (v5+1)))],iY.2))
else none))))
else none))
else none))
else none)
else
some (2,[some (vI v1)],h)):OB):=by kernel_rfl
theorem XW{base:Nat}{v0:Option Addr}{aB:Nat}{v1:Int}{h:AH}{r:Value×AH}(hx:((aF (MX base) [some (.slice v0 aB aB),some (.int .i64 v1),some (.int .i64 (0:Int))] h).bind λq1=>
(if q1.1=1 then
((ay q1.2.1 0).bind (au .i64)).bind λn2=>
some ((.int .i64 n2),q1.2.2)
else
(if q1.1=2 then
((ay q1.2.1 0).bind (au .i64)).bind λn3=>
some ((.int .i64 n3),q1.2.2)
else
none)))=some r):run (Et base) 76 [(vL v0 aB),(vI v1)] h=some r:=cZ (an:=a76) Tryz.func76 hx
def MY(base:Nat):Body:=gH base TH TK [1,0,1,0,0] Tryz.f77 TJ
theorem CY(base:Nat)(v0:Option Addr)(aB:Nat)(v1:Int)(v5:Int)(h:AH):MY base [some (vL v0 aB),some (vI v1),some (vI v5)] h =
((if decide (v5<(aB:Int))=true then
(if 0<=v5/\v5<(aB:Int) then
v0.bind λa1=>
((cell h a1.block (a1.off+af v5*1)).bind (au .i64)).bind λn2=>
(if (n2 != v1)=true then
some (1,[some (.int .i64 (-1:Int))],h)
else
some (0,[some (.slice v0 aB aB),some (.int .i64 (ag .i64 (v1+1))),some (.int .i64 (ag .i64 (v5+1)))],h))
else none)
else
some (2,[some (.int .i64 v1)],h)):OB):=by kernel_rfl
theorem XN{base:Nat}{v0:Option Addr}{aB:Nat}{v1:Int}{h:AH}{r:Value×AH}(hx:((aF (MY base) [some (.slice v0 aB aB),some (.int .i64 v1),some (.int .i64 (0:Int))] h).bind λq1=>
(if q1.1=1 then
((ay q1.2.1 0).bind (au .i64)).bind λn2=>
some ((.int .i64 n2),q1.2.2)
else
(if q1.1=2 then
((ay q1.2.1 0).bind (au .i64)).bind λn3=>
some ((.int .i64 n3),q1.2.2)
else
none)))=some r):run (Et base) 77 [(vL v0 aB),(vI v1)] h=some r:=cZ (an:=a77) Tryz.func77 hx
def G0(base:Nat):Body:=gH base TL TN [1,1,1,0,1,0,0] Tryz.f78 TM
theorem CZ(base:Nat)(v0:Option Addr)(aB:Nat)(v1:Int)(v5:Int)(h:AH):G0 base [some (vL v0 aB),some (vI v1),some (vI v5)] h =
((if decide (v5<(aB:Int))=true then
(if 0<=v5/\v5<(aB:Int) then
v0.bind λa1=>
((cell h a1.block (a1.off+af v5*4)).bind (au .i64)).bind λn2=>
((cell h a1.block ((a1.off+af v5*4)+1)).bind (au .i64)).bind λn3=>
((cell h a1.block (((a1.off+af v5*4)+1)+1)).bind aK).bind λs4=>
((cell h a1.block ((((a1.off+af v5*4)+1)+1)+1)).bind aN).bind λl5=>
(run (Et base) 80 [(.agg #[(.int .i64 n2),(.int .i64 n3),(.string s4),(.slice l5.1 l5.2 l5.2)]),(.int .i64 v1)] h).bind λr6=>
((some r6.1).bind (au .i64)).bind λn7=>
(if decide (n7<0)=true then
some (1,[some (.int .i64 (-1:Int))],r6.2)
else
some (0,[some (.slice v0 aB aB),some (.int .i64 n7),some (.int .i64 (ag .i64 (v5+1)))],r6.2))
else none)
else
some (2,[some (.int .i64 v1)],h)):OB):=by kernel_rfl
theorem Xe{base:Nat}{v0:Option Addr}{aB:Nat}{v1:Int}{h:AH}{r:Value×AH}(hx:((if decide ((ag .i64 (v1-(aB:Int)))<0)=true then
some ((.int .i64 (-1:Int)),h)
else
(aF (G0 base) [some (.slice v0 aB aB),some (.int .i64 (ag .i64 (v1-(aB:Int)))),some (.int .i64 (0:Int))] h).bind λq1=>
(if q1.1=1 then
((ay q1.2.1 0).bind (au .i64)).bind λn2=>
some ((.int .i64 n2),q1.2.2)
else
(if q1.1=2 then
((ay q1.2.1 0).bind (au .i64)).bind λn3=>
some ((.int .i64 n3),q1.2.2)
else
none))))=some r):run (Et base) 78 [(vL v0 aB),(vI v1)] h=some r:=cZ (an:=Pj) Tryz.func78 hx
theorem r79{base:Nat}{v0:Option Addr}{aB:Nat}{v1:Int}{h:AH}{r:Value×AH}(hx:((if decide ((ag .i64 (v1-(aB:Int)))<0)=true then
some ((.int .i64 (-1:Int)),h)
else
some ((.int .i64 (ag .i64 (v1-(aB:Int)))),h)))=some r):run (Et base) 79 [(vL v0 aB),(vI v1)] h=some r:=cZ (an:=a79) Tryz.func79 hx
theorem UT{base:Nat}{aV:Int}{aW:Int}{aX:ByteArray}{aY:Option Addr}{aR:Nat}{v1:Int}{h:AH}{r:Value×AH}(hx:((some (h++[some ⟨[(.int .i64 aV),(.int .i64 aW),(.string aX),(.slice aY aR aR)],77⟩])).bind λh1=>
((cell h1 (ae h) 2).bind aK).bind λs2=>
(if decide ((ag .i64 (v1-(s2.size:Int)))<0)=true then
some ((.int .i64 (-1:Int)),h1)
else
((cell h1 (ae h) 3).bind aN).bind λl3=>
(run (Et base) 78 [(.slice l3.1 l3.2 l3.2),(.int .i64 (ag .i64 (v1-(s2.size:Int))))] h1).bind λr4=>
((some r4.1).bind (au .i64)).bind λn5=>
(if decide (n5<0)=true then
some ((.int .i64 (-1:Int)),r4.2)
else
some ((.int .i64 n5),r4.2))))=some r):run (Et base) 80 [(.agg #[(vI aV),(vI aW),(vT aX),(vL aY aR)]),(vI v1)] h=some r:=cZ (an:=a80) Tryz.func80 hx
def MZ(base:Nat):Body:=gH base TO TQ [1,1,0,1,0,0] Tryz.f81 TP
theorem C1(base:Nat)(v0:Option Addr)(aB:Nat)(v3:Option Addr)(lM:Nat)(v4:Int)(h:AH):MZ base [some (vL v0 aB),some (vL v3 lM),some (vI v4)] h =
((if decide (v4<(aB:Int))=true then
(if 0<=v4/\v4<(aB:Int) then
v0.bind λa1=>
gI (cell h a1.block (a1.off+af v4*4)) λn2=>
gI (cell h a1.block ((a1.off+af v4*4)+1)) λn3=>
gT (cell h a1.block (((a1.off+af v4*4)+1)+1)) λs4=>
gL (cell h a1.block ((((a1.off+af v4*4)+1)+1)+1)) λl5=>
(run (Et base) 40 [(.agg #[(vI n2),(vI n3),(.string s4),(vL l5.1 l5.2)])] h).bind λr6=>
((some r6.1).bind (ig 4)).bind λl7=>
gI (l7[0]?) λn8=>
gI (l7[1]?) λn9=>
gT (l7[2]?) λsf=>
gL (l7[3]?) λfw=>
(some (r6.2++[some ⟨[(vI n8),(vI n9),(.string sf),(vL fw.1 fw.2)],56⟩])).bind λlZ=>
(app base lZ 56 4 56 v3 lM (br lZ (some ⟨(ae r6.2),0,none⟩) (1*4)) 1).bind λES=>
gL (some ES.1) λeU=>
some (0,[some (vL v0 aB),some (vL eU.1 eU.2),some (vI (ag .i64 (v4+1)))],ES.2)
else none)
else
some (2,[some (vL v3 lM)],h)):OB):=by kernel_rfl
theorem r81{base:Nat}{v0:Option Addr}{aB:Nat}{h:AH}{r:Value×AH}(hx:((some (h++[some ⟨[],56⟩])).bind λh1=>
(aF (MZ base) [some (vL v0 aB),some (.slice (some ⟨(ae h),0,none⟩) 0 0),some (vI 0)] h1).bind λq2=>
(if q2.1=2 then
gL (ay q2.2.1 0) λl3=>
some ((vL l3.1 l3.2),q2.2.2)
else
none))=some r):run (Et base) 81 [(vL v0 aB)] h=some r:=cZ (an:=a81) Tryz.func81 hx
abbrev ajU(base:Nat)(aV:Int)(aW:Int)(aX:Int)(aY:Int)(cz:Int)(dy:ByteArray)(v1:Int)(h:AH):OV:=
cR h 89 [(vI aV),(vI aW),(vI aX),(vI aY),(vI cz),(vT dy)] λh1=>
((run (Et base) 16 [(vI v1),(vI 1),(vI 200)] h1).bind λr3=>
((some r3.1).bind aO).bind λb4=>
(if (!b4)=true then
some (.inl ([some (vI v1),some (vP (ae h)),some (.bool true)],r3.2))
else
((cell r3.2 (ae h) 0).bind (au .i64)).bind λn5=>
(run (Et base) 16 [(vI n5),(vI 1),(vI 20)] r3.2).bind λr6=>
((some r6.1).bind aO).bind λb7=>
some (.inl ([some (vI v1),some (vP (ae h)),some (.bool (!b7))],r6.2)))).bind λj2=>bH j2 λj2=>
xF j2.1 λn8 d9 GJ=>
(if GJ=true then
some ((.bool false),j2.2)
else
(run (Et base) 112 [] j2.2).bind λiY=>
((some iY.1).bind aN).bind λiI=>
(gate (bc j2.2 iY.2 (some ⟨d9.block,(d9.off+0),none⟩) 1)
(((cell iY.2 d9.block (d9.off+0)).bind (au .i64)).bind λjz=>
(if 0<=(ag .i64 (jz-1))/\(ag .i64 (jz-1))<(iI.2:Int) then
iI.1.bind λsY=>
((cell iY.2 sY.block (sY.off+af (ag .i64 (jz-1))*1)).bind aK).bind λLQ=>
(((cell iY.2 d9.block (d9.off+1)).bind (au .i64)).bind λnL=>
(run (Et base) 113 [(vT LQ),(.int .u8 (65:Int)),(vI nL)] iY.2).bind λqv=>
((some qv.1).bind aO).bind λLL=>
(if (!LL)=true then
some (.inl ([some (vI n8),some (vA d9),some (.bool true)],qv.2))
else
((cell qv.2 d9.block (d9.off+3)).bind (au .i64)).bind λpK=>
(run (Et base) 113 [(vT LQ),(.int .u8 (67:Int)),(vI pK)] qv.2).bind λnM=>
((some nM.1).bind aO).bind λb22=>
(if (!b22)=true then
some (.inl ([some (vI n8),some (vA d9),some (.bool true)],nM.2))
else
((cell nM.2 d9.block (d9.off+0)).bind (au .i64)).bind λqR=>
(if (qR != 11)=true then
((cell nM.2 d9.block (d9.off+2)).bind (au .i64)).bind λrD=>
(run (Et base) 113 [(vT LQ),(.int .u8 (66:Int)),(vI rD)] nM.2).bind λCs=>
((some Cs.1).bind aO).bind λb26=>
(if (!b26)=true then
some (.inl ([some (vI n8),some (vA d9),some (.bool true)],Cs.2))
else
((cell Cs.2 d9.block (d9.off+0)).bind (au .i64)).bind λuc=>
(if (uc==11)=true then
((cell Cs.2 d9.block (d9.off+2)).bind (au .i64)).bind λrF=>
(run (Et base) 16 [(vI rF),(vI 1),(vI 6)] Cs.2).bind λr29=>
((some r29.1).bind aO).bind λb30=>
some (.inl ([some (vI n8),some (vA d9),some (.bool (!b30))],r29.2))
else
some (.inl ([some (vI n8),some (vA d9),some (.bool false)],Cs.2))))
else
((cell nM.2 d9.block (d9.off+0)).bind (au .i64)).bind λIo=>
(if (Io==11)=true then
((cell nM.2 d9.block (d9.off+2)).bind (au .i64)).bind λPB=>
(run (Et base) 16 [(vI PB),(vI 1),(vI 6)] nM.2).bind λOw=>
((some Ow.1).bind aO).bind λb34=>
some (.inl ([some (vI n8),some (vA d9),some (.bool (!b34))],Ow.2))
else
some (.inl ([some (vI n8),some (vA d9),some (.bool false)],nM.2))))))).bind λM0=>bH M0 λM0=>
xF M0.1 λqm d36 b37=>
(if b37=true then
some ((.bool false),M0.2)
else
(((cell M0.2 d36.block (d36.off+0)).bind (au .i64)).bind λLM=>
(if (LM==2)=true then
((cell M0.2 d36.block (d36.off+5)).bind aK).bind λs40=>
(run (Et base) 114 [(vT s40)] M0.2).bind λud=>
((some ud.1).bind aO).bind λb42=>
(if (!b42)=true then
some (.inl ([some (vI qm),some (vA d36),some (.bool true)],ud.2))
else
((cell ud.2 d36.block (d36.off+0)).bind (au .i64)).bind λE9=>
(if (E9 != 2)=true then
((cell ud.2 d36.block (d36.off+5)).bind aK).bind λs44=>
some (.inl ([some (vI qm),some (vA d36),some (.bool (!(s44.toList==(⟨#[]⟩:ByteArray).toList)))],ud.2))
else
some (.inl ([some (vI qm),some (vA d36),some (.bool false)],ud.2))))
else
((cell M0.2 d36.block (d36.off+0)).bind (au .i64)).bind λXV=>
(if (XV != 2)=true then
((cell M0.2 d36.block (d36.off+5)).bind aK).bind λs46=>
some (.inl ([some (vI qm),some (vA d36),some (.bool (!(s46.toList==(⟨#[]⟩:ByteArray).toList)))],M0.2))
else
some (.inl ([some (vI qm),some (vA d36),some (.bool false)],M0.2))))).bind λZg=>bH Zg λZg=>
xF Zg.1 λxL d48 b49=>
(if b49=true then
some ((.bool false),Zg.2)
else
dW Zg.2 d48.block d48.off λOt Wx GU Ct tF s55=>
(run (Et base) 115 [(.agg #[(vI Ot),(vI Wx),(vI GU),(vI Ct),(vI tF),(vT s55)]),(vI xL)] Zg.2).bind λGY=>
((some GY.1).bind aO).bind λb57=>
some ((.bool b57),GY.2)))
else none))))
theorem E1{base:Nat}{aV:Int}{aW:Int}{aX:Int}{aY:Int}{cz:Int}{dy:ByteArray}{v1:Int}{h:AH}{r:Value×AH}(hx:ajU base aV aW aX aY cz dy v1 h=some r):run (Et base) 82 [(.agg #[(vI aV),(vI aW),(vI aX),(vI aY),(vI cz),(vT dy)]),(vI v1)] h=some r:=cZ (an:=a82) Tryz.func82 hx
theorem r83{base:Nat}{aV:Int}{aW:Int}{aX:ByteArray}{aY:Option Addr}{aR:Nat}{h:AH}{r:Value×AH}(hx:((some (h++[some ⟨[(.int .i64 aV),(.int .i64 aW),(.string aX),(.slice aY aR aR)],56⟩])).bind λh1=>
((cell h1 (ae h) 0).bind (au .i64)).bind λn2=>
((cell h1 (ae h) 1).bind (au .i64)).bind λn3=>
((cell h1 (ae h) 2).bind aK).bind λs4=>
((cell h1 (ae h) 3).bind aN).bind λl5=>
(run (Et base) 116 [(.agg #[(.int .i64 n2),(.int .i64 n3),(.string s4),(.slice l5.1 l5.2 l5.2)]),(.int .i64 (6:Int)),(.int .i64 (100:Int))] h1).bind λr6=>
((some r6.1).bind (au .i64)).bind λn7=>
some ((.bool (decide (n7>=0))),r6.2))=some r):run (Et base) 83 [(.agg #[(vI aV),(vI aW),(vT aX),(vL aY aR)])] h=some r:=cZ (an:=a83) Tryz.func83 hx
def G1(base:Nat):Body:=gH base TR TT [1,0,1,0,0] Tryz.f84 TS
theorem C3(base:Nat)(v0:Option Addr)(aB:Nat)(v3:Int)(h:AH):G1 base [some (vL v0 aB),some (vI v3)] h =
((if decide (v3<(aB:Int))=true then
(if 0<=v3/\v3<(aB:Int) then
v0.bind λa1=>
((cell h a1.block (a1.off+af v3*4)).bind (au .i64)).bind λn2=>
((cell h a1.block ((a1.off+af v3*4)+1)).bind (au .i64)).bind λn3=>
((cell h a1.block (((a1.off+af v3*4)+1)+1)).bind aK).bind λs4=>
((cell h a1.block ((((a1.off+af v3*4)+1)+1)+1)).bind aN).bind λl5=>
(run (Et base) 83 [(.agg #[(.int .i64 n2),(.int .i64 n3),(.string s4),(.slice l5.1 l5.2 l5.2)])] h).bind λr6=>
((some r6.1).bind aO).bind λb7=>
(if (!b7)=true then
some (1,[some (.bool false)],r6.2)
else
some (0,[some (.slice v0 aB aB),some (.int .i64 (ag .i64 (v3+1)))],r6.2))
else none)
else
some (2,[],h)):OB):=by kernel_rfl
theorem r84{base:Nat}{v0:Option Addr}{aB:Nat}{h:AH}{r:Value×AH}(hx:((aF (G1 base) [some (.slice v0 aB aB),some (.int .i64 (0:Int))] h).bind λq1=>
(if q1.1=1 then
((ay q1.2.1 0).bind aO).bind λb2=>
some ((.bool b2),q1.2.2)
else
(if q1.1=2 then
some ((.bool true),q1.2.2)
else
none)))=some r):run (Et base) 84 [(vL v0 aB)] h=some r:=cZ (an:=a84) Tryz.func84 hx
def G2(base:Nat):Body:=gH base TU TW [1,0,1,0,0] Tryz.f85 TV
theorem C4(base:Nat)(v0:Option Addr)(aB:Nat)(v1:Int)(v5:Int)(h:AH):G2 base [some (vL v0 aB),some (vI v1),some (vI v5)] h =
((if decide (v5<(aB:Int))=true then
((if 0<=v5/\v5<(aB:Int) then
v0.bind λa2=>
((cell h a2.block (a2.off+af v5*1)).bind (au .i64)).bind λn3=>
(run (Et base) 16 [(vI n3),(vI 1),(vI 99999)] h).bind λr4=>
((some r4.1).bind aO).bind λb5=>
(if (!b5)=true then
some (.inl ([some (vL v0 aB),some (vI v1),some (vI v5),some (.bool true)],r4.2))
else
(if 0<=v5/\v5<(aB:Int) then
v0.bind λa6=>
((cell r4.2 a6.block (a6.off+af v5*1)).bind (au .i64)).bind λn7=>
(if (n7==v1)=true then
some (.inl ([some (vL v0 aB),some (vI v1),some (vI v5),some (.bool true)],r4.2))
else
(if decide (v5>0)=true then
(if 0<=(ag .i64 (v5-1))/\(ag .i64 (v5-1))<(aB:Int) then
v0.bind λa8=>
((cell r4.2 a8.block (a8.off+af (ag .i64 (v5-1))*1)).bind (au .i64)).bind λn9=>
(if 0<=v5/\v5<(aB:Int) then
v0.bind λnt=>
((cell r4.2 nt.block (nt.off+af v5*1)).bind (au .i64)).bind λeV=>
some (.inl ([some (vL v0 aB),some (vI v1),some (vI v5),some (.bool (decide (n9>=eV)))],r4.2))
else none)
else none)
else
some (.inl ([some (vL v0 aB),some (vI v1),some (vI v5),some (.bool false)],r4.2))))
else none))
else none)).bind λj1=>bH j1 λj1=>
K4 j1.1 λiI jz mT M1=>
(if M1=true then
some (1,[some (.bool false)],j1.2)
else
some (0,[some (vL iI.1 iI.2),some (vI jz),some (vI (ag .i64 (mT+1)))],j1.2))
else
some (2,[some (vL v0 aB)],h)):OB):=by kernel_rfl
theorem r85{base:Nat}{v0:Option Addr}{aB:Nat}{v1:Int}{h:AH}{r:Value×AH}(hx:((aF (G2 base) [some (.slice v0 aB aB),some (.int .i64 v1),some (.int .i64 (0:Int))] h).bind λq1=>
(if q1.1=1 then
((ay q1.2.1 0).bind aO).bind λb2=>
some ((.bool b2),q1.2.2)
else
(if q1.1=2 then
((ay q1.2.1 0).bind aN).bind λl3=>
some ((.bool (decide ((l3.2:Int)<=(50:Int)))),q1.2.2)
else
none)))=some r):run (Et base) 85 [(vL v0 aB),(vI v1)] h=some r:=cZ (an:=a85) Tryz.func85 hx
def M2(base:Nat):Body:=gH base TX TZ [1,0,1,0,0] Tryz.f86 TY
theorem vh(base:Nat)(v0:Option Addr)(aB:Nat)(v1:Int)(v5:Int)(h:AH):M2 base [some (vL v0 aB),some (vI v1),some (vI v5)] h =
((if decide (v5<(aB:Int))=true then
(if 0<=v5/\v5<(aB:Int) then
v0.bind λa1=>
((cell h a1.block (a1.off+af v5*1)).bind (au .i64)).bind λn2=>
(if (n2==v1)=true then
some (1,[some (.bool true)],h)
else
some (0,[some (.slice v0 aB aB),some (.int .i64 v1),some (.int .i64 (ag .i64 (v5+1)))],h))
else none)
else
some (2,[],h)):OB):=by kernel_rfl
theorem r86{base:Nat}{v0:Option Addr}{aB:Nat}{v1:Int}{h:AH}{r:Value×AH}(hx:((aF (M2 base) [some (.slice v0 aB aB),some (.int .i64 v1),some (.int .i64 (0:Int))] h).bind λq1=>
(if q1.1=1 then
((ay q1.2.1 0).bind aO).bind λb2=>
some ((.bool b2),q1.2.2)
else
(if q1.1=2 then
some ((.bool false),q1.2.2)
else
none)))=some r):run (Et base) 86 [(vL v0 aB),(vI v1)] h=some r:=cZ (an:=a86) Tryz.func86 hx
def G3(base:Nat):Body:=gH base T0 T3 [1,1,0,1,0,0] Tryz.f87 T1
theorem vi(base:Nat)(v2:Addr)(v3:Addr)(v5:Int)(h:AH):G3 base [some (vA v2),some (vA v3),some (vI v5)] h =
(((cell h v2.block (v2.off+3)).bind aN).bind λl1=>
(if decide (v5<(l1.2:Int))=true then
((cell h v2.block (v2.off+3)).bind aN).bind λl2=>
(if 0<=v5/\v5<(l2.2:Int) then
l2.1.bind λa3=>
aL h a3.block (a3.off+af v5*4) λn4 n5 s6 l7=>
((cell h v3.block (v3.off+3)).bind aN).bind λl8=>
(if 0<=v5/\v5<(l8.2:Int) then
l8.1.bind λa9=>
aL h a9.block (a9.off+af v5*4) λfl eV Mt iN=>
(run (Et base) 87 [(.agg #[(vI n4),(vI n5),(vT s6),(vL l7.1 l7.2)]),(.agg #[(vI fl),(vI eV),(vT Mt),(vL iN.1 iN.2)])] h).bind λrE=>
((some rE.1).bind aO).bind λM1=>
(if (!M1)=true then
some (1,[some (.bool false)],rE.2)
else
some (0,[some (vA v2),some (vA v3),some (vI (ag .i64 (v5+1)))],rE.2))
else none)
else none)
else
some (2,[],h)):OB):=by kernel_rfl
theorem r87{base:Nat}{aV:Int}{aW:Int}{aX:ByteArray}{aY:Option Addr}{aR:Nat}{eO:Int}{eP:Int}{eQ:ByteArray}{eT:Option Addr}{dd:Nat}{h:AH}{r:Value×AH}(hx:(cR h 56 [(vI aV),(vI aW),(vT aX),(vL aY aR)] λh1=>
cR h1 56 [(vI eO),(vI eP),(vT eQ),(vL eT dd)] λh2=>
(((cell h2 (ae h) 0).bind (au .i64)).bind λn4=>
((cell h2 (ae h1) 0).bind (au .i64)).bind λn5=>
(if (n4 != n5)=true then
some (.inl ([some (vP (ae h)),some (vP (ae h1)),some (.bool true)],h2))
else
((cell h2 (ae h) 1).bind (au .i64)).bind λn6=>
((cell h2 (ae h1) 1).bind (au .i64)).bind λn7=>
(if (n6 != n7)=true then
some (.inl ([some (vP (ae h)),some (vP (ae h1)),some (.bool true)],h2))
else
((cell h2 (ae h) 2).bind aK).bind λs8=>
((cell h2 (ae h1) 2).bind aK).bind λs9=>
(if (!(s8.toList==s9.toList))=true then
some (.inl ([some (vP (ae h)),some (vP (ae h1)),some (.bool true)],h2))
else
((cell h2 (ae h) 3).bind aN).bind λep=>
((cell h2 (ae h1) 3).bind aN).bind λfw=>
some (.inl ([some (vP (ae h)),some (vP (ae h1)),some (.bool ((ep.2:Int) != (fw.2:Int)))],h2)))))).bind λj3=>bH j3 λj3=>
Uo j3.1 λd12 d13 zc=>
(if zc=true then
some ((.bool false),j3.2)
else
(aF (G3 base) [some (vA d12),some (vA d13),some (vI 0)] j3.2).bind λu_=>
(if u_.1=1 then
((ay u_.2.1 0).bind aO).bind λrZ=>
some ((.bool rZ),u_.2.2)
else
(if u_.1=2 then
some ((.bool true),u_.2.2)
else
none))))=some r):run (Et base) 87 [(.agg #[(vI aV),(vI aW),(vT aX),(vL aY aR)]),(.agg #[(vI eO),(vI eP),(vT eQ),(vL eT dd)])] h=some r:=cZ (an:=Wf) Tryz.func87 hx
theorem I_{base:Nat}{aV:Int}{aW:Int}{aX:Option Addr}{jd:Nat}{aY:Option Addr}{aR:Nat}{cz:Option Addr}{je:Nat}{h:AH}{r:Value×AH}(hx:(cR h 53 [(vI aV),(vI aW),(vL aX jd),(vL aY aR),(vL cz je)] λh1=>
cR h1 53 [(vI 0),(vI 0),(vL none 0),(vL none 0),(vL none 0)] λh2=>
cR h2 58 [(vI 0),(vI 0),(vI 0),(vI 0),(vI 0),(vT ⟨#[]⟩),(vL none 0)] λh3=>
aZ h3 (ae h) 0 λn4 n5 l6 l7 l8=>
(run (Et base) 92 [(vT (⟨#[102,97,117,108,116]⟩:ByteArray))] h3).bind λr9=>
gG (some r9.1) 4 λep=>
cF ep λeV fS Fg eU=>
(gate (bc h3 r9.2 (some ⟨(ae h),0,none⟩) 5)
((wr base r9.2 (ae h1) 0 [(vI n4),(vI n5),(vL l6.1 l6.2),(vL l7.1 l7.2),(vL l8.1 l8.2)]).bind λpx=>
(wr base px (ae h2) 0 [(vI 7),(vI 0),(vI 0),(vI eV),(vI fS),(vT Fg),(vL eU.1 eU.2)]).bind λCn=>
aZ Cn (ae h1) 0 λnL lE jy kH lD=>
bu Cn (ae h2) 0 λpO qR rD nA u9 s27 ry=>
some ((.tuple #[(.agg #[(vI nL),(vI lE),(vL jy.1 jy.2),(vL kH.1 kH.2),(vL lD.1 lD.2)]),(.agg #[(vI pO),(vI qR),(vI rD),(vI nA),(vI u9),(vT s27),(vL ry.1 ry.2)])]),Cn))))=some r):run (Et base) 88 [(.agg #[(vI aV),(vI aW),(vL aX jd),(vL aY aR),(vL cz je)])] h=some r:=cZ (an:=a88) Tryz.func88 hx
end
end Go.Proofs.YtkdenmdijdmnjaaGreat.Am
