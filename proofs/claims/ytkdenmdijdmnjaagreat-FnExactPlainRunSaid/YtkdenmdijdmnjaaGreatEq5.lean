/- What each of these functions comes to on the abstract machine, one equation a function and one a loop.
Conditions: none. -/
import Derived.Test.YtkdenmdijdmnjaaGreatTb
set_option linter.unusedVariables false
set_option maxRecDepth 100000
namespace Go.Proofs.YtkdenmdijdmnjaaGreat.Am
open Go Go.RowKit
open _root_.List renaming length->ae
noncomputable section
abbrev ad5(base:Nat)(aV:Int)(aW:Int)(aX:Int)(aY:Int)(cz:Int)(dy:ByteArray)(h:AH):OV:=
cR h 89 [(vI aV),(vI aW),(vI aX),(vI aY),(vI cz),(vT dy)] λh1=>
((cell h1 (ae h) 0).bind (au .i64)).bind λn2=>
(run (Et base) 128 [(vI n2)] h1).bind λr3=>
((some r3.1).bind aK).bind λs4=>
cR r3.2 9 [(vT ⟨#[]⟩)] λh5=>
(wr base h5 (ae r3.2) 0 [(vT s4)]).bind λh6=>
((cell h6 (ae r3.2) 0).bind aK).bind λs7=>
(if (!(s7.toList==(⟨#[]⟩:ByteArray).toList))=true then
((run (Et base) 129 [(.int .u8 (65:Int)),(vP (ae r3.2))] h6).bind λr9=>
((some r9.1).bind aO).bind λGJ=>
some ((.bool GJ),r9.2)).bind λr8=>
((some r8.1).bind aO).bind λE'=>
(if E'=true then
((run (Et base) 129 [(.int .u8 (66:Int)),(vP (ae r3.2))] r8.2).bind λlF=>
((some lF.1).bind aO).bind λzc=>
some ((.bool zc),lF.2)).bind λiq=>
((some iq.1).bind aO).bind λM1=>
(if M1=true then
((run (Et base) 129 [(.int .u8 (67:Int)),(vP (ae r3.2))] iq.2).bind λEf=>
((some Ef.1).bind aO).bind λP7=>
some ((.bool P7),Ef.2)).bind λmS=>
((some mS.1).bind aO).bind λLL=>
(if LL=true then
((run (Et base) 129 [(.int .u8 (78:Int)),(vP (ae r3.2))] mS.2).bind λnM=>
((some nM.1).bind aO).bind λb22=>
some ((.bool b22),nM.2)).bind λsZ=>
((some sZ.1).bind aO).bind λb23=>
(if b23=true then
((run (Et base) 129 [(.int .u8 (83:Int)),(vP (ae r3.2))] sZ.2).bind λCs=>
((some Cs.1).bind aO).bind λb26=>
some ((.bool b26),Cs.2)).bind λOq=>
((some Oq.1).bind aO).bind λb27=>
(if b27=true then
some ((.bool true),Oq.2)
else
((cell Oq.2 (ae h) 5).bind aK).bind λs28=>
some ((.bool (s28.toList==(⟨#[]⟩:ByteArray).toList)),Oq.2))
else
((cell sZ.2 (ae h) 4).bind (au .i64)).bind λwz=>
(if (wz==0)=true then
((run (Et base) 129 [(.int .u8 (83:Int)),(vP (ae r3.2))] sZ.2).bind λIp=>
((some Ip.1).bind aO).bind λb32=>
some ((.bool b32),Ip.2)).bind λJa=>
((some Ja.1).bind aO).bind λb33=>
(if b33=true then
some ((.bool true),Ja.2)
else
((cell Ja.2 (ae h) 5).bind aK).bind λs34=>
some ((.bool (s34.toList==(⟨#[]⟩:ByteArray).toList)),Ja.2))
else
some ((.bool false),sZ.2)))
else
((cell mS.2 (ae h) 3).bind (au .i64)).bind λqm=>
(if (qm==0)=true then
((run (Et base) 129 [(.int .u8 (78:Int)),(vP (ae r3.2))] mS.2).bind λr37=>
((some r37.1).bind aO).bind λb38=>
some ((.bool b38),r37.2)).bind λy_=>
((some y_.1).bind aO).bind λb39=>
(if b39=true then
((run (Et base) 129 [(.int .u8 (83:Int)),(vP (ae r3.2))] y_.2).bind λud=>
((some ud.1).bind aO).bind λb42=>
some ((.bool b42),ud.2)).bind λZa=>
((some Za.1).bind aO).bind λb43=>
(if b43=true then
some ((.bool true),Za.2)
else
((cell Za.2 (ae h) 5).bind aK).bind λs44=>
some ((.bool (s44.toList==(⟨#[]⟩:ByteArray).toList)),Za.2))
else
((cell y_.2 (ae h) 4).bind (au .i64)).bind λXV=>
(if (XV==0)=true then
((run (Et base) 129 [(.int .u8 (83:Int)),(vP (ae r3.2))] y_.2).bind λUC=>
((some UC.1).bind aO).bind λb48=>
some ((.bool b48),UC.2)).bind λOz=>
((some Oz.1).bind aO).bind λb49=>
(if b49=true then
some ((.bool true),Oz.2)
else
((cell Oz.2 (ae h) 5).bind aK).bind λs50=>
some ((.bool (s50.toList==(⟨#[]⟩:ByteArray).toList)),Oz.2))
else
some ((.bool false),y_.2)))
else
some ((.bool false),mS.2)))
else
((cell iq.2 (ae h) 2).bind (au .i64)).bind λWx=>
(if (Wx==0)=true then
((run (Et base) 129 [(.int .u8 (67:Int)),(vP (ae r3.2))] iq.2).bind λr53=>
((some r53.1).bind aO).bind λb54=>
some ((.bool b54),r53.2)).bind λXP=>
((some XP.1).bind aO).bind λb55=>
(if b55=true then
((run (Et base) 129 [(.int .u8 (78:Int)),(vP (ae r3.2))] XP.2).bind λXM=>
((some XM.1).bind aO).bind λb58=>
some ((.bool b58),XM.2)).bind λGY=>
((some GY.1).bind aO).bind λb59=>
(if b59=true then
((run (Et base) 129 [(.int .u8 (83:Int)),(vP (ae r3.2))] GY.2).bind λr61=>
((some r61.1).bind aO).bind λb62=>
some ((.bool b62),r61.2)).bind λMB=>
((some MB.1).bind aO).bind λb63=>
(if b63=true then
some ((.bool true),MB.2)
else
((cell MB.2 (ae h) 5).bind aK).bind λs64=>
some ((.bool (s64.toList==(⟨#[]⟩:ByteArray).toList)),MB.2))
else
((cell GY.2 (ae h) 4).bind (au .i64)).bind λPt=>
(if (Pt==0)=true then
((run (Et base) 129 [(.int .u8 (83:Int)),(vP (ae r3.2))] GY.2).bind λUO=>
((some UO.1).bind aO).bind λb68=>
some ((.bool b68),UO.2)).bind λZf=>
((some Zf.1).bind aO).bind λY5=>
(if Y5=true then
some ((.bool true),Zf.2)
else
((cell Zf.2 (ae h) 5).bind aK).bind λs70=>
some ((.bool (s70.toList==(⟨#[]⟩:ByteArray).toList)),Zf.2))
else
some ((.bool false),GY.2)))
else
((cell XP.2 (ae h) 3).bind (au .i64)).bind λn71=>
(if (n71==0)=true then
((run (Et base) 129 [(.int .u8 (78:Int)),(vP (ae r3.2))] XP.2).bind λUM=>
((some UM.1).bind aO).bind λb74=>
some ((.bool b74),UM.2)).bind λOA=>
((some OA.1).bind aO).bind λb75=>
(if b75=true then
((run (Et base) 129 [(.int .u8 (83:Int)),(vP (ae r3.2))] OA.2).bind λXN=>
((some XN.1).bind aO).bind λb78=>
some ((.bool b78),XN.2)).bind λXW=>
((some XW.1).bind aO).bind λb79=>
(if b79=true then
some ((.bool true),XW.2)
else
((cell XW.2 (ae h) 5).bind aK).bind λs80=>
some ((.bool (s80.toList==(⟨#[]⟩:ByteArray).toList)),XW.2))
else
((cell OA.2 (ae h) 4).bind (au .i64)).bind λn81=>
(if (n81==0)=true then
((run (Et base) 129 [(.int .u8 (83:Int)),(vP (ae r3.2))] OA.2).bind λr83=>
((some r83.1).bind aO).bind λb84=>
some ((.bool b84),r83.2)).bind λE1=>
((some E1.1).bind aO).bind λb85=>
(if b85=true then
some ((.bool true),E1.2)
else
((cell E1.2 (ae h) 5).bind aK).bind λs86=>
some ((.bool (s86.toList==(⟨#[]⟩:ByteArray).toList)),E1.2))
else
some ((.bool false),OA.2)))
else
some ((.bool false),XP.2)))
else
some ((.bool false),iq.2)))
else
((cell r8.2 (ae h) 1).bind (au .i64)).bind λn87=>
(if (n87==0)=true then
((run (Et base) 129 [(.int .u8 (66:Int)),(vP (ae r3.2))] r8.2).bind λr89=>
((some r89.1).bind aO).bind λb90=>
some ((.bool b90),r89.2)).bind λI_=>
((some I_.1).bind aO).bind λb91=>
(if b91=true then
((run (Et base) 129 [(.int .u8 (67:Int)),(vP (ae r3.2))] I_.2).bind λr93=>
((some r93.1).bind aO).bind λb94=>
some ((.bool b94),r93.2)).bind λUW=>
((some UW.1).bind aO).bind λb95=>
(if b95=true then
((run (Et base) 129 [(.int .u8 (78:Int)),(vP (ae r3.2))] UW.2).bind λr97=>
((some r97.1).bind aO).bind λb98=>
some ((.bool b98),r97.2)).bind λXZ=>
((some XZ.1).bind aO).bind λb99=>
(if b99=true then
((run (Et base) 129 [(.int .u8 (83:Int)),(vP (ae r3.2))] XZ.2).bind λIy=>
((some Iy.1).bind aO).bind λake=>
some ((.bool ake),Iy.2)).bind λqV=>
((some qV.1).bind aO).bind λakf=>
(if akf=true then
some ((.bool true),qV.2)
else
((cell qV.2 (ae h) 5).bind aK).bind λIx=>
some ((.bool (Ix.toList==(⟨#[]⟩:ByteArray).toList)),qV.2))
else
((cell XZ.2 (ae h) 4).bind (au .i64)).bind λXQ=>
(if (XQ==0)=true then
((run (Et base) 129 [(.int .u8 (83:Int)),(vP (ae r3.2))] XZ.2).bind λQd=>
((some Qd.1).bind aO).bind λakg=>
some ((.bool akg),Qd.2)).bind λzm=>
((some zm.1).bind aO).bind λakh=>
(if akh=true then
some ((.bool true),zm.2)
else
((cell zm.2 (ae h) 5).bind aK).bind λXX=>
some ((.bool (XX.toList==(⟨#[]⟩:ByteArray).toList)),zm.2))
else
some ((.bool false),XZ.2)))
else
((cell UW.2 (ae h) 3).bind (au .i64)).bind λXk=>
(if (Xk==0)=true then
((run (Et base) 129 [(.int .u8 (78:Int)),(vP (ae r3.2))] UW.2).bind λQe=>
((some Qe.1).bind aO).bind λXR=>
some ((.bool XR),Qe.2)).bind λFl=>
((some Fl.1).bind aO).bind λaki=>
(if aki=true then
((run (Et base) 129 [(.int .u8 (83:Int)),(vP (ae r3.2))] Fl.2).bind λM5=>
((some M5.1).bind aO).bind λakj=>
some ((.bool akj),M5.2)).bind λzv=>
((some zv.1).bind aO).bind λakk=>
(if akk=true then
some ((.bool true),zv.2)
else
((cell zv.2 (ae h) 5).bind aK).bind λakl=>
some ((.bool (akl.toList==(⟨#[]⟩:ByteArray).toList)),zv.2))
else
((cell Fl.2 (ae h) 4).bind (au .i64)).bind λL4=>
(if (L4==0)=true then
((run (Et base) 129 [(.int .u8 (83:Int)),(vP (ae r3.2))] Fl.2).bind λQf=>
((some Qf.1).bind aO).bind λakm=>
some ((.bool akm),Qf.2)).bind λIz=>
((some Iz.1).bind aO).bind λakn=>
(if akn=true then
some ((.bool true),Iz.2)
else
((cell Iz.2 (ae h) 5).bind aK).bind λako=>
some ((.bool (ako.toList==(⟨#[]⟩:ByteArray).toList)),Iz.2))
else
some ((.bool false),Fl.2)))
else
some ((.bool false),UW.2)))
else
((cell I_.2 (ae h) 2).bind (au .i64)).bind λakp=>
(if (akp==0)=true then
((run (Et base) 129 [(.int .u8 (67:Int)),(vP (ae r3.2))] I_.2).bind λQg=>
((some Qg.1).bind aO).bind λakq=>
some ((.bool akq),Qg.2)).bind λvj=>
((some vj.1).bind aO).bind λakr=>
(if akr=true then
((run (Et base) 129 [(.int .u8 (78:Int)),(vP (ae r3.2))] vj.2).bind λQh=>
((some Qh.1).bind aO).bind λaks=>
some ((.bool aks),Qh.2)).bind λFq=>
((some Fq.1).bind aO).bind λXY=>
(if XY=true then
((run (Et base) 129 [(.int .u8 (83:Int)),(vP (ae r3.2))] Fq.2).bind λad6=>
((some ad6.1).bind aO).bind λakt=>
some ((.bool akt),ad6.2)).bind λyZ=>
((some yZ.1).bind aO).bind λaku=>
(if aku=true then
some ((.bool true),yZ.2)
else
((cell yZ.2 (ae h) 5).bind aK).bind λakv=>
some ((.bool (akv.toList==(⟨#[]⟩:ByteArray).toList)),yZ.2))
else
((cell Fq.2 (ae h) 4).bind (au .i64)).bind λE6=>
(if (E6==0)=true then
((run (Et base) 129 [(.int .u8 (83:Int)),(vP (ae r3.2))] Fq.2).bind λad7=>
((some ad7.1).bind aO).bind λakw=>
some ((.bool akw),ad7.2)).bind λQi=>
((some Qi.1).bind aO).bind λakx=>
(if akx=true then
some ((.bool true),Qi.2)
else
((cell Qi.2 (ae h) 5).bind aK).bind λaky=>
some ((.bool (aky.toList==(⟨#[]⟩:ByteArray).toList)),Qi.2))
else
some ((.bool false),Fq.2)))
else
((cell vj.2 (ae h) 3).bind (au .i64)).bind λakz=>
(if (akz==0)=true then
((run (Et base) 129 [(.int .u8 (78:Int)),(vP (ae r3.2))] vj.2).bind λad8=>
((some ad8.1).bind aO).bind λWK=>
some ((.bool WK),ad8.2)).bind λM7=>
((some M7.1).bind aO).bind λakA=>
(if akA=true then
((run (Et base) 129 [(.int .u8 (83:Int)),(vP (ae r3.2))] M7.2).bind λad9=>
((some ad9.1).bind aO).bind λakB=>
some ((.bool akB),ad9.2)).bind λQj=>
((some Qj.1).bind aO).bind λakC=>
(if akC=true then
some ((.bool true),Qj.2)
else
((cell Qj.2 (ae h) 5).bind aK).bind λakD=>
some ((.bool (akD.toList==(⟨#[]⟩:ByteArray).toList)),Qj.2))
else
((cell M7.2 (ae h) 4).bind (au .i64)).bind λakE=>
(if (akE==0)=true then
((run (Et base) 129 [(.int .u8 (83:Int)),(vP (ae r3.2))] M7.2).bind λaea=>
((some aea.1).bind aO).bind λakF=>
some ((.bool akF),aea.2)).bind λQk=>
((some Qk.1).bind aO).bind λakG=>
(if akG=true then
some ((.bool true),Qk.2)
else
((cell Qk.2 (ae h) 5).bind aK).bind λakH=>
some ((.bool (akH.toList==(⟨#[]⟩:ByteArray).toList)),Qk.2))
else
some ((.bool false),M7.2)))
else
some ((.bool false),vj.2)))
else
some ((.bool false),I_.2)))
else
some ((.bool false),r8.2)))
else
some ((.bool false),h6))
theorem Iz{base:Nat}{aV:Int}{aW:Int}{aX:Int}{aY:Int}{cz:Int}{dy:ByteArray}{h:AH}{r:Value×AH}(hx:ad5 base aV aW aX aY cz dy h=some r):run (Et base) 122 [(.agg #[(vI aV),(vI aW),(vI aX),(vI aY),(vI cz),(vT dy)])] h=some r:=cZ (an:=KU) Tryz.func122 hx
theorem Qf{base:Nat}{v0:Int}{h:AH}{r:Value×AH}(hx:((run (Et base) 23 [(.int .i64 v0),(.int .i64 (0:Int)),(.int .i64 (7:Int))] h).bind λr1=>
((some r1.1).bind aO).bind λb2=>
some ((.bool b2),r1.2))=some r):run (Et base) 123 [(vI v0)] h=some r:=cZ (an:=aaN) Tryz.func123 hx
def zx(base:Nat):Body:=gH base KV KX [1,0,1,0,0] Tryz.f124 KW
theorem xZ(base:Nat)(v0:ByteArray)(v3:Int)(h:AH):zx base [some (vT v0),some (vI v3)] h =
((if decide (v3<(v0.size:Int))=true then
((if 0<=v3/\v3<(v0.size:Int) then
(run (Et base) 131 [(.int .u8 ((v0.data.toList.getD (Int.toNat v3) 0).toNat:Int))] h).bind λr2=>
((some r2.1).bind aO).bind λb3=>
(if (!b3)=true then
(if (v3==0)=true then
some (.inl ([some (.string v0),some (.int .i64 v3),some (.bool true)],r2.2))
else
(if 0<=v3/\v3<(v0.size:Int) then
(run (Et base) 132 [(.int .u8 ((v0.data.toList.getD (Int.toNat v3) 0).toNat:Int))] r2.2).bind λr4=>
((some r4.1).bind aO).bind λb5=>
some (.inl ([some (.string v0),some (.int .i64 v3),some (.bool (!b5))],r4.2))
else none))
else
some (.inl ([some (.string v0),some (.int .i64 v3),some (.bool false)],r2.2)))
else none)).bind λj1=>bH j1 λj1=>
((ay j1.1 0).bind aK).bind λs6=>
((ay (j1.1.tail) 0).bind (au .i64)).bind λn7=>
((ay (j1.1.tail.tail) 0).bind aO).bind λb8=>
(if b8=true then
some (1,[some (.bool false)],j1.2)
else
some (0,[some (.string s6),some (.int .i64 (IntKind.wrap .i64 (n7+1)))],j1.2))
else
some (2,[some (.string v0)],h)):OB):=by kernel_rfl
theorem E4{base:Nat}{v0:ByteArray}{h:AH}{r:Value×AH}(hx:((aF (zx base) [some (.string v0),some (.int .i64 (0:Int))] h).bind λq1=>
(if q1.1=1 then
((ay q1.2.1 0).bind aO).bind λb2=>
some ((.bool b2),q1.2.2)
else
(if q1.1=2 then
((ay q1.2.1 0).bind aK).bind λs3=>
(run (Et base) 23 [(.int .i64 (s3.size:Int)),(.int .i64 (1:Int)),(.int .i64 (12:Int))] q1.2.2).bind λr4=>
((some r4.1).bind aO).bind λb5=>
some ((.bool b5),r4.2)
else
none)))=some r):run (Et base) 124 [(vT v0)] h=some r:=cZ (an:=aaO) Tryz.func124 hx
abbrev aeb(base:Nat)(aV:Int)(aW:Int)(aX:ByteArray)(aY:Option Addr)(aR:Nat)(h:AH):OV:=
cR h 56 [(vI aV),(vI aW),(vT aX),(vL aY aR)] λh1=>
((cell h1 (ae h) 0).bind (au .i64)).bind λn2=>
(if (n2==1)=true then
((cell h1 (ae h) 1).bind (au .i64)).bind λn3=>
(run (Et base) 23 [(vI n3),(vI (-1000000:Int)),(vI 1000000)] h1).bind λr4=>
((some r4.1).bind aO).bind λb5=>
(if b5=true then
((cell r4.2 (ae h) 2).bind aK).bind λs6=>
(if (s6.toList==(⟨#[]⟩:ByteArray).toList)=true then
((cell r4.2 (ae h) 3).bind aN).bind λl7=>
some ((.bool ((l7.2:Int)==(0:Int))),r4.2)
else
some ((.bool false),r4.2))
else
some ((.bool false),r4.2))
else
(if (n2==2)=true then
((cell h1 (ae h) 1).bind (au .i64)).bind λn8=>
(if (n8==0)=true then
((cell h1 (ae h) 2).bind aK).bind λs9=>
(run (Et base) 124 [(vT s9)] h1).bind λql=>
((some ql.1).bind aO).bind λE'=>
(if E'=true then
((cell ql.2 (ae h) 3).bind aN).bind λiI=>
some ((.bool ((iI.2:Int)==(0:Int))),ql.2)
else
some ((.bool false),ql.2))
else
some ((.bool false),h1))
else
(if (n2==3)=true then
((cell h1 (ae h) 1).bind (au .i64)).bind λjz=>
(run (Et base) 23 [(vI jz),(vI 0),(vI 99999)] h1).bind λrE=>
((some rE.1).bind aO).bind λM1=>
(if M1=true then
((cell rE.2 (ae h) 2).bind aK).bind λPU=>
(if (PU.toList==(⟨#[]⟩:ByteArray).toList)=true then
((cell rE.2 (ae h) 3).bind aN).bind λiz=>
some ((.bool ((iz.2:Int)==(0:Int))),rE.2)
else
some ((.bool false),rE.2))
else
some ((.bool false),rE.2))
else
(if (n2==4)=true then
((cell h1 (ae h) 1).bind (au .i64)).bind λlE=>
(if (lE==0)=true then
((cell h1 (ae h) 2).bind aK).bind λP8=>
(if (P8.toList==(⟨#[]⟩:ByteArray).toList)=true then
((cell h1 (ae h) 3).bind aN).bind λkH=>
some ((.bool (decide ((kH.2:Int)<=(8:Int)))),h1)
else
some ((.bool false),h1))
else
some ((.bool false),h1))
else
(if (n2==5)=true then
((cell h1 (ae h) 1).bind (au .i64)).bind λtE=>
(if (tE==0)=true then
((cell h1 (ae h) 2).bind aK).bind λs22=>
(if (s22.toList==(⟨#[]⟩:ByteArray).toList)=true then
((cell h1 (ae h) 3).bind aN).bind λnQ=>
some ((.bool (decide ((nQ.2:Int)<=(20:Int)))),h1)
else
some ((.bool false),h1))
else
some ((.bool false),h1))
else
(if (n2==6)=true then
((cell h1 (ae h) 1).bind (au .i64)).bind λrD=>
(if (rD==0)=true then
((cell h1 (ae h) 2).bind aK).bind λIu=>
(if decide ((Iu.size:Int)<=(40:Int))=true then
((cell h1 (ae h) 3).bind aN).bind λpv=>
some ((.bool ((pv.2:Int)==(0:Int))),h1)
else
some ((.bool false),h1))
else
some ((.bool false),h1))
else
some ((.bool false),h1)))))))
theorem akI{base:Nat}{aV:Int}{aW:Int}{aX:ByteArray}{aY:Option Addr}{aR:Nat}{h:AH}{r:Value×AH}(hx:aeb base aV aW aX aY aR h=some r):run (Et base) 125 [(.agg #[(vI aV),(vI aW),(vT aX),(vL aY aR)])] h=some r:=cZ (an:=aaP) Tryz.func125 hx
def Fs(base:Nat):Body:=gH base KY K0 [1,0,1,0,0] Tryz.f126 KZ
theorem sr(base:Nat)(v0:ByteArray)(v1:Int)(v5:Int)(h:AH):Fs base [some (vT v0),some (.int .u8 v1),some (vI v5)] h =
((if decide (v5<(v0.size:Int))=true then
(if 0<=v5/\v5<(v0.size:Int) then
(if (((v0.data.toList.getD (Int.toNat v5) 0).toNat:Int)==v1)=true then
some (1,[some (.bool true)],h)
else
some (0,[some (.string v0),some (.int .u8 v1),some (.int .i64 (IntKind.wrap .i64 (v5+1)))],h))
else none)
else
some (2,[],h)):OB):=by kernel_rfl
theorem akJ{base:Nat}{v0:ByteArray}{v1:Int}{h:AH}{r:Value×AH}(hx:((aF (Fs base) [some (.string v0),some (.int .u8 v1),some (.int .i64 (0:Int))] h).bind λq1=>
(if q1.1=1 then
((ay q1.2.1 0).bind aO).bind λb2=>
some ((.bool b2),q1.2.2)
else
(if q1.1=2 then
some ((.bool false),q1.2.2)
else
none)))=some r):run (Et base) 126 [(vT v0),(.int .u8 v1)] h=some r:=cZ (an:=aaQ) Tryz.func126 hx
abbrev aec(base:Nat)(aV:Int)(aW:Int)(aX:ByteArray)(aY:Option Addr)(aR:Nat)(h:AH):OV:=
cR h 56 [(vI aV),(vI aW),(vT aX),(vL aY aR)] λh1=>
((cell h1 (ae h) 3).bind aN).bind λl2=>
((cell h1 (ae h) 0).bind (au .i64)).bind λn3=>
(if (n3==1)=true then
((cell h1 (ae h) 1).bind (au .i64)).bind λn4=>
(run (Et base) 16 [(vI n4),(vI (-1000000:Int)),(vI 1000000)] h1).bind λr5=>
((some r5.1).bind aO).bind λb6=>
(if b6=true then
((cell r5.2 (ae h) 2).bind aK).bind λs7=>
(if (s7.toList==(⟨#[]⟩:ByteArray).toList)=true then
some ((.bool ((l2.2:Int)==(0:Int))),r5.2)
else
some ((.bool false),r5.2))
else
some ((.bool false),r5.2))
else
(if (n3==2)=true then
((cell h1 (ae h) 2).bind aK).bind λs8=>
(run (Et base) 114 [(vT s8)] h1).bind λr9=>
((some r9.1).bind aO).bind λGJ=>
(if GJ=true then
((cell r9.2 (ae h) 1).bind (au .i64)).bind λeV=>
(if (eV==0)=true then
some ((.bool ((l2.2:Int)==(0:Int))),r9.2)
else
some ((.bool false),r9.2))
else
some ((.bool false),r9.2))
else
(if (n3==3)=true then
((cell h1 (ae h) 1).bind (au .i64)).bind λfS=>
(run (Et base) 16 [(vI fS),(vI 0),(vI 99999)] h1).bind λlF=>
((some lF.1).bind aO).bind λzc=>
(if zc=true then
((cell lF.2 (ae h) 2).bind aK).bind λLQ=>
(if (LQ.toList==(⟨#[]⟩:ByteArray).toList)=true then
some ((.bool ((l2.2:Int)==(0:Int))),lF.2)
else
some ((.bool false),lF.2))
else
some ((.bool false),lF.2))
else
(if (n3==4)=true then
((cell h1 (ae h) 1).bind (au .i64)).bind λlC=>
(if (lC==0)=true then
((cell h1 (ae h) 2).bind aK).bind λs17=>
(if (s17.toList==(⟨#[]⟩:ByteArray).toList)=true then
some ((.bool (decide ((l2.2:Int)<=(8:Int)))),h1)
else
some ((.bool false),h1))
else
some ((.bool false),h1))
else
(if (n3==5)=true then
((cell h1 (ae h) 1).bind (au .i64)).bind λlE=>
(if (lE==0)=true then
((cell h1 (ae h) 2).bind aK).bind λP8=>
(if (P8.toList==(⟨#[]⟩:ByteArray).toList)=true then
some ((.bool (decide ((l2.2:Int)<=(20:Int)))),h1)
else
some ((.bool false),h1))
else
some ((.bool false),h1))
else
(if (n3==6)=true then
((cell h1 (ae h) 1).bind (au .i64)).bind λpK=>
(if (pK==0)=true then
((cell h1 (ae h) 2).bind aK).bind λXf=>
(if decide ((Xf.size:Int)<=(40:Int))=true then
some ((.bool ((l2.2:Int)==(0:Int))),h1)
else
some ((.bool false),h1))
else
some ((.bool false),h1))
else
some ((.bool false),h1)))))))
theorem akK{base:Nat}{aV:Int}{aW:Int}{aX:ByteArray}{aY:Option Addr}{aR:Nat}{h:AH}{r:Value×AH}(hx:aec base aV aW aX aY aR h=some r):run (Et base) 127 [(.agg #[(vI aV),(vI aW),(vT aX),(vL aY aR)])] h=some r:=cZ (an:=aaR) Tryz.func127 hx
abbrev UX(base:Nat)(v0:Int)(h:AH):OV:=
(if (v0==1)=true then
some ((vT (⟨#[65,78]⟩:ByteArray)),h)
else
(if (v0==2)=true then
some ((vT (⟨#[65,83]⟩:ByteArray)),h)
else
((if (v0==3)=true then
some (.inl ([some (vI v0),some (.bool (v0==3))],h))
else
(if (v0==7)=true then
some (.inl ([some (vI v0),some (.bool (v0==7))],h))
else
(if (v0==8)=true then
some (.inl ([some (vI v0),some (.bool (v0==8))],h))
else
some (.inl ([some (vI v0),some (.bool (v0==13))],h)))))).bind λj1=>bH j1 λj1=>
Pn j1.1 λn2 b3=>
(if b3=true then
some ((vT (⟨#[65,66]⟩:ByteArray)),j1.2)
else
((if (n2==4)=true then
some (.inl ([some (vI n2),some (.bool (n2==4))],j1.2))
else
(if (n2==6)=true then
some (.inl ([some (vI n2),some (.bool (n2==6))],j1.2))
else
(if (n2==10)=true then
some (.inl ([some (vI n2),some (.bool (n2==10))],j1.2))
else
(if (n2==11)=true then
some (.inl ([some (vI n2),some (.bool (n2==11))],j1.2))
else
some (.inl ([some (vI n2),some (.bool (n2==16))],j1.2))))))).bind λj4=>bH j4 λj4=>
Pn j4.1 λn5 b6=>
(if b6=true then
some ((vT (⟨#[65,66,78]⟩:ByteArray)),j4.2)
else
((if (n5==5)=true then
some (.inl ([some (vI n5),some (.bool (n5==5))],j4.2))
else
some (.inl ([some (vI n5),some (.bool (n5==9))],j4.2)))).bind λj7=>bH j7 λj7=>
Pn j7.1 λn8 b9=>
(if b9=true then
some ((vT (⟨#[65,66,67]⟩:ByteArray)),j7.2)
else
(if (n8==12)=true then
some ((vT (⟨#[78]⟩:ByteArray)),j7.2)
else
((if (n8==14)=true then
some (.inl ([some (.bool (n8==14))],j7.2))
else
(if (n8==15)=true then
some (.inl ([some (.bool (n8==15))],j7.2))
else
(if (n8==17)=true then
some (.inl ([some (.bool (n8==17))],j7.2))
else
(if (n8==18)=true then
some (.inl ([some (.bool (n8==18))],j7.2))
else
(if (n8==19)=true then
some (.inl ([some (.bool (n8==19))],j7.2))
else
some (.inl ([some (.bool (n8==20))],j7.2)))))))).bind λwg=>bH wg λwg=>
((ay wg.1 0).bind aO).bind λE'=>
(if E'=true then
some ((vT (⟨#[65]⟩:ByteArray)),wg.2)
else
some ((vT (⟨#[]⟩:ByteArray)),wg.2))))))))
theorem vj{base:Nat}{v0:Int}{h:AH}{r:Value×AH}(hx:UX base v0 h=some r):run (Et base) 128 [(vI v0)] h=some r:=cZ (an:=aaS) Tryz.func128 hx
theorem Qg{base:Nat}{v0:Int}{w0:Addr}{h:AH}{r:Value×AH}(hx:(((cell h w0.block w0.off).bind aK).bind λs1=>
(run (Et base) 130 [(.string s1),(.int .u8 v0)] h).bind λr2=>
((some r2.1).bind (au .i64)).bind λn3=>
some ((.bool (decide (n3>=0))),r2.2))=some r):run (Et base) 129 [(.int .u8 v0),(vA w0)] h=some r:=cZ (an:=aaT) Tryz.func129 hx
theorem Py{base:Nat}{v0:ByteArray}{v1:Int}{h:AH}{r:Value×AH}(hx:((run (Et base) 133 [(.string v0),(.int .u8 v1)] h).bind λr1=>
((some r1.1).bind (au .i64)).bind λn2=>
some ((.int .i64 n2),r1.2))=some r):run (Et base) 130 [(vT v0),(.int .u8 v1)] h=some r:=cZ (an:=aaU) Tryz.func130 hx
theorem akL{base:Nat}{v0:Int}{h:AH}{r:Value×AH}(hx:((if decide (v0>=97)=true then
some ((.bool (decide (v0<=122))),h)
else
some ((.bool false),h)))=some r):run (Et base) 131 [(.int .u8 v0)] h=some r:=cZ (an:=aaV) Tryz.func131 hx
theorem Fq{base:Nat}{v0:Int}{h:AH}{r:Value×AH}(hx:((if decide (v0>=48)=true then
some ((.bool (decide (v0<=57))),h)
else
some ((.bool false),h)))=some r):run (Et base) 132 [(.int .u8 v0)] h=some r:=cZ (an:=aaW) Tryz.func132 hx
theorem Qh{base:Nat}{v0:ByteArray}{v1:Int}{h:AH}{r:Value×AH}(hx:(some ((.int .i64 (firstIdx v0 (Nat.toUInt8 (Int.toNat v1)))),h))=some r):run (Et base) 133 [(vT v0),(.int .u8 v1)] h=some r:=cZ (an:=aaX) Tryz.func133 hx
end
end Go.Proofs.YtkdenmdijdmnjaaGreat.Am
