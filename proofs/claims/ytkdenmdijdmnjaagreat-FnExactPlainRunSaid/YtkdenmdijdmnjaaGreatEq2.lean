/- What each of these functions comes to on the abstract machine, one equation a function and one a loop.
Conditions: none. -/
import Derived.Test.YtkdenmdijdmnjaaGreatTb
set_option linter.unusedVariables false
set_option maxRecDepth 100000
namespace Go.Proofs.YtkdenmdijdmnjaaGreat.Am
open Go Go.RowKit
open _root_.Go.IntKind renaming wrap->ag
open _root_.Int renaming toNat->af
open _root_.List renaming length->ae
noncomputable section
def Mr(base:Nat):Body:=gH base R9 Sa [1,1,0,1,0,0] Tryz.f28 R_
theorem Cv(base:Nat)(v0:Option Addr)(aB:Nat)(v1:Option Addr)(gW:Nat)(v5:Int)(h:AH):Mr base [some (vL v0 aB),some (vL v1 gW),some (vI v5)] h =
((if decide (v5<(aB:Int))=true then
(if 0<=v5/\v5<(aB:Int) then
v0.bind λa1=>
aZ h a1.block (a1.off+af v5*5) λn2 n3 l4 l5 l6=>
(if 0<=v5/\v5<(gW:Int) then
v1.bind λa7=>
aZ h a7.block (a7.off+af v5*5) λn8 n9 ep fw iI=>
(run (Et base) 71 [(.agg #[(vI n2),(vI n3),(vL l4.1 l4.2),(vL l5.1 l5.2),(vL l6.1 l6.2)]),(.agg #[(vI n8),(vI n9),(vL ep.1 ep.2),(vL fw.1 fw.2),(vL iI.1 iI.2)])] h).bind λlF=>
((some lF.1).bind aO).bind λzc=>
(if (!zc)=true then
some (1,[some (.bool false)],lF.2)
else
some (0,[some (vL v0 aB),some (vL v1 gW),some (vI (ag .i64 (v5+1)))],lF.2))
else none)
else none)
else
some (2,[],h)):OB):=by kernel_rfl
theorem r28{base:Nat}{v0:Option Addr}{aB:Nat}{v1:Option Addr}{gW:Nat}{h:AH}{r:Value×AH}(hx:((if ((aB:Int) != (gW:Int))=true then
some ((.bool false),h)
else
(aF (Mr base) [some (.slice v0 aB aB),some (.slice v1 gW gW),some (.int .i64 (0:Int))] h).bind λq1=>
(if q1.1=1 then
((ay q1.2.1 0).bind aO).bind λb2=>
some ((.bool b2),q1.2.2)
else
(if q1.1=2 then
some ((.bool true),q1.2.2)
else
none))))=some r):run (Et base) 28 [(vL v0 aB),(vL v1 gW)] h=some r:=cZ (an:=a28) Tryz.func28 hx
def GQ(base:Nat):Body:=gH base Sb Sf [1,1,0,1,0,0] Tryz.f29 Se
theorem Cw(base:Nat)(v0:Option Addr)(aB:Nat)(v1:Option Addr)(gW:Nat)(v5:Int)(h:AH):GQ base [some (vL v0 aB),some (vL v1 gW),some (vI v5)] h =
((if decide (v5<(aB:Int))=true then
(if 0<=v5/\v5<(aB:Int) then
v0.bind λa1=>
gV h a1.block (a1.off+af v5*6) λn2 n3 n4 n5 s6 l7=>
(if 0<=v5/\v5<(gW:Int) then
v1.bind λa8=>
gV h a8.block (a8.off+af v5*6) λn9 fl eV fS Fg eU=>
(run (Et base) 72 [(.agg #[(vI n2),(vI n3),(vI n4),(vI n5),(vT s6),(vL l7.1 l7.2)]),(.agg #[(vI n9),(vI fl),(vI eV),(vI fS),(vT Fg),(vL eU.1 eU.2)])] h).bind λjR=>
((some jR.1).bind aO).bind λrZ=>
(if (!rZ)=true then
some (1,[some (.bool false)],jR.2)
else
some (0,[some (vL v0 aB),some (vL v1 gW),some (vI (ag .i64 (v5+1)))],jR.2))
else none)
else none)
else
some (2,[],h)):OB):=by kernel_rfl
theorem r29{base:Nat}{v0:Option Addr}{aB:Nat}{v1:Option Addr}{gW:Nat}{h:AH}{r:Value×AH}(hx:((if ((aB:Int) != (gW:Int))=true then
some ((.bool false),h)
else
(aF (GQ base) [some (.slice v0 aB aB),some (.slice v1 gW gW),some (.int .i64 (0:Int))] h).bind λq1=>
(if q1.1=1 then
((ay q1.2.1 0).bind aO).bind λb2=>
some ((.bool b2),q1.2.2)
else
(if q1.1=2 then
some ((.bool true),q1.2.2)
else
none))))=some r):run (Et base) 29 [(vL v0 aB),(vL v1 gW)] h=some r:=cZ (an:=Sg) Tryz.func29 hx
def Ms(base:Nat):Body:=gH base Sh Sj [1,0,1,0,0] Tryz.f30 Si
theorem Cy(base:Nat)(v0:Option Addr)(aB:Nat)(v1:Int)(v5:Int)(h:AH):Ms base [some (vL v0 aB),some (vI v1),some (vI v5)] h =
((if decide (v5<(aB:Int))=true then
(if 0<=v5/\v5<(aB:Int) then
v0.bind λa1=>
(wr base h a1.block ((a1.off+af v5*6)+0) [(vI v1)]).bind λh2=>
(if 0<=v5/\v5<(aB:Int) then
v0.bind λa3=>
(wr base h2 a3.block ((a3.off+af v5*6)+1) [(vI (ag .i64 (v1+1)))]).bind λh4=>
(if 0<=v5/\v5<(aB:Int) then
v0.bind λa5=>
(wr base h4 a5.block ((a5.off+af v5*6)+2) [(vI (ag .i64 ((ag .i64 (v1+1))+1)))]).bind λh6=>
(if 0<=v5/\v5<(aB:Int) then
v0.bind λa7=>
(wr base h6 a7.block ((a7.off+af v5*6)+3) [(vI (ag .i64 ((ag .i64 ((ag .i64 (v1+1))+1))+1)))]).bind λh8=>
(if 0<=v5/\v5<(aB:Int) then
v0.bind λa9=>
(wr base h8 a9.block ((a9.off+af v5*6)+4) [(vI (ag .i64 ((ag .i64 ((ag .i64 ((ag .i64 (v1+1))+1))+1))+1)))]).bind λiO=>
(run (Et base) 73 [(vI (ag .i64 ((ag .i64 ((ag .i64 ((ag .i64 ((ag .i64 (v1+1))+1))+1))+1))+1)))] iO).bind λiY=>
((some iY.1).bind aK).bind λMt=>
(if 0<=v5/\v5<(aB:Int) then
v0.bind λmy=>
(wr base iY.2 my.block ((my.off+af v5*6)+5) [(vT Mt)]).bind λA5=>
some (0,[some (vL v0 aB),some (vI (ag .i64 ((ag .i64 ((ag .i64 ((ag .i64 ((ag .i64 ((ag .i64 (v1+1))+1))+1))+1))+1))+1))),some (vI (ag .i64 (v5+1)))],A5)
else none)
else none)
else none)
else none)
else none)
else none)
else
some (2,[some (vI v1)],h)):OB):=by kernel_rfl
theorem Ja{base:Nat}{v0:Option Addr}{aB:Nat}{v1:Int}{h:AH}{r:Value×AH}(hx:((aF (Ms base) [some (.slice v0 aB aB),some (.int .i64 v1),some (.int .i64 (0:Int))] h).bind λq1=>
(if q1.1=2 then
((ay q1.2.1 0).bind (au .i64)).bind λn2=>
some ((.int .i64 n2),q1.2.2)
else
none))=some r):run (Et base) 30 [(vL v0 aB),(vI v1)] h=some r:=cZ (an:=A2) Tryz.func30 hx
def Mu(base:Nat):Body:=gH base Sk Sn [1,0,1,0,0] Tryz.f31 Sm
theorem Cz(base:Nat)(v0:Option Addr)(aB:Nat)(v1:Int)(v5:Int)(h:AH):Mu base [some (vL v0 aB),some (vI v1),some (vI v5)] h =
((if decide (v5<(aB:Int))=true then
(if 0<=v5/\v5<(aB:Int) then
v0.bind λa1=>
(wr base h a1.block ((a1.off+af v5*5)+0) [(vI v1)]).bind λh2=>
(if 0<=v5/\v5<(aB:Int) then
v0.bind λa3=>
(wr base h2 a3.block ((a3.off+af v5*5)+1) [(vI (ag .i64 (v1+1)))]).bind λh4=>
(if 0<=v5/\v5<(aB:Int) then
v0.bind λa5=>
((cell h4 a5.block ((a5.off+af v5*5)+2)).bind aN).bind λl6=>
(run (Et base) 74 [(vL l6.1 l6.2),(vI (ag .i64 ((ag .i64 (v1+1))+1)))] h4).bind λr7=>
((some r7.1).bind (au .i64)).bind λn8=>
(if 0<=v5/\v5<(aB:Int) then
v0.bind λa9=>
((cell r7.2 a9.block ((a9.off+af v5*5)+3)).bind aN).bind λep=>
(run (Et base) 74 [(vL ep.1 ep.2),(vI n8)] r7.2).bind λiY=>
((some iY.1).bind (au .i64)).bind λfS=>
(if 0<=v5/\v5<(aB:Int) then
v0.bind λmy=>
((cell iY.2 my.block ((my.off+af v5*5)+4)).bind aN).bind λeU=>
(run (Et base) 75 [(vL eU.1 eU.2),(vI fS)] iY.2).bind λjR=>
((some jR.1).bind (au .i64)).bind λlC=>
some (0,[some (vL v0 aB),some (vI lC),some (vI (ag .i64 (v5+1)))],jR.2)
else none)
else none)
else none)
else none)
else none)
else
some (2,[some (vI v1)],h)):OB):=by kernel_rfl
theorem Ip{base:Nat}{v0:Option Addr}{aB:Nat}{v1:Int}{h:AH}{r:Value×AH}(hx:((aF (Mu base) [some (.slice v0 aB aB),some (.int .i64 v1),some (.int .i64 (0:Int))] h).bind λq1=>
(if q1.1=2 then
((ay q1.2.1 0).bind (au .i64)).bind λn2=>
some ((.int .i64 n2),q1.2.2)
else
none))=some r):run (Et base) 31 [(vL v0 aB),(vI v1)] h=some r:=cZ (an:=a31) Tryz.func31 hx
def Mv(base:Nat):Body:=gH base Sp Sr [1,0,1,0,0] Tryz.f32 Sq
theorem CA(base:Nat)(v0:Option Addr)(aB:Nat)(v1:Int)(v5:Int)(h:AH):Mv base [some (vL v0 aB),some (vI v1),some (vI v5)] h =
((if decide (v5<(aB:Int))=true then
(if 0<=v5/\v5<(aB:Int) then
v0.bind λa1=>
(wr base h a1.block ((a1.off+af v5*6)+0) [(vI v1)]).bind λh2=>
(if 0<=v5/\v5<(aB:Int) then
v0.bind λa3=>
(wr base h2 a3.block ((a3.off+af v5*6)+1) [(vI (ag .i64 (v1+1)))]).bind λh4=>
(if 0<=v5/\v5<(aB:Int) then
v0.bind λa5=>
(wr base h4 a5.block (((a5.off+af v5*6)+2)+0) [(vI (ag .i64 ((ag .i64 (v1+1))+1)))]).bind λh6=>
(if 0<=v5/\v5<(aB:Int) then
v0.bind λa7=>
(wr base h6 a7.block (((a7.off+af v5*6)+2)+1) [(vI (ag .i64 ((ag .i64 ((ag .i64 (v1+1))+1))+1)))]).bind λh8=>
(run (Et base) 73 [(vI (ag .i64 ((ag .i64 ((ag .i64 ((ag .i64 (v1+1))+1))+1))+1)))] h8).bind λr9=>
((some r9.1).bind aK).bind λsf=>
(if 0<=v5/\v5<(aB:Int) then
v0.bind λyT=>
(wr base r9.2 yT.block (((yT.off+af v5*6)+2)+2) [(vT sf)]).bind λlZ=>
(if 0<=v5/\v5<(aB:Int) then
v0.bind λmy=>
((cell lZ my.block (((my.off+af v5*6)+2)+3)).bind aN).bind λeU=>
(run (Et base) 74 [(vL eU.1 eU.2),(vI (ag .i64 ((ag .i64 ((ag .i64 ((ag .i64 ((ag .i64 (v1+1))+1))+1))+1))+1)))] lZ).bind λjR=>
((some jR.1).bind (au .i64)).bind λlC=>
some (0,[some (vL v0 aB),some (vI lC),some (vI (ag .i64 (v5+1)))],jR.2)
else none)
else none)
else none)
else none)
else none)
else none)
else
some (2,[some (vI v1)],h)):OB):=by kernel_rfl
theorem Ur{base:Nat}{v0:Option Addr}{aB:Nat}{v1:Int}{h:AH}{r:Value×AH}(hx:((aF (Mv base) [some (.slice v0 aB aB),some (.int .i64 v1),some (.int .i64 (0:Int))] h).bind λq1=>
(if q1.1=2 then
((ay q1.2.1 0).bind (au .i64)).bind λn2=>
some ((.int .i64 n2),q1.2.2)
else
none))=some r):run (Et base) 32 [(vL v0 aB),(vI v1)] h=some r:=cZ (an:=GC) Tryz.func32 hx
def Mw(base:Nat):Body:=gH base Ss Sv [1,0,1,0,0] Tryz.f33 Su
theorem CD(base:Nat)(v0:Option Addr)(aB:Nat)(v1:Int)(v5:Int)(h:AH):Mw base [some (vL v0 aB),some (vI v1),some (vI v5)] h =
((if decide (v5<(aB:Int))=true then
(if 0<=v5/\v5<(aB:Int) then
v0.bind λa1=>
((cell h a1.block ((a1.off+af v5*6)+0)).bind (au .i64)).bind λn2=>
(if (n2 != v1)=true then
some (1,[some (vI (-1:Int))],h)
else
(if 0<=v5/\v5<(aB:Int) then
v0.bind λa3=>
((cell h a3.block ((a3.off+af v5*6)+1)).bind (au .i64)).bind λn4=>
(if (n4 != (ag .i64 (v1+1)))=true then
some (1,[some (vI (-1:Int))],h)
else
(if 0<=v5/\v5<(aB:Int) then
v0.bind λa5=>
((cell h a5.block ((a5.off+af v5*6)+2)).bind (au .i64)).bind λn6=>
(if (n6 != (ag .i64 ((ag .i64 (v1+1))+1)))=true then
some (1,[some (vI (-1:Int))],h)
else
(if 0<=v5/\v5<(aB:Int) then
v0.bind λa7=>
((cell h a7.block ((a7.off+af v5*6)+3)).bind (au .i64)).bind λn8=>
(if (n8 != (ag .i64 ((ag .i64 ((ag .i64 (v1+1))+1))+1)))=true then
some (1,[some (vI (-1:Int))],h)
else
(if 0<=v5/\v5<(aB:Int) then
v0.bind λa9=>
((cell h a9.block ((a9.off+af v5*6)+4)).bind (au .i64)).bind λfl=>
(if (fl != (ag .i64 ((ag .i64 ((ag .i64 ((ag .i64 (v1+1))+1))+1))+1)))=true then
some (1,[some (vI (-1:Int))],h)
else
(if 0<=v5/\v5<(aB:Int) then
v0.bind λyT=>
((cell h yT.block ((yT.off+af v5*6)+5)).bind aK).bind λMt=>
(run (Et base) 73 [(vI (ag .i64 ((ag .i64 ((ag .i64 ((ag .i64 ((ag .i64 (v1+1))+1))+1))+1))+1)))] h).bind λlF=>
((some lF.1).bind aK).bind λE_=>
(gate (bc h lF.2 (some ⟨yT.block,((yT.off+af v5*6)+5),none⟩) 1)
((if (!(Mt.toList==E_.toList))=true then
some (1,[some (vI (-1:Int))],lF.2)
else
some (0,[some (vL v0 aB),some (vI (ag .i64 ((ag .i64 ((ag .i64 ((ag .i64 ((ag .i64 ((ag .i64 (v1+1))+1))+1))+1))+1))+1))),some (vI (ag .i64 (v5+1)))],lF.2))))
else none))
else none))
else none))
else none))
else none))
else none)
else
some (2,[some (vI v1)],h)):OB):=by kernel_rfl
theorem Ow{base:Nat}{v0:Option Addr}{aB:Nat}{v1:Int}{h:AH}{r:Value×AH}(hx:((aF (Mw base) [some (.slice v0 aB aB),some (.int .i64 v1),some (.int .i64 (0:Int))] h).bind λq1=>
(if q1.1=1 then
((ay q1.2.1 0).bind (au .i64)).bind λn2=>
some ((.int .i64 n2),q1.2.2)
else
(if q1.1=2 then
((ay q1.2.1 0).bind (au .i64)).bind λn3=>
some ((.int .i64 n3),q1.2.2)
else
none)))=some r):run (Et base) 33 [(vL v0 aB),(vI v1)] h=some r:=cZ (an:=a33) Tryz.func33 hx
def Mx(base:Nat):Body:=gH base Sx SA [1,0,1,0,0] Tryz.f34 Sy
theorem CE(base:Nat)(v0:Option Addr)(aB:Nat)(v1:Int)(v5:Int)(h:AH):Mx base [some (vL v0 aB),some (vI v1),some (vI v5)] h =
((if decide (v5<(aB:Int))=true then
(if 0<=v5/\v5<(aB:Int) then
v0.bind λa1=>
((cell h a1.block ((a1.off+af v5*5)+0)).bind (au .i64)).bind λn2=>
(if (n2 != v1)=true then
some (1,[some (vI (-1:Int))],h)
else
(if 0<=v5/\v5<(aB:Int) then
v0.bind λa3=>
((cell h a3.block ((a3.off+af v5*5)+1)).bind (au .i64)).bind λn4=>
(if (n4 != (ag .i64 (v1+1)))=true then
some (1,[some (vI (-1:Int))],h)
else
(if 0<=v5/\v5<(aB:Int) then
v0.bind λa5=>
((cell h a5.block ((a5.off+af v5*5)+2)).bind aN).bind λl6=>
(run (Et base) 76 [(vL l6.1 l6.2),(vI (ag .i64 ((ag .i64 (v1+1))+1)))] h).bind λr7=>
((some r7.1).bind (au .i64)).bind λn8=>
(if decide (n8<0)=true then
some (1,[some (vI (-1:Int))],r7.2)
else
(if 0<=v5/\v5<(aB:Int) then
v0.bind λa9=>
((cell r7.2 a9.block ((a9.off+af v5*5)+3)).bind aN).bind λep=>
(run (Et base) 76 [(vL ep.1 ep.2),(vI n8)] r7.2).bind λiY=>
((some iY.1).bind (au .i64)).bind λfS=>
(if decide (fS<0)=true then
some (1,[some (vI (-1:Int))],iY.2)
else
(if 0<=v5/\v5<(aB:Int) then
v0.bind λmy=>
((cell iY.2 my.block ((my.off+af v5*5)+4)).bind aN).bind λeU=>
(run (Et base) 77 [(vL eU.1 eU.2),(vI fS)] iY.2).bind λjR=>
((some jR.1).bind (au .i64)).bind λlC=>
(if decide (lC<0)=true then
some (1,[some (vI (-1:Int))],jR.2)
else
some (0,[some (vL v0 aB),some (vI lC),some (vI (ag .i64 (v5+1)))],jR.2))
else none))
else none))
else none))
else none))
else none)
else
some (2,[some (vI v1)],h)):OB):=by kernel_rfl
theorem Ox{base:Nat}{v0:Option Addr}{aB:Nat}{v1:Int}{h:AH}{r:Value×AH}(hx:((aF (Mx base) [some (.slice v0 aB aB),some (.int .i64 v1),some (.int .i64 (0:Int))] h).bind λq1=>
(if q1.1=1 then
((ay q1.2.1 0).bind (au .i64)).bind λn2=>
some ((.int .i64 n2),q1.2.2)
else
(if q1.1=2 then
((ay q1.2.1 0).bind (au .i64)).bind λn3=>
some ((.int .i64 n3),q1.2.2)
else
none)))=some r):run (Et base) 34 [(vL v0 aB),(vI v1)] h=some r:=cZ (an:=xE) Tryz.func34 hx
def My(base:Nat):Body:=gH base SB SD [1,0,1,0,0] Tryz.f35 SC
theorem CF(base:Nat)(v0:Option Addr)(aB:Nat)(v1:Int)(v5:Int)(h:AH):My base [some (vL v0 aB),some (vI v1),some (vI v5)] h =
((if decide (v5<(aB:Int))=true then
(if 0<=v5/\v5<(aB:Int) then
v0.bind λa1=>
((cell h a1.block ((a1.off+af v5*6)+0)).bind (au .i64)).bind λn2=>
(if (n2 != v1)=true then
some (1,[some (vI (-1:Int))],h)
else
(if 0<=v5/\v5<(aB:Int) then
v0.bind λa3=>
((cell h a3.block ((a3.off+af v5*6)+1)).bind (au .i64)).bind λn4=>
(if (n4 != (ag .i64 (v1+1)))=true then
some (1,[some (vI (-1:Int))],h)
else
(if 0<=v5/\v5<(aB:Int) then
v0.bind λa5=>
((cell h a5.block (((a5.off+af v5*6)+2)+0)).bind (au .i64)).bind λn6=>
(if (n6 != (ag .i64 ((ag .i64 (v1+1))+1)))=true then
some (1,[some (vI (-1:Int))],h)
else
(if 0<=v5/\v5<(aB:Int) then
v0.bind λa7=>
((cell h a7.block (((a7.off+af v5*6)+2)+1)).bind (au .i64)).bind λn8=>
(if (n8 != (ag .i64 ((ag .i64 ((ag .i64 (v1+1))+1))+1)))=true then
some (1,[some (vI (-1:Int))],h)
else
(if 0<=v5/\v5<(aB:Int) then
v0.bind λa9=>
((cell h a9.block (((a9.off+af v5*6)+2)+2)).bind aK).bind λsf=>
(run (Et base) 73 [(vI (ag .i64 ((ag .i64 ((ag .i64 ((ag .i64 (v1+1))+1))+1))+1)))] h).bind λiY=>
((some iY.1).bind aK).bind λMt=>
(gate (bc h iY.2 (some ⟨a9.block,(((a9.off+af v5*6)+2)+2),none⟩) 1)
((if (!(sf.toList==Mt.toList))=true then
some (1,[some (vI (-1:Int))],iY.2)
else
(if 0<=v5/\v5<(aB:Int) then
v0.bind λmy=>
((cell iY.2 my.block (((my.off+af v5*6)+2)+3)).bind aN).bind λeU=>
(run (Et base) 76 [(vL eU.1 eU.2),(vI (ag .i64 ((ag .i64 ((ag .i64 ((ag .i64 ((ag .i64 (v1+1))+1))+1))+1))+1)))] iY.2).bind λjR=>
((some jR.1).bind (au .i64)).bind λlC=>
(if decide (lC<0)=true then
some (1,[some (vI (-1:Int))],jR.2)
else
some (0,[some (vL v0 aB),some (vI lC),some (vI (ag .i64 (v5+1)))],jR.2))
else none))))
else none))
else none))
else none))
else none))
else none)
else
some (2,[some (vI v1)],h)):OB):=by kernel_rfl
theorem Ov{base:Nat}{v0:Option Addr}{aB:Nat}{v1:Int}{h:AH}{r:Value×AH}(hx:((aF (My base) [some (.slice v0 aB aB),some (.int .i64 v1),some (.int .i64 (0:Int))] h).bind λq1=>
(if q1.1=1 then
((ay q1.2.1 0).bind (au .i64)).bind λn2=>
some ((.int .i64 n2),q1.2.2)
else
(if q1.1=2 then
((ay q1.2.1 0).bind (au .i64)).bind λn3=>
some ((.int .i64 n3),q1.2.2)
else
none)))=some r):run (Et base) 35 [(vL v0 aB),(vI v1)] h=some r:=cZ (an:=a35) Tryz.func35 hx
theorem y_{base:Nat}{aV:Int}{aW:Int}{aX:Int}{aY:Int}{cz:Int}{dy:ByteArray}{v1:Int}{h:AH}{r:Value×AH}(hx:((some (h++[some ⟨[(.int .i64 aV),(.int .i64 aW),(.int .i64 aX),(.int .i64 aY),(.int .i64 cz),(.string dy)],70⟩])).bind λh1=>
((cell h1 (ae h) 5).bind aK).bind λs2=>
(if decide ((ag .i64 (v1-(s2.size:Int)))<0)=true then
some ((.int .i64 (-1:Int)),h1)
else
some ((.int .i64 (ag .i64 (v1-(s2.size:Int)))),h1)))=some r):run (Et base) 36 [(.agg #[(vI aV),(vI aW),(vI aX),(vI aY),(vI cz),(vT dy)]),(vI v1)] h=some r:=cZ (an:=EU) Tryz.func36 hx
theorem r37{base:Nat}{aV:Int}{aW:Int}{aX:Option Addr}{jd:Nat}{aY:Option Addr}{aR:Nat}{cz:Option Addr}{je:Nat}{v1:Int}{h:AH}{r:Value×AH}(hx:((some (h++[some ⟨[(.int .i64 aV),(.int .i64 aW),(.slice aX jd jd),(.slice aY aR aR),(.slice cz je je)],74⟩])).bind λh1=>
((cell h1 (ae h) 2).bind aN).bind λl2=>
(run (Et base) 78 [(.slice l2.1 l2.2 l2.2),(.int .i64 v1)] h1).bind λr3=>
((some r3.1).bind (au .i64)).bind λn4=>
(if decide (n4<0)=true then
some ((.int .i64 (-1:Int)),r3.2)
else
((cell r3.2 (ae h) 3).bind aN).bind λl5=>
(run (Et base) 78 [(.slice l5.1 l5.2 l5.2),(.int .i64 n4)] r3.2).bind λr6=>
((some r6.1).bind (au .i64)).bind λn7=>
(if decide (n7<0)=true then
some ((.int .i64 (-1:Int)),r6.2)
else
((cell r6.2 (ae h) 4).bind aN).bind λl8=>
(run (Et base) 79 [(.slice l8.1 l8.2 l8.2),(.int .i64 n7)] r6.2).bind λr9=>
((some r9.1).bind (au .i64)).bind λfl=>
(if decide (fl<0)=true then
some ((.int .i64 (-1:Int)),r9.2)
else
some ((.int .i64 fl),r9.2)))))=some r):run (Et base) 37 [(.agg #[(vI aV),(vI aW),(vL aX jd),(vL aY aR),(vL cz je)]),(vI v1)] h=some r:=cZ (an:=a37) Tryz.func37 hx
theorem r38{base:Nat}{aV:Int}{aW:Int}{aX:Int}{aY:Int}{cz:ByteArray}{dy:Option Addr}{pQ:Nat}{v1:Int}{h:AH}{r:Value×AH}(hx:((some (h++[some ⟨[(.int .i64 aV),(.int .i64 aW),(.int .i64 aX),(.int .i64 aY),(.string cz),(.slice dy pQ pQ)],79⟩])).bind λh1=>
((cell h1 (ae h) 2).bind (au .i64)).bind λn2=>
((cell h1 (ae h) 3).bind (au .i64)).bind λn3=>
((cell h1 (ae h) 4).bind aK).bind λs4=>
((cell h1 (ae h) 5).bind aN).bind λl5=>
(run (Et base) 80 [(.agg #[(.int .i64 n2),(.int .i64 n3),(.string s4),(.slice l5.1 l5.2 l5.2)]),(.int .i64 v1)] h1).bind λr6=>
((some r6.1).bind (au .i64)).bind λn7=>
(if decide (n7<0)=true then
some ((.int .i64 (-1:Int)),r6.2)
else
some ((.int .i64 n7),r6.2)))=some r):run (Et base) 38 [(.agg #[(vI aV),(vI aW),(vI aX),(vI aY),(vT cz),(vL dy pQ)]),(vI v1)] h=some r:=cZ (an:=A3) Tryz.func38 hx
theorem BX{base:Nat}{aV:Int}{aW:Int}{aX:Option Addr}{jd:Nat}{aY:Option Addr}{aR:Nat}{cz:Option Addr}{je:Nat}{h:AH}{r:Value×AH}(hx:(cR h 53 [(vI aV),(vI aW),(vL aX jd),(vL aY aR),(vL cz je)] λh1=>
cR h1 53 [(vI 0),(vI 0),(vL none 0),(vL none 0),(vL none 0)] λh2=>
aa0 h2 (ae h) 0 λn3 n4 l5=>
(run (Et base) 81 [(vL l5.1 l5.2)] h2).bind λr6=>
gL (some r6.1) λl7=>
(gate (bc h2 r6.2 (some ⟨(ae h),1,none⟩) 1)
((gate (bc h2 r6.2 (some ⟨(ae h),0,none⟩) 1)
((gate (bc h2 r6.2 (some ⟨(ae h),3,none⟩) 1)
(gL (cell r6.2 (ae h) 3) λl8=>
(run (Et base) 81 [(vL l8.1 l8.2)] r6.2).bind λr9=>
gL (some r9.1) λep=>
(gate (bc r6.2 r9.2 (some ⟨(ae h),1,none⟩) 1)
((gate (bc r6.2 r9.2 (some ⟨(ae h),0,none⟩) 1)
((gate (fP (some ⟨(ae h),3,none⟩) (ae r9.2))
((gate (fP (some ⟨(ae h),2,none⟩) (ae r9.2))
((gate (fP (some ⟨(ae h),1,none⟩) (ae r9.2))
((gate (fP (some ⟨(ae h),0,none⟩) (ae r9.2))
(cR r9.2 3 [] λjc=>
(gate (fP (some ⟨(ae h),4,none⟩) (ae r9.2))
((gate (bc r6.2 jc (some ⟨(ae h),4,none⟩) 1)
((gate (bc h2 jc (some ⟨(ae h),4,none⟩) 1)
(gL (cell jc (ae h) 4) λiI=>
(app base jc 3 1 8 (some ⟨(ae r9.2),0,none⟩) 0 (br jc iI.1 (iI.2*1)) iI.2).bind λES=>
gL (some ES.1) λeU=>
(gate (bc jc ES.2 (some ⟨(ae h),1,none⟩) 1)
((gate (bc jc ES.2 (some ⟨(ae h),0,none⟩) 1)
((wr base ES.2 (ae h1) 0 [(vI n3),(vI n4),(vL l7.1 l7.2),(vL ep.1 ep.2),(vL eU.1 eU.2)]).bind λpx=>
aZ px (ae h1) 0 λlC nL pu jy kH=>
some ((.agg #[(vI lC),(vI nL),(vL pu.1 pu.2),(vL jy.1 jy.2),(vL kH.1 kH.2)]),px))))))))))))))))))))))))))))))=some r):run (Et base) 39 [(.agg #[(vI aV),(vI aW),(vL aX jd),(vL aY aR),(vL cz je)])] h=some r:=cZ (an:=a39) Tryz.func39 hx
def Mz(base:Nat):Body:=gH base SE SG [1,1,1,0,1,0,0] Tryz.f40 SF
theorem CG(base:Nat)(v1:Addr)(v2:Addr)(v3:Addr)(v4:Int)(h:AH):Mz base [some (vA v1),some (vA v2),some (vA v3),some (vI v4)] h =
(((cell h v1.block (v1.off+3)).bind aN).bind λl1=>
(if decide (v4<(l1.2:Int))=true then
((cell h v3.block (v3.off+3)).bind aN).bind λl2=>
((cell h v1.block (v1.off+3)).bind aN).bind λl3=>
(if 0<=v4/\v4<(l3.2:Int) then
l3.1.bind λa4=>
aL h a4.block (a4.off+af v4*4) λn5 n6 s7 l8=>
(run (Et base) 40 [(.agg #[(vI n5),(vI n6),(vT s7),(vL l8.1 l8.2)])] h).bind λr9=>
gG (some r9.1) 4 λep=>
cF ep λeV fS Fg eU=>
(gate (bc h r9.2 (some ⟨v3.block,(v3.off+3),none⟩) 1)
((gate (fP (some ⟨v3.block,(v3.off+3),none⟩) (ae r9.2))
(cR r9.2 56 [(vI eV),(vI fS),(vT Fg),(vL eU.1 eU.2)] λpx=>
(app base px 56 4 56 l2.1 l2.2 (br px (some ⟨(ae r9.2),0,none⟩) (1*4)) 1).bind λBc=>
((some Bc.1).bind aN).bind λiz=>
(wr base Bc.2 v3.block (v3.off+3) [(vL iz.1 iz.2)]).bind λku=>
some (0,[some (vA v1),some (vA v2),some (vA v3),some (vI (ag .i64 (v4+1)))],ku)))))
else none)
else
some (2,[some (vA v2),some (vA v3)],h)):OB):=by kernel_rfl
theorem Za{base:Nat}{aV:Int}{aW:Int}{aX:ByteArray}{aY:Option Addr}{aR:Nat}{h:AH}{r:Value×AH}(hx:(cR h 56 [(vI aV),(vI aW),(vT aX),(vL aY aR)] λh1=>
cR h1 56 [(vI 0),(vI 0),(vT ⟨#[]⟩),(vL none 0)] λh2=>
aL h2 (ae h) 0 λn3 n4 s5 l6=>
cR h2 56 [(vI 0),(vI 0),(vT ⟨#[]⟩),(vL none 0)] λh7=>
(wr base h7 (ae h2) 0 [(vI n3),(vI n4),(vT s5),(vL l6.1 l6.2)]).bind λh8=>
cR h8 56 [] λh9=>
(wr base h9 (ae h2) 3 [(vL (some ⟨(ae h8),0,none⟩) 0)]).bind λiO=>
(aF (Mz base) [some (vP (ae h)),some (vP (ae h1)),some (vP (ae h2)),some (vI 0)] iO).bind λqw=>
(if qw.1=2 then
Ib qw.2.1 λd12 d13=>
aL qw.2.2 d13.block d13.off λmT qj PU iz=>
(wr base qw.2.2 d12.block d12.off [(vI mT),(vI qj),(vT PU),(vL iz.1 iz.2)]).bind λku=>
aL ku d12.block d12.off λlh pK Xf mR=>
some ((.agg #[(vI lh),(vI pK),(vT Xf),(vL mR.1 mR.2)]),ku)
else
none))=some r):run (Et base) 40 [(.agg #[(vI aV),(vI aW),(vT aX),(vL aY aR)])] h=some r:=cZ (an:=Oe) Tryz.func40 hx
def CH(base:Nat):Body:=gH base SH SJ [1,1,1,0,1,0,0] Tryz.f41 SI
theorem CI(base:Nat)(v0:Option Addr)(aB:Nat)(v3:Int)(v4:Int)(h:AH):CH base [some (vL v0 aB),some (vI v3),some (vI v4)] h =
((if decide (v4<v3)=true then
(if 0<=v4/\v4<(aB:Int) then
v0.bind λa1=>
((cell h a1.block (a1.off+af v4*6)).bind (au .i64)).bind λn2=>
((cell h a1.block ((a1.off+af v4*6)+1)).bind (au .i64)).bind λn3=>
((cell h a1.block (((a1.off+af v4*6)+1)+1)).bind (au .i64)).bind λn4=>
((cell h a1.block ((((a1.off+af v4*6)+1)+1)+1)).bind (au .i64)).bind λn5=>
((cell h a1.block (((((a1.off+af v4*6)+1)+1)+1)+1)).bind (au .i64)).bind λn6=>
((cell h a1.block ((((((a1.off+af v4*6)+1)+1)+1)+1)+1)).bind aK).bind λs7=>
(run (Et base) 82 [(.agg #[(.int .i64 n2),(.int .i64 n3),(.int .i64 n4),(.int .i64 n5),(.int .i64 n6),(.string s7)]),(.int .i64 v3)] h).bind λr8=>
((some r8.1).bind aO).bind λb9=>
(if (!b9)=true then
some (1,[some (.bool false)],r8.2)
else
some (0,[some (.slice v0 aB aB),some (.int .i64 v3),some (.int .i64 (ag .i64 (v4+1)))],r8.2))
else none)
else
some (2,[],h)):OB):=by kernel_rfl
theorem ud{base:Nat}{v0:Option Addr}{aB:Nat}{h:AH}{r:Value×AH}(hx:(((run (Et base) 16 [(vI (aB:Int)),(vI 1),(vI 200)] h).bind λr2=>
((some r2.1).bind aO).bind λb3=>
(if (!b3)=true then
some (.inl ([some (vL v0 aB),some (vI (aB:Int)),some (.bool true)],r2.2))
else
(if 0<=(ag .i64 ((aB:Int)-(1:Int)))/\(ag .i64 ((aB:Int)-(1:Int)))<(aB:Int) then
v0.bind λa4=>
((cell r2.2 a4.block ((a4.off+af (ag .i64 ((aB:Int)-(1:Int)))*6)+0)).bind (au .i64)).bind λn5=>
(if (n5 != 19)=true then
(if 0<=(ag .i64 ((aB:Int)-(1:Int)))/\(ag .i64 ((aB:Int)-(1:Int)))<(aB:Int) then
v0.bind λa6=>
((cell r2.2 a6.block ((a6.off+af (ag .i64 ((aB:Int)-(1:Int)))*6)+0)).bind (au .i64)).bind λn7=>
some (.inl ([some (vL v0 aB),some (vI (aB:Int)),some (.bool (n7 != 12))],r2.2))
else none)
else
some (.inl ([some (vL v0 aB),some (vI (aB:Int)),some (.bool false)],r2.2)))
else none))).bind λj1=>bH j1 λj1=>
Uq j1.1 λl8 n9 GJ=>
(if GJ=true then
some ((.bool false),j1.2)
else
(aF (CH base) [some (vL l8.1 l8.2),some (vI n9),some (vI 0)] j1.2).bind λqw=>
(if qw.1=1 then
((ay qw.2.1 0).bind aO).bind λwy=>
some ((.bool wy),qw.2.2)
else
(if qw.1=2 then
some ((.bool true),qw.2.2)
else
none))))=some r):run (Et base) 41 [(vL v0 aB)] h=some r:=cZ (an:=a41) Tryz.func41 hx
def GR(base:Nat):Body:=gH base SK SM [1,0,1,0,0] Tryz.f42 SL
theorem qT(base:Nat)(v0:Option Addr)(aB:Nat)(v3:Int)(h:AH):GR base [some (vL v0 aB),some (vI v3)] h =
((if decide (v3<(aB:Int))=true then
((if 0<=v3/\v3<(aB:Int) then
v0.bind λa2=>
((cell h a2.block ((a2.off+af v3*6)+0)).bind (au .i64)).bind λn3=>
(run (Et base) 16 [(vI n3),(vI 1),(vI 3)] h).bind λr4=>
((some r4.1).bind aO).bind λb5=>
(if (!b5)=true then
some (.inl ([some (vL v0 aB),some (vI v3),some (.bool true)],r4.2))
else
(if 0<=v3/\v3<(aB:Int) then
v0.bind λa6=>
((cell r4.2 a6.block ((a6.off+af v3*6)+1)).bind (au .i64)).bind λn7=>
(run (Et base) 16 [(vI n7),(vI 1),(vI 99999)] r4.2).bind λr8=>
((some r8.1).bind aO).bind λb9=>
(if (!b9)=true then
some (.inl ([some (vL v0 aB),some (vI v3),some (.bool true)],r8.2))
else
(if 0<=v3/\v3<(aB:Int) then
v0.bind λnt=>
aL r8.2 nt.block ((nt.off+af v3*6)+2) λeV fS Fg eU=>
(run (Et base) 83 [(.agg #[(vI eV),(vI fS),(vT Fg),(vL eU.1 eU.2)])] r8.2).bind λjR=>
((some jR.1).bind aO).bind λrZ=>
some (.inl ([some (vL v0 aB),some (vI v3),some (.bool (!rZ))],jR.2))
else none))
else none))
else none)).bind λj1=>bH j1 λj1=>
Uq j1.1 λiz lE LL=>
(if LL=true then
some (1,[some (.bool false)],j1.2)
else
some (0,[some (vL iz.1 iz.2),some (vI (ag .i64 (lE+1)))],j1.2))
else
some (2,[some (vL v0 aB)],h)):OB):=by kernel_rfl
theorem r42{base:Nat}{v0:Option Addr}{aB:Nat}{h:AH}{r:Value×AH}(hx:((aF (GR base) [some (.slice v0 aB aB),some (.int .i64 (0:Int))] h).bind λq1=>
(if q1.1=1 then
((ay q1.2.1 0).bind aO).bind λb2=>
some ((.bool b2),q1.2.2)
else
(if q1.1=2 then
((ay q1.2.1 0).bind aN).bind λl3=>
some ((.bool (decide ((l3.2:Int)<=(500:Int)))),q1.2.2)
else
none)))=some r):run (Et base) 42 [(vL v0 aB)] h=some r:=cZ (an:=SN) Tryz.func42 hx
theorem r43{base:Nat}{v0:Option Addr}{aB:Nat}{eO:Int}{eP:Int}{eQ:Option Addr}{fi:Nat}{eT:Option Addr}{dd:Nat}{gn:Option Addr}{fj:Nat}{h:AH}{r:Value×AH}(hx:(cR h 53 [(vI eO),(vI eP),(vL eQ fi),(vL eT dd),(vL gn fj)] λh1=>
((run (Et base) 41 [(vL v0 aB)] h1).bind λr3=>
((some r3.1).bind aO).bind λb4=>
(if (!b4)=true then
some (.inl ([some (vP (ae h)),some (.bool true)],r3.2))
else
((cell r3.2 (ae h) 0).bind (au .i64)).bind λn5=>
(run (Et base) 16 [(vI n5),(vI 1),(vI 99999)] r3.2).bind λr6=>
((some r6.1).bind aO).bind λb7=>
(if (!b7)=true then
some (.inl ([some (vP (ae h)),some (.bool true)],r6.2))
else
((cell r6.2 (ae h) 1).bind (au .i64)).bind λn8=>
(run (Et base) 16 [(vI n8),(vI 0),(vI (ag .i64 ((aB:Int)-(1:Int))))] r6.2).bind λr9=>
((some r9.1).bind aO).bind λGJ=>
(if (!GJ)=true then
some (.inl ([some (vP (ae h)),some (.bool true)],r9.2))
else
((cell r9.2 (ae h) 2).bind aN).bind λfw=>
(if ((fw.2:Int) != (8:Int))=true then
some (.inl ([some (vP (ae h)),some (.bool true)],r9.2))
else
((cell r9.2 (ae h) 3).bind aN).bind λiI=>
some (.inl ([some (vP (ae h)),some (.bool (decide ((iI.2:Int)>(30:Int))))],r9.2))))))).bind λj2=>bH j2 λj2=>
Wh j2.1 λd13 zc=>
(if zc=true then
some ((.bool false),j2.2)
else
((cell j2.2 d13.block (d13.off+2)).bind aN).bind λhK=>
(run (Et base) 84 [(vL hK.1 hK.2)] j2.2).bind λmS=>
((some mS.1).bind aO).bind λzd=>
(if zd=true then
((cell mS.2 d13.block (d13.off+3)).bind aN).bind λpu=>
(run (Et base) 84 [(vL pu.1 pu.2)] mS.2).bind λpP=>
((some pP.1).bind aO).bind λb20=>
(if b20=true then
((cell pP.2 d13.block (d13.off+4)).bind aN).bind λlD=>
((cell pP.2 d13.block (d13.off+0)).bind (au .i64)).bind λpO=>
(run (Et base) 85 [(vL lD.1 lD.2),(vI pO)] pP.2).bind λr23=>
((some r23.1).bind aO).bind λb24=>
some ((.bool b24),r23.2)
else
some ((.bool false),pP.2))
else
some ((.bool false),mS.2))))=some r):run (Et base) 43 [(vL v0 aB),(.agg #[(vI eO),(vI eP),(vL eQ fi),(vL eT dd),(vL gn fj)])] h=some r:=cZ (an:=a43) Tryz.func43 hx
def GS(base:Nat):Body:=gH base SO SQ [1,1,0,1,0,0] Tryz.f44 SP
theorem CJ(base:Nat)(v2:Addr)(v5:Addr)(v6:Int)(h:AH):GS base [some (vA v2),some (vA v5),some (vI v6)] h =
(((cell h v5.block (v5.off+4)).bind aN).bind λl1=>
(if decide (v6<(l1.2:Int))=true then
ca h v2.block v2.off λl2 l3 n4 l5=>
((cell h v5.block (v5.off+4)).bind aN).bind λl6=>
(if 0<=v6/\v6<(l6.2:Int) then
l6.1.bind λa7=>
((cell h a7.block (a7.off+af v6*1)).bind (au .i64)).bind λn8=>
(run (Et base) 45 [(.agg #[(vL l2.1 l2.2),(vL l3.1 l3.2),(vI n4),(vL l5.1 l5.2)]),(vI n8)] h).bind λr9=>
((some r9.1).bind (au .i64)).bind λfl=>
((if decide (fl>=0)=true then
((cell r9.2 v2.block (v2.off+1)).bind aN).bind λiI=>
(if 0<=fl/\fl<(iI.2:Int) then
iI.1.bind λmy=>
((cell r9.2 my.block ((my.off+af fl*5)+4)).bind aN).bind λeU=>
((cell r9.2 v5.block (v5.off+0)).bind (au .i64)).bind λqj=>
(run (Et base) 86 [(vL eU.1 eU.2),(vI qj)] r9.2).bind λmS=>
((some mS.1).bind aO).bind λzd=>
some (.inl ([some (vA v2),some (vA v5),some (vI v6),some (.bool (!zd))],mS.2))
else none)
else
some (.inl ([some (vA v2),some (vA v5),some (vI v6),some (.bool false)],r9.2)))).bind λwe=>bH we λwe=>
Wg we.1 λd18 d19 pK LD=>
(if LD=true then
some (1,[some (.bool false)],we.2)
else
some (0,[some (vA d18),some (vA d19),some (vI (ag .i64 (pK+1)))],we.2))
else none)
else
some (2,[],h)):OB):=by kernel_rfl
theorem wc{base:Nat}{aV:Option Addr}{cq:Nat}{aW:Option Addr}{cr:Nat}{aX:Int}{aY:Option Addr}{aR:Nat}{v1:Int}{h:AH}{r:Value×AH}(hx:((some (h++[some ⟨[(.slice aV cq cq),(.slice aW cr cr),(.int .i64 aX),(.slice aY aR aR)],32⟩])).bind λh1=>
((cell h1 (ae h) 1).bind aN).bind λl2=>
(if 0<=v1/\v1<(l2.2:Int) then
l2.1.bind λa3=>
((cell h1 a3.block (a3.off+af v1*5)).bind (au .i64)).bind λn4=>
((cell h1 a3.block ((a3.off+af v1*5)+1)).bind (au .i64)).bind λn5=>
((cell h1 a3.block (((a3.off+af v1*5)+1)+1)).bind aN).bind λl6=>
((cell h1 a3.block ((((a3.off+af v1*5)+1)+1)+1)).bind aN).bind λl7=>
((cell h1 a3.block (((((a3.off+af v1*5)+1)+1)+1)+1)).bind aN).bind λl8=>
(some (h1++[some ⟨[(.int .i64 0),(.int .i64 0),(.slice none 0 0),(.slice none 0 0),(.slice none 0 0)],53⟩])).bind λh9=>
(wr base h9 (ae h1) 0 [(.int .i64 n4),(.int .i64 n5),(.slice l6.1 l6.2 l6.2),(.slice l7.1 l7.2 l7.2),(.slice l8.1 l8.2 l8.2)]).bind λiO=>
(aF (GS base) [some (.pointer (some ⟨(ae h),0,none⟩)),some (.pointer (some ⟨(ae h1),0,none⟩)),some (.int .i64 (0:Int))] iO).bind λqw=>
(if qw.1=1 then
((ay qw.2.1 0).bind aO).bind λwy=>
some ((.bool wy),qw.2.2)
else
(if qw.1=2 then
some ((.bool true),qw.2.2)
else
none))
else none))=some r):run (Et base) 44 [(.agg #[(vL aV cq),(vL aW cr),(vI aX),(vL aY aR)]),(vI v1)] h=some r:=cZ (an:=SS) Tryz.func44 hx
def MA(base:Nat):Body:=gH base SU SW [1,0,1,0,0] Tryz.f45 SV
theorem vd(base:Nat)(v1:Int)(v2:Addr)(v5:Int)(h:AH):MA base [some (vI v1),some (vA v2),some (vI v5)] h =
(((cell h v2.block (v2.off+1)).bind aN).bind λl1=>
(if decide (v5<(l1.2:Int))=true then
((cell h v2.block (v2.off+1)).bind aN).bind λl2=>
(if 0<=v5/\v5<(l2.2:Int) then
l2.1.bind λa3=>
((cell h a3.block ((a3.off+af v5*5)+0)).bind (au .i64)).bind λn4=>
(if (n4==v1)=true then
some (1,[some (.int .i64 v5)],h)
else
some (0,[some (.int .i64 v1),some (.pointer (some v2)),some (.int .i64 (ag .i64 (v5+1)))],h))
else none)
else
some (2,[],h)):OB):=by kernel_rfl
theorem r45{base:Nat}{aV:Option Addr}{cq:Nat}{aW:Option Addr}{cr:Nat}{aX:Int}{aY:Option Addr}{aR:Nat}{v1:Int}{h:AH}{r:Value×AH}(hx:((some (h++[some ⟨[(.slice aV cq cq),(.slice aW cr cr),(.int .i64 aX),(.slice aY aR aR)],32⟩])).bind λh1=>
(aF (MA base) [some (.int .i64 v1),some (.pointer (some ⟨(ae h),0,none⟩)),some (.int .i64 (0:Int))] h1).bind λq2=>
(if q2.1=1 then
((ay q2.2.1 0).bind (au .i64)).bind λn3=>
some ((.int .i64 n3),q2.2.2)
else
(if q2.1=2 then
some ((.int .i64 (-1:Int)),q2.2.2)
else
none)))=some r):run (Et base) 45 [(.agg #[(vL aV cq),(vL aW cr),(vI aX),(vL aY aR)]),(vI v1)] h=some r:=cZ (an:=a45) Tryz.func45 hx
abbrev agJ(base:Nat)(v0:Option Addr)(aB:Nat)(eO:Int)(eP:Int)(eQ:Option Addr)(fi:Nat)(eT:Option Addr)(dd:Nat)(gn:Option Addr)(fj:Nat)(v2:Int)(h:AH):OV:=
cR h 53 [(vI eO),(vI eP),(vL eQ fi),(vL eT dd),(vL gn fj)] λh1=>
cR h1 53 [(vI 0),(vI 0),(vL none 0),(vL none 0),(vL none 0)] λh2=>
cR h2 58 [(vI 0),(vI 0),(vI 0),(vI 0),(vI 0),(vT ⟨#[]⟩),(vL none 0)] λh3=>
gI (cell h3 (ae h) 1) λn4=>
(if 0<=n4/\n4<(aB:Int) then
v0.bind λa5=>
dW h3 a5.block (a5.off+af n4*6) λn6 n7 n8 n9 fl s11=>
cR h3 89 [(vI 0),(vI 0),(vI 0),(vI 0),(vI 0),(vT ⟨#[]⟩)] λlZ=>
(wr base lZ (ae h3) 0 [(vI n6),(vI n7),(vI n8),(vI n9),(vI fl),(vT s11)]).bind λnK=>
aZ nK (ae h) 0 λmT qj kt iz pu=>
(run (Et base) 39 [(.agg #[(vI mT),(vI qj),(vL kt.1 kt.2),(vL iz.1 iz.2),(vL pu.1 pu.2)])] nK).bind λpP=>
gG (some pP.1) 5 λkH=>
gm kH λtE pO nQ kJ Ba=>
cR pP.2 53 [(vI 0),(vI 0),(vL none 0),(vL none 0),(vL none 0)] λWj=>
(wr base Wj (ae pP.2) 0 [(vI tE),(vI pO),(vL nQ.1 nQ.2),(vL kJ.1 kJ.2),(vL Ba.1 Ba.2)]).bind λGD=>
gI (cell GD (ae h) 1) λrF=>
(wr base GD (ae pP.2) 1 [(vI (ag .i64 (rF+1)))]).bind λwx=>
cR wx 58 [(vI 0),(vI 0),(vI 0),(vI 0),(vI 0),(vT ⟨#[]⟩),(vL none 0)] λY7=>
(wr base Y7 (ae wx) 0 [(vI 1),(vI 0),(vI 0),(vI 0),(vI 0),(vT (⟨#[]⟩:ByteArray)),(vL none 0)]).bind λI'=>
gL (cell I' (ae h) 2) λqk=>
gI (cell I' (ae h3) 1) λPF=>
(if 0<=PF/\PF<(qk.2:Int) then
qk.1.bind λxE=>
aL I' xE.block (xE.off+af PF*4) λqm xJ s37 GH=>
(run (Et base) 40 [(.agg #[(vI qm),(vI xJ),(vT s37),(vL GH.1 GH.2)])] I').bind λBX=>
gG (some BX.1) 4 λwa=>
cF wa λWs La s43 LX=>
cR BX.2 56 [(vI 0),(vI 0),(vT ⟨#[]⟩),(vL none 0)] λUD=>
(wr base UD (ae BX.2) 0 [(vI Ws),(vI La),(vT s43),(vL LX.1 LX.2)]).bind λBd=>
gI (cell Bd (ae h3) 0) λxL=>
(if (xL==10)=true then
(aL Bd (ae BX.2) 0 λE0 Ot s51 A8=>
gL (cell Bd (ae h) 2) λOj=>
gI (cell Bd (ae h3) 2) λtF=>
(if 0<=tF/\tF<(Oj.2:Int) then
Oj.1.bind λTg=>
aL Bd Tg.block (Tg.off+af tF*4) λOn Ps s58 Lb=>
(run (Et base) 87 [(.agg #[(vI E0),(vI Ot),(vT s51),(vL A8.1 A8.2)]),(.agg #[(vI On),(vI Ps),(vT s58),(vL Lb.1 Lb.2)])] Bd).bind λMB=>
gB (some MB.1) λb61=>
(if (!b61)=true then
gI (cell MB.2 (ae h3) 4) λn62=>
(wr base MB.2 (ae pP.2) 1 [(vI n62)]).bind λQ5=>
some (.inl ([some (vP (ae h1)),some (vP (ae h2)),some (vP (ae pP.2)),some (vP (ae wx))],Q5))
else
some (.inl ([some (vP (ae h1)),some (vP (ae h2)),some (vP (ae pP.2)),some (vP (ae wx))],MB.2)))
else none)).bind λXg=>bH Xg λXg=>
EV Xg.1 λd64 d65 d66 d67=>
aZ Xg.2 d66.block d66.off λUG n69 l70 Zb UH=>
bu Xg.2 d67.block d67.off λOy PK Wz Pu Ih s78 Uw=>
(wr base Xg.2 d64.block d64.off [(vI UG),(vI n69),(vL l70.1 l70.2),(vL Zb.1 Zb.2),(vL UH.1 UH.2)]).bind λh80=>
(gate (bc Xg.2 h80 (some d67) 7)
((wr base h80 d65.block d65.off [(vI Oy),(vI PK),(vI Wz),(vI Pu),(vI Ih),(vT s78),(vL Uw.1 Uw.2)]).bind λh81=>
aZ h81 d64.block d64.off λn82 n83 Ux Uy UN=>
bu h81 d65.block d65.off λn87 Xh n89 Jc n91 s92 Lf=>
some ((.tuple #[(.agg #[(vI n82),(vI n83),(vL Ux.1 Ux.2),(vL Uy.1 Uy.2),(vL UN.1 UN.2)]),(.agg #[(vI n87),(vI Xh),(vI n89),(vI Jc),(vI n91),(vT s92),(vL Lf.1 Lf.2)])]),h81)))
else
(if (xL==11)=true then
(gI (cell Bd (ae BX.2) 0) λPv=>
gI (cell Bd (ae h3) 2) λUI=>
(if (Pv != UI)=true then
gI (cell Bd (ae h3) 4) λn97=>
(wr base Bd (ae pP.2) 1 [(vI n97)]).bind λh98=>
some (.inl ([some (vP (ae h1)),some (vP (ae h2)),some (vP (ae pP.2)),some (vP (ae wx))],h98))
else
some (.inl ([some (vP (ae h1)),some (vP (ae h2)),some (vP (ae pP.2)),some (vP (ae wx))],Bd)))).bind λXi=>bH Xi λXi=>
EV Xi.1 λd99 d100 d101 d102=>
aZ Xi.2 d101.block d101.off λuZ Xj r_ abK PV=>
bu Xi.2 d102.block d102.off λE2 ze LY Xk agK agL Lj=>
(wr base Xi.2 d99.block d99.off [(vI uZ),(vI Xj),(vL r_.1 r_.2),(vL abK.1 abK.2),(vL PV.1 PV.2)]).bind λMC=>
(gate (bc Xi.2 MC (some d102) 7)
((wr base MC d100.block d100.off [(vI E2),(vI ze),(vI LY),(vI Xk),(vI agK),(vT agL),(vL Lj.1 Lj.2)]).bind λXl=>
aZ Xl d99.block d99.off λMD Xm ME Ll BU=>
bu Xl d100.block d100.off λLm Fa MF Px agM agN abL=>
some ((.tuple #[(.agg #[(vI MD),(vI Xm),(vL ME.1 ME.2),(vL Ll.1 Ll.2),(vL BU.1 BU.2)]),(.agg #[(vI Lm),(vI Fa),(vI MF),(vI Px),(vI agM),(vT agN),(vL abL.1 abL.2)])]),Xl)))
else
(if (xL==12)=true then
gI (cell Bd (ae h3) 4) λL7=>
(wr base Bd (ae pP.2) 1 [(vI L7)]).bind λPW=>
aZ PW (ae pP.2) 0 λXn Xo Lq MG Ls=>
bu PW (ae wx) 0 λWI L8 Iq PX Xp agO E7=>
(wr base PW (ae h1) 0 [(vI Xn),(vI Xo),(vL Lq.1 Lq.2),(vL MG.1 MG.2),(vL Ls.1 Ls.2)]).bind λabM=>
(gate (bc PW abM (some ⟨(ae wx),0,none⟩) 7)
((wr base abM (ae h2) 0 [(vI WI),(vI L8),(vI Iq),(vI PX),(vI Xp),(vT agO),(vL E7.1 E7.2)]).bind λLw=>
aZ Lw (ae h1) 0 λagP agQ Lx Ly abN=>
bu Lw (ae h2) 0 λagR WL WM LA Xq Xr MH=>
some ((.tuple #[(.agg #[(vI agP),(vI agQ),(vL Lx.1 Lx.2),(vL Ly.1 Ly.2),(vL abN.1 abN.2)]),(.agg #[(vI agR),(vI WL),(vI WM),(vI LA),(vI Xq),(vT Xr),(vL MH.1 MH.2)])]),Lw)))
else
((if (xL==13)=true then
some (.inl ([some (vI v2),some (vP (ae h)),some (vP (ae h1)),some (vP (ae h2)),some (vP (ae h3)),some (vP (ae pP.2)),some (vP (ae wx)),some (vP (ae BX.2)),some (vI xL),some (.bool (xL==13))],Bd))
else
some (.inl ([some (vI v2),some (vP (ae h)),some (vP (ae h1)),some (vP (ae h2)),some (vP (ae h3)),some (vP (ae pP.2)),some (vP (ae wx)),some (vP (ae BX.2)),some (vI xL),some (.bool (xL==18))],Bd)))).bind λfY=>bH fY λfY=>
yW fY.1 λy9 qU iE iF wA kK MI nN L9 agS=>
(if agS=true then
gI (cell fY.2 nN.block (nN.off+0)) λagT=>
(if (agT != 3)=true then
aZ fY.2 qU.block qU.off λagU WO L_ abO Ma=>
(run (Et base) 39 [(.agg #[(vI agU),(vI WO),(vL L_.1 L_.2),(vL abO.1 abO.2),(vL Ma.1 Ma.2)])] fY.2).bind λabP=>
gG (some abP.1) 5 λagV=>
gm agV λWR agW Mb abQ abR=>
(run (Et base) 88 [(.agg #[(vI WR),(vI agW),(vL Mb.1 Mb.2),(vL abQ.1 abQ.2),(vL abR.1 abR.2)])] abP.2).bind λabS=>
(cM 2 abS.1).bind λabT=>
gG (abT[0]?) 5 λagX=>
gm agX λagY agZ abU abV abW=>
gG (abT[1]?) 7 λag0=>
jm ag0 λWT ag1 ag2 WU ag3 ag4 PN=>
(wr base abS.2 iE.block iE.off [(vI agY),(vI agZ),(vL abU.1 abU.2),(vL abV.1 abV.2),(vL abW.1 abW.2)]).bind λag5=>
(wr base ag5 iF.block iF.off [(vI WT),(vI ag1),(vI ag2),(vI WU),(vI ag3),(vT ag4),(vL PN.1 PN.2)]).bind λXs=>
aZ Xs iE.block iE.off λag6 ag7 abX abY abZ=>
bu Xs iF.block iF.off λag8 WW WX ag9 aha ahb ab0=>
some ((.tuple #[(.agg #[(vI ag6),(vI ag7),(vL abX.1 abX.2),(vL abY.1 abY.2),(vL abZ.1 abZ.2)]),(.agg #[(vI ag8),(vI WW),(vI WX),(vI ag9),(vI aha),(vT ahb),(vL ab0.1 ab0.2)])]),Xs)
else
gI (cell fY.2 wA.block (wA.off+0)) λahc=>
(if (ahc==18)=true then
aZ fY.2 kK.block kK.off λahd ahe ab1 ab2 ab3=>
gI (cell fY.2 nN.block (nN.off+1)) λahf=>
(wr base fY.2 iE.block iE.off [(vI ahd),(vI ahe),(vL ab1.1 ab1.2),(vL ab2.1 ab2.2),(vL ab3.1 ab3.2)]).bind λab4=>
(gate (bc fY.2 ab4 (some ⟨nN.block,(nN.off+1),none⟩) 1)
((wr base ab4 iF.block iF.off [(vI 6),(vI ahf),(vI 0),(vI 0),(vI 0),(vT (⟨#[]⟩:ByteArray)),(vL none 0)]).bind λXt=>
aZ Xt iE.block iE.off λWY ahg Mf Mg ab5=>
bu Xt iF.block iF.off λahh Mh Mi Mj Mk ahi ab6=>
some ((.tuple #[(.agg #[(vI WY),(vI ahg),(vL Mf.1 Mf.2),(vL Mg.1 Mg.2),(vL ab5.1 ab5.2)]),(.agg #[(vI ahh),(vI Mh),(vI Mi),(vI Mj),(vI Mk),(vT ahi),(vL ab6.1 ab6.2)])]),Xt)))
else
aZ fY.2 kK.block kK.off λahj ahk ab7 ab8 ab9=>
gI (cell fY.2 nN.block (nN.off+1)) λahl=>
gL (cell fY.2 qU.block (qU.off+2)) λMl=>
gI (cell fY.2 wA.block (wA.off+2)) λXu=>
(if 0<=Xu/\Xu<(Ml.2:Int) then
Ml.1.bind λaca=>
aL fY.2 aca.block (aca.off+af Xu*4) λW2 W3 ahm acb=>
(run (Et base) 40 [(.agg #[(vI W2),(vI W3),(vT ahm),(vL acb.1 acb.2)])] fY.2).bind λMJ=>
gG (some MJ.1) 4 λPO=>
cF PO λahn Mm aho acd=>
(gate (bc fY.2 MJ.2 (some ⟨nN.block,(nN.off+1),none⟩) 1)
((gate (bc fY.2 MJ.2 (some kK) 5)
((wr base MJ.2 iE.block iE.off [(vI ahj),(vI ahk),(vL ab7.1 ab7.2),(vL ab8.1 ab8.2),(vL ab9.1 ab9.2)]).bind λace=>
(gate (bc MJ.2 ace (some ⟨nN.block,(nN.off+1),none⟩) 1)
((wr base ace iF.block iF.off [(vI 3),(vI ahl),(vI 0),(vI ahn),(vI Mm),(vT aho),(vL acd.1 acd.2)]).bind λXv=>
aZ Xv iE.block iE.off λahp ahq acf acg ach=>
bu Xv iF.block iF.off λahr ahs aht ahu ahv ahw aci=>
some ((.tuple #[(.agg #[(vI ahp),(vI ahq),(vL acf.1 acf.2),(vL acg.1 acg.2),(vL ach.1 ach.2)]),(.agg #[(vI ahr),(vI ahs),(vI aht),(vI ahu),(vI ahv),(vT ahw),(vL aci.1 aci.2)])]),Xv)))))))
else none)))
else
(if (L9==17)=true then
aZ fY.2 kK.block kK.off λahx ahy acj ack acm=>
aL fY.2 nN.block nN.off λW5 W6 ahz acn=>
(wr base fY.2 iE.block iE.off [(vI ahx),(vI ahy),(vL acj.1 acj.2),(vL ack.1 ack.2),(vL acm.1 acm.2)]).bind λaco=>
(gate (bc fY.2 aco (some nN) 4)
((wr base aco iF.block iF.off [(vI 5),(vI 0),(vI 0),(vI W5),(vI W6),(vT ahz),(vL acn.1 acn.2)]).bind λXw=>
aZ Xw iE.block iE.off λahA ahB acp acq acr=>
bu Xw iF.block iF.off λahC ahD ahE ahF W8 ahG Mn=>
some ((.tuple #[(.agg #[(vI ahA),(vI ahB),(vL acp.1 acp.2),(vL acq.1 acq.2),(vL acr.1 acr.2)]),(.agg #[(vI ahC),(vI ahD),(vI ahE),(vI ahF),(vI W8),(vT ahG),(vL Mn.1 Mn.2)])]),Xw)))
else
(if (L9==19)=true then
gI (cell fY.2 qU.block (qU.off+1)) λahH=>
(wr base fY.2 kK.block (kK.off+1) [(vI ahH)]).bind λPY=>
aZ PY kK.block kK.off λW9 W_ acu acv acw=>
aL PY nN.block nN.off λahI ahJ ahK acx=>
(wr base PY iE.block iE.off [(vI W9),(vI W_),(vL acu.1 acu.2),(vL acv.1 acv.2),(vL acw.1 acw.2)]).bind λacy=>
(gate (bc PY acy (some nN) 4)
((wr base acy iF.block iF.off [(vI 7),(vI 0),(vI 0),(vI ahI),(vI ahJ),(vT ahK),(vL acx.1 acx.2)]).bind λXx=>
aZ Xx iE.block iE.off λahL ahM Mp acz acA=>
bu Xx iF.block iF.off λXb Xc Xd ahN ahO ahP acB=>
some ((.tuple #[(.agg #[(vI ahL),(vI ahM),(vL Mp.1 Mp.2),(vL acz.1 acz.2),(vL acA.1 acA.2)]),(.agg #[(vI Xb),(vI Xc),(vI Xd),(vI ahN),(vI ahO),(vT ahP),(vL acB.1 acB.2)])]),Xx)))
else
(if (L9==14)=true then
gL (cell fY.2 qU.block (qU.off+3)) λahQ=>
(if ((ahQ.2:Int)==(0:Int))=true then
aZ fY.2 qU.block qU.off λahR ahS acC acE acF=>
(run (Et base) 39 [(.agg #[(vI ahR),(vI ahS),(vL acC.1 acC.2),(vL acE.1 acE.2),(vL acF.1 acF.2)])] fY.2).bind λacG=>
gG (some acG.1) 5 λahT=>
gm ahT λahU ahV acH acI acJ=>
(wr base acG.2 iE.block iE.off [(vI ahU),(vI ahV),(vL acH.1 acH.2),(vL acI.1 acI.2),(vL acJ.1 acJ.2)]).bind λahW=>
(wr base ahW iF.block iF.off [(vI 2),(vI 0),(vI 0),(vI 0),(vI 0),(vT (⟨#[]⟩:ByteArray)),(vL none 0)]).bind λXy=>
aZ Xy iE.block iE.off λahX ahY acK acL acM=>
bu Xy iF.block iF.off λahZ ah0 ah1 ah2 ah3 ah4 acN=>
some ((.tuple #[(.agg #[(vI ahX),(vI ahY),(vL acK.1 acK.2),(vL acL.1 acL.2),(vL acM.1 acM.2)]),(.agg #[(vI ahZ),(vI ah0),(vI ah1),(vI ah2),(vI ah3),(vT ah4),(vL acN.1 acN.2)])]),Xy)
else
gL (cell fY.2 kK.block (kK.off+2)) λacO=>
gI (cell fY.2 wA.block (wA.off+1)) λXz=>
gL (cell fY.2 kK.block (kK.off+3)) λacP=>
(if 0<=(0:Int)/\(0:Int)<(acP.2:Int) then
acP.1.bind λacQ=>
aL fY.2 acQ.block (acQ.off+af (0:Int)*4) λah5 ah6 ah7 acS=>
(if 0<=Xz/\Xz<(acO.2:Int) then
acO.1.bind λacT=>
(wr base fY.2 acT.block (acT.off+af Xz*4) [(vI ah5),(vI ah6),(vT ah7),(vL acS.1 acS.2)]).bind λXA=>
gL (cell XA kK.block (kK.off+3)) λFh=>
(if 0<=(1:Int)/\(1:Int)<=(Fh.2:Int)/\(Fh.2:Int)<=(Fh.2:Int)/\jZ base XA Fh.1 56 (af (1:Int))=true then
(wr base XA kK.block (kK.off+3) [(.slice (dm Fh.1 (af (1:Int)*4)) (af (Fh.2:Int)-af (1:Int)) (af (Fh.2:Int)-af (1:Int)))]).bind λPZ=>
aZ PZ kK.block kK.off λah8 ah9 acU acW acX=>
bu PZ MI.block MI.off λaia aib aic aid aie aif acY=>
(wr base PZ iE.block iE.off [(vI ah8),(vI ah9),(vL acU.1 acU.2),(vL acW.1 acW.2),(vL acX.1 acX.2)]).bind λacZ=>
(gate (bc PZ acZ (some MI) 7)
((wr base acZ iF.block iF.off [(vI aia),(vI aib),(vI aic),(vI aid),(vI aie),(vT aif),(vL acY.1 acY.2)]).bind λXB=>
aZ XB iE.block iE.off λaih aii ac0 ac1 ac3=>
bu XB iF.block iF.off λaij aik ail aim ain aio ac4=>
some ((.tuple #[(.agg #[(vI aih),(vI aii),(vL ac0.1 ac0.2),(vL ac1.1 ac1.2),(vL ac3.1 ac3.2)]),(.agg #[(vI aij),(vI aik),(vI ail),(vI aim),(vI ain),(vT aio),(vL ac4.1 ac4.2)])]),XB)))
else none)
else none)
else none))
else
dW fY.2 wA.block wA.off λaip aiq air ais ait aiu=>
aZ fY.2 qU.block qU.off λaiv aiw ac5 ac6 ac7=>
(run (Et base) 89 [(.agg #[(vI aip),(vI aiq),(vI air),(vI ais),(vI ait),(vT aiu)]),(.agg #[(vI aiv),(vI aiw),(vL ac5.1 ac5.2),(vL ac6.1 ac6.2),(vL ac7.1 ac7.2)]),(vI y9)] fY.2).bind λIr=>
(cM 2 Ir.1).bind λac8=>
gG (ac8[0]?) 4 λaix=>
cF aix λaiy aiz aiA ac9=>
gB (ac8[1]?) λaiB=>
cR Ir.2 56 [(vI 0),(vI 0),(vT ⟨#[]⟩),(vL none 0)] λaiC=>
(wr base aiC (ae Ir.2) 0 [(vI aiy),(vI aiz),(vT aiA),(vL ac9.1 ac9.2)]).bind λXC=>
((if (!aiB)=true then
some (.inl ([some (vI y9),some (vA qU),some (vA iE),some (vA iF),some (vA wA),some (vA kK),some (vA MI),some (vP (ae Ir.2)),some (.bool true)],XC))
else
aL XC (ae Ir.2) 0 λaiD aiE aiF ada=>
(run (Et base) 83 [(.agg #[(vI aiD),(vI aiE),(vT aiF),(vL ada.1 ada.2)])] XC).bind λadb=>
gB (some adb.1) λaiG=>
some (.inl ([some (vI y9),some (vA qU),some (vA iE),some (vA iF),some (vA wA),some (vA kK),some (vA MI),some (vP (ae Ir.2)),some (.bool (!aiG))],adb.2)))).bind λsi=>bH si λsi=>
BO si.1 λaiH P1 Is It wB ade P2 adf aiI=>
(if aiI=true then
aZ si.2 P1.block P1.off λaiJ aiK adg adh adi=>
(run (Et base) 39 [(.agg #[(vI aiJ),(vI aiK),(vL adg.1 adg.2),(vL adh.1 adh.2),(vL adi.1 adi.2)])] si.2).bind λadj=>
gG (some adj.1) 5 λaiL=>
gm aiL λaiM aiN adk adl adm=>
(run (Et base) 88 [(.agg #[(vI aiM),(vI aiN),(vL adk.1 adk.2),(vL adl.1 adl.2),(vL adm.1 adm.2)])] adj.2).bind λadn=>
(cM 2 adn.1).bind λado=>
gG (ado[0]?) 5 λaiO=>
gm aiO λaiP aiQ adp adq adr=>
gG (ado[1]?) 7 λaiR=>
jm aiR λaiS aiT aiU aiV aiW aiX ads=>
(wr base adn.2 Is.block Is.off [(vI aiP),(vI aiQ),(vL adp.1 adp.2),(vL adq.1 adq.2),(vL adr.1 adr.2)]).bind λaiY=>
(wr base aiY It.block It.off [(vI aiS),(vI aiT),(vI aiU),(vI aiV),(vI aiW),(vT aiX),(vL ads.1 ads.2)]).bind λXD=>
aZ XD Is.block Is.off λaiZ ai0 adt adu adv=>
bu XD It.block It.off λai1 ai2 ai3 ai4 ai5 ai6 adw=>
some ((.tuple #[(.agg #[(vI aiZ),(vI ai0),(vL adt.1 adt.2),(vL adu.1 adu.2),(vL adv.1 adv.2)]),(.agg #[(vI ai1),(vI ai2),(vI ai3),(vI ai4),(vI ai5),(vT ai6),(vL adw.1 adw.2)])]),XD)
else
(gI (cell si.2 wB.block (wB.off+0)) λai7=>
(if (ai7==16)=true then
gI (cell si.2 wB.block (wB.off+4)) λai8=>
gL (cell si.2 P1.block (P1.off+2)) λadx=>
gI (cell si.2 wB.block (wB.off+2)) λXE=>
(if 0<=XE/\XE<(adx.2:Int) then
adx.1.bind λady=>
aL si.2 ady.block (ady.off+af XE*4) λai9 aja ajb adz=>
(run (Et base) 40 [(.agg #[(vI ai9),(vI aja),(vT ajb),(vL adz.1 adz.2)])] si.2).bind λXF=>
gG (some XF.1) 4 λajc=>
cF ajc λajd aje ajf adA=>
(gate (bc si.2 XF.2 (some ⟨wB.block,(wB.off+4),none⟩) 1)
((wr base XF.2 P2.block P2.off [(vI 4),(vI aiH),(vI ai8),(vI ajd),(vI aje),(vT ajf),(vL adA.1 adA.2)]).bind λajg=>
some (.inl ([some (vA Is),some (vA It),some (vA wB),some (vA ade),some (vA P2),some (vA adf)],ajg))))
else none)
else
some (.inl ([some (vA Is),some (vA It),some (vA wB),some (vA ade),some (vA P2),some (vA adf)],si.2)))).bind λFi=>bH Fi λFi=>
BM Fi.1 λP3 P4 adB P5 XG adC=>
gL (cell Fi.2 P5.block (P5.off+2)) λadD=>
gI (cell Fi.2 adB.block (adB.off+1)) λXH=>
aL Fi.2 adC.block adC.off λajh aji ajj adE=>
(if 0<=XH/\XH<(adD.2:Int) then
adD.1.bind λadF=>
(wr base Fi.2 adF.block (adF.off+af XH*4) [(vI ajh),(vI aji),(vT ajj),(vL adE.1 adE.2)]).bind λP6=>
aZ P6 P5.block P5.off λajk ajl adG adH adI=>
bu P6 XG.block XG.off λajm ajn ajo ajp ajq ajr adJ=>
(wr base P6 P3.block P3.off [(vI ajk),(vI ajl),(vL adG.1 adG.2),(vL adH.1 adH.2),(vL adI.1 adI.2)]).bind λadK=>
(gate (bc P6 adK (some XG) 7)
((wr base adK P4.block P4.off [(vI ajm),(vI ajn),(vI ajo),(vI ajp),(vI ajq),(vT ajr),(vL adJ.1 adJ.2)]).bind λXI=>
aZ XI P3.block P3.off λajs ajt adL adM adN=>
bu XI P4.block P4.off λaju ajv ajw ajx ajy ajz adO=>
some ((.tuple #[(.agg #[(vI ajs),(vI ajt),(vL adL.1 adL.2),(vL adM.1 adM.2),(vL adN.1 adN.2)]),(.agg #[(vI aju),(vI ajv),(vI ajw),(vI ajx),(vI ajy),(vT ajz),(vL adO.1 adO.2)])]),XI)))
else none)))))))))
else none)
else none)
theorem Oz{base:Nat}{v0:Option Addr}{aB:Nat}{eO:Int}{eP:Int}{eQ:Option Addr}{fi:Nat}{eT:Option Addr}{dd:Nat}{gn:Option Addr}{fj:Nat}{v2:Int}{h:AH}{r:Value×AH}(hx:agJ base v0 aB eO eP eQ fi eT dd gn fj v2 h=some r):run (Et base) 46 [(vL v0 aB),(.agg #[(vI eO),(vI eP),(vL eQ fi),(vL eT dd),(vL gn fj)]),(vI v2)] h=some r:=cZ (an:=SX) Tryz.func46 hx
abbrev ajA(base:Nat)(v0:Option Addr)(v1:Int)(fB:Int)(fC:Int)(fD:Int)(fE:Int)(zh:Int)(zj:ByteArray)(zk:Option Addr)(qS:Nat)(h:AH):OV:=
cR h 58 [(vI fB),(vI fC),(vI fD),(vI fE),(vI zh),(vT zj),(vL zk qS)] λh1=>
gI (cell h1 (ae h) 0) λn2=>
(if (n2==2)=true then
some ((.bool false),h1)
else
(if (n2==3)=true then
gI (cell h1 (ae h) 1) λn3=>
aL h1 (ae h) 3 λn4 n5 s6 l7=>
(run (Et base) 90 [(.pointer v0),(vI n3),(.agg #[(vI n4),(vI n5),(vT s6),(vL l7.1 l7.2)])] h1).bind λr8=>
gB (some r8.1) λb9=>
some ((.bool true),r8.2)
else
(if (n2==4)=true then
((v0).bind λyT=>
gL (cell h1 yT.block (yT.off+1)) λiI=>
(if decide ((iI.2:Int)>=(20:Int))=true then
some (.inl ([some (.pointer v0),some (vI v1),some (vP (ae h)),some (.bool true)],h1))
else
(v0).bind λmy=>
gI (cell h1 my.block (my.off+2)) λmT=>
some (.inl ([some (.pointer v0),some (vI v1),some (vP (ae h)),some (.bool (decide (mT>=90000)))],h1)))).bind λwg=>bH wg λwg=>
K7 wg.1 λXJ lC d17 P7=>
(if P7=true then
(run (Et base) 92 [(vT (⟨#[102,117,108,108]⟩:ByteArray))] wg.2).bind λpP=>
gG (some pP.1) 4 λkH=>
cF kH λtE pO XK kJ=>
(run (Et base) 91 [(.pointer XJ),(vI lC),(.agg #[(vI tE),(vI pO),(vT XK),(vL kJ.1 kJ.2)])] pP.2).bind λCs=>
(cM 0 Cs.1).bind λ_=>
some ((.bool false),Cs.2)
else
(XJ).bind λPg=>
gL (cell wg.2 Pg.block (Pg.off+1)) λBY=>
gI (cell wg.2 d17.block (d17.off+1)) λrF=>
gI (cell wg.2 d17.block (d17.off+2)) λwz=>
aL wg.2 d17.block (d17.off+3) λxH Io XL rz=>
(run (Et base) 93 [(vI rF),(vI wz),(.agg #[(vI xH),(vI Io),(vT XL),(vL rz.1 rz.2)])] wg.2).bind λOx=>
gG (some Ox.1) 5 λub=>
gm ub λxJ E8 GH xM wa=>
(gate (bc wg.2 Ox.2 (some ⟨Pg.block,(Pg.off+1),none⟩) 1)
((gate (fP (some ⟨Pg.block,(Pg.off+1),none⟩) (ae Ox.2))
(cR Ox.2 53 [(vI xJ),(vI E8),(vL GH.1 GH.2),(vL xM.1 xM.2),(vL wa.1 wa.2)] λPI=>
(app base PI 53 5 88 BY.1 BY.2 (br PI (some ⟨(ae Ox.2),0,none⟩) (1*5)) 1).bind λp42=>
gL (some p42.1) λxK=>
(XJ).bind λSS=>
(wr base p42.2 SS.block (SS.off+1) [(vL xK.1 xK.2)]).bind λUD=>
(XJ).bind λSX=>
gI (cell UD SX.block (SX.off+2)) λxL=>
(XJ).bind λSY=>
(wr base UD SY.block (SY.off+2) [(vI (ag .i64 (xL+1)))]).bind λZc=>
(XJ).bind λa50=>
gL (cell Zc a50.block (a50.off+3)) λLO=>
gI (cell Zc d17.block (d17.off+1)) λGU=>
aL Zc d17.block (d17.off+3) λCt tF s55 l56=>
(run (Et base) 94 [(vL LO.1 LO.2),(vI 1),(vI GU),(.agg #[(vI Ct),(vI tF),(vT s55),(vL l56.1 l56.2)])] Zc).bind λXM=>
gL (some XM.1) λUt=>
(XJ).bind λa59=>
(wr base XM.2 a59.block (a59.off+3) [(vL Ut.1 Ut.2)]).bind λh60=>
some ((.bool true),h60))))))
else
(if (n2==5)=true then
(v0).bind λa61=>
gL (cell h1 a61.block (a61.off+3)) λLc=>
aL h1 (ae h) 3 λn63 Ou s65 l66=>
(run (Et base) 94 [(vL Lc.1 Lc.2),(vI 2),(vI v1),(.agg #[(vI n63),(vI Ou),(vT s65),(vL l66.1 l66.2)])] h1).bind λUO=>
gL (some UO.1) λl68=>
(v0).bind λa69=>
(wr base UO.2 a69.block (a69.off+3) [(vL l68.1 l68.2)]).bind λh70=>
some ((.bool true),h70)
else
(if (n2==6)=true then
gI (cell h1 (ae h) 1) λn71=>
(run (Et base) 95 [(.pointer v0),(vI v1),(vI n71)] h1).bind λOA=>
(cM 0 OA.1).bind λ_=>
some ((.bool true),OA.2)
else
(if (n2==7)=true then
aL h1 (ae h) 3 λOy PK s75 l76=>
(run (Et base) 91 [(.pointer v0),(vI v1),(.agg #[(vI Oy),(vI PK),(vT s75),(vL l76.1 l76.2)])] h1).bind λXN=>
(cM 0 XN.1).bind λ_=>
some ((.bool false),XN.2)
else
some ((.bool true),h1)))))))
theorem UC{base:Nat}{v0:Option Addr}{v1:Int}{fB:Int}{fC:Int}{fD:Int}{fE:Int}{zh:Int}{zj:ByteArray}{zk:Option Addr}{qS:Nat}{h:AH}{r:Value×AH}(hx:ajA base v0 v1 fB fC fD fE zh zj zk qS h=some r):run (Et base) 47 [(.pointer v0),(vI v1),(.agg #[(vI fB),(vI fC),(vI fD),(vI fE),(vI zh),(vT zj),(vL zk qS)])] h=some r:=cZ (an:=a47) Tryz.func47 hx
theorem r48{base:Nat}{aV:Int}{aW:Int}{aX:Int}{aY:Int}{cz:Int}{dy:ByteArray}{h:AH}{r:Value×AH}(hx:(cR h 70 [(vI aV),(vI aW),(vI aX),(vI aY),(vI cz),(vT dy)] λh1=>
cR h1 89 [(vI 0),(vI 0),(vI 0),(vI 0),(vI 0),(vT ⟨#[]⟩)] λh2=>
cR h2 89 [(vI 0),(vI 0),(vI 0),(vI 0),(vI 0),(vT ⟨#[]⟩)] λh3=>
((cell h3 (ae h) 0).bind (au .i64)).bind λn4=>
(wr base h3 (ae h2) 0 [(vI n4)]).bind λh5=>
((cell h5 (ae h) 1).bind (au .i64)).bind λn6=>
(wr base h5 (ae h2) 1 [(vI n6)]).bind λh7=>
((cell h7 (ae h) 2).bind (au .i64)).bind λn8=>
(wr base h7 (ae h2) 2 [(vI n8)]).bind λh9=>
((cell h9 (ae h) 3).bind (au .i64)).bind λfl=>
(wr base h9 (ae h2) 3 [(vI fl)]).bind λjc=>
((cell jc (ae h) 4).bind (au .i64)).bind λfS=>
(wr base jc (ae h2) 4 [(vI fS)]).bind λnK=>
((cell nK (ae h) 5).bind aK).bind λE_=>
(wr base nK (ae h2) 5 [(vT E_)]).bind λpx=>
dW px (ae h2) 0 λlC nL lE lh pK Xf=>
(wr base px (ae h1) 0 [(vI lC),(vI nL),(vI lE),(vI lh),(vI pK),(vT Xf)]).bind λEe=>
dW Ee (ae h1) 0 λqR rD nA u9 uc s28=>
some ((.agg #[(vI qR),(vI rD),(vI nA),(vI u9),(vI uc),(vT s28)]),Ee))=some r):run (Et base) 48 [(.agg #[(vI aV),(vI aW),(vI aX),(vI aY),(vI cz),(vT dy)])] h=some r:=cZ (an:=SY) Tryz.func48 hx
theorem r49{base:Nat}{aV:Int}{aW:Int}{aX:Option Addr}{jd:Nat}{aY:Option Addr}{aR:Nat}{cz:Option Addr}{je:Nat}{h:AH}{r:Value×AH}(hx:(cR h 74 [(vI aV),(vI aW),(vL aX jd),(vL aY aR),(vL cz je)] λh1=>
cR h1 53 [(vI 0),(vI 0),(vL none 0),(vL none 0),(vL none 0)] λh2=>
cR h2 53 [(vI 0),(vI 0),(vL none 0),(vL none 0),(vL none 0)] λh3=>
((cell h3 (ae h) 0).bind (au .i64)).bind λn4=>
(wr base h3 (ae h2) 0 [(vI n4)]).bind λh5=>
((cell h5 (ae h) 1).bind (au .i64)).bind λn6=>
(wr base h5 (ae h2) 1 [(vI n6)]).bind λh7=>
((cell h7 (ae h) 2).bind aN).bind λl8=>
(run (Et base) 96 [(vL l8.1 l8.2)] h7).bind λr9=>
((some r9.1).bind aN).bind λep=>
(wr base r9.2 (ae h2) 2 [(vL ep.1 ep.2)]).bind λjc=>
((cell jc (ae h) 3).bind aN).bind λiI=>
(run (Et base) 96 [(vL iI.1 iI.2)] jc).bind λlF=>
((some lF.1).bind aN).bind λeU=>
(wr base lF.2 (ae h2) 3 [(vL eU.1 eU.2)]).bind λpx=>
((cell px (ae h) 4).bind aN).bind λkt=>
(run (Et base) 97 [(vL kt.1 kt.2)] px).bind λEf=>
((some Ef.1).bind aN).bind λpu=>
(wr base Ef.2 (ae h2) 4 [(vL pu.1 pu.2)]).bind λh19=>
aZ h19 (ae h2) 0 λpK tE mR nQ kJ=>
(wr base h19 (ae h1) 0 [(vI pK),(vI tE),(vL mR.1 mR.2),(vL nQ.1 nQ.2),(vL kJ.1 kJ.2)]).bind λOo=>
aZ Oo (ae h1) 0 λu9 uc ry ua A7=>
some ((.agg #[(vI u9),(vI uc),(vL ry.1 ry.2),(vL ua.1 ua.2),(vL A7.1 A7.2)]),Oo))=some r):run (Et base) 49 [(.agg #[(vI aV),(vI aW),(vL aX jd),(vL aY aR),(vL cz je)])] h=some r:=cZ (an:=a49) Tryz.func49 hx
theorem r50{base:Nat}{aV:Int}{aW:Int}{aX:Int}{aY:Int}{cz:ByteArray}{dy:Option Addr}{pQ:Nat}{h:AH}{r:Value×AH}(hx:(cR h 79 [(vI aV),(vI aW),(vI aX),(vI aY),(vT cz),(vL dy pQ)] λh1=>
cR h1 82 [(vI 0),(vI 0),(vI 0),(vI 0),(vT ⟨#[]⟩),(vL none 0)] λh2=>
cR h2 82 [(vI 0),(vI 0),(vI 0),(vI 0),(vT ⟨#[]⟩),(vL none 0)] λh3=>
((cell h3 (ae h) 0).bind (au .i64)).bind λn4=>
(wr base h3 (ae h2) 0 [(vI n4)]).bind λh5=>
((cell h5 (ae h) 1).bind (au .i64)).bind λn6=>
(wr base h5 (ae h2) 1 [(vI n6)]).bind λh7=>
aL h7 (ae h) 2 λn8 n9 sf fw=>
(run (Et base) 98 [(.agg #[(vI n8),(vI n9),(vT sf),(vL fw.1 fw.2)])] h7).bind λiq=>
gG (some iq.1) 4 λiN=>
cF iN λmT qj PU iz=>
(wr base iq.2 (ae h2) 2 [(vI mT),(vI qj),(vT PU),(vL iz.1 iz.2)]).bind λku=>
gV ku (ae h2) 0 λlh pK tE pO XK kJ=>
(wr base ku (ae h1) 0 [(vI lh),(vI pK),(vI tE),(vI pO),(vT XK),(vL kJ.1 kJ.2)]).bind λOo=>
gV Oo (ae h1) 0 λu9 uc rF wz s30 xI=>
some ((.agg #[(vI u9),(vI uc),(vI rF),(vI wz),(vT s30),(vL xI.1 xI.2)]),Oo))=some r):run (Et base) 50 [(.agg #[(vI aV),(vI aW),(vI aX),(vI aY),(vT cz),(vL dy pQ)])] h=some r:=cZ (an:=a50) Tryz.func50 hx
def GV(base:Nat):Body:=gH base SZ S9 [1,1,0,1,0,0] Tryz.f51 S0
theorem CK(base:Nat)(v3:Option Addr)(lM:Nat)(v6:Option Addr)(XO:Nat)(v7:Int)(v8:Int)(h:AH):GV base [some (vL v3 lM),some (vL v6 XO),some (vI v7),some (vI v8)] h =
((if decide (v8<v7)=true then
(if 0<=v8/\v8<(XO:Int) then
v6.bind λa1=>
gV h a1.block (a1.off+af v8*6) λn2 n3 n4 n5 s6 l7=>
cR h 82 [(vI 0),(vI 0),(vI 0),(vI 0),(vT ⟨#[]⟩),(vL none 0)] λh8=>
(wr base h8 (ae h) 0 [(vI n2),(vI n3),(vI n4),(vI n5),(vT s6),(vL l7.1 l7.2)]).bind λh9=>
aL h9 (ae h) 2 λfl eV Mt iN=>
(run (Et base) 62 [(.agg #[(vI fl),(vI eV),(vT Mt),(vL iN.1 iN.2)])] h9).bind λrE=>
gG (some rE.1) 4 λhK=>
cF hK λlC nL s18 jy=>
(wr base rE.2 (ae h) 2 [(vI lC),(vI nL),(vT s18),(vL jy.1 jy.2)]).bind λA_=>
gV A_ (ae h) 0 λtE pO qR rD Iu pv=>
cR A_ 82 [(vI tE),(vI pO),(vI qR),(vI rD),(vT Iu),(vL pv.1 pv.2)] λGD=>
(app base GD 82 6 72 v3 lM (br GD (some ⟨(ae A_),0,none⟩) (1*6)) 1).bind λUP=>
gL (some UP.1) λua=>
some (0,[some (vL ua.1 ua.2),some (vL v6 XO),some (vI v7),some (vI (ag .i64 (v8+1)))],UP.2)
else none)
else
some (2,[some (vL v3 lM)],h)):OB):=by kernel_rfl
theorem r51{base:Nat}{v0:Option Addr}{aB:Nat}{h:AH}{r:Value×AH}(hx:((aF (GV base) [some (vL none 0),some (vL v0 aB),some (vI (aB:Int)),some (vI 0)] h).bind λq1=>
(if q1.1=2 then
gL (ay q1.2.1 0) λl2=>
some ((vL l2.1 l2.2),q1.2.2)
else
none))=some r):run (Et base) 51 [(vL v0 aB)] h=some r:=cZ (an:=a51) Tryz.func51 hx
theorem XP{base:Nat}{aV:Int}{aW:Int}{aX:Option Addr}{jd:Nat}{aY:Option Addr}{aR:Nat}{cz:Option Addr}{je:Nat}{h:AH}{r:Value×AH}(hx:(cR h 53 [(vI aV),(vI aW),(vL aX jd),(vL aY aR),(vL cz je)] λh1=>
cR h1 53 [(vI 0),(vI 0),(vL none 0),(vL none 0),(vL none 0)] λh2=>
gL (cell h2 (ae h) 2) λl3=>
(run (Et base) 99 [(vL l3.1 l3.2)] h2).bind λr4=>
gL (some r4.1) λl5=>
(gate (bc h2 r4.2 (some ⟨(ae h),3,none⟩) 1)
(gL (cell r4.2 (ae h) 3) λl6=>
(run (Et base) 99 [(vL l6.1 l6.2)] r4.2).bind λr7=>
gL (some r7.1) λl8=>
(gate (bc r4.2 r7.2 (some ⟨(ae h),4,none⟩) 1)
((gate (bc h2 r7.2 (some ⟨(ae h),4,none⟩) 1)
(gL (cell r7.2 (ae h) 4) λl9=>
(run (Et base) 100 [(vL l9.1 l9.2)] r7.2).bind λql=>
gL (some ql.1) λfw=>
(wr base ql.2 (ae h) 2 [(vL l5.1 l5.2)]).bind λlZ=>
(wr base lZ (ae h) 3 [(vL l8.1 l8.2)]).bind λnK=>
(wr base nK (ae h) 4 [(vL fw.1 fw.2)]).bind λA5=>
aZ A5 (ae h) 0 λqj lC iz pu jy=>
(wr base A5 (ae h1) 0 [(vI qj),(vI lC),(vL iz.1 iz.2),(vL pu.1 pu.2),(vL jy.1 jy.2)]).bind λA_=>
aZ A_ (ae h1) 0 λtE pO nQ kJ Ba=>
some ((.agg #[(vI tE),(vI pO),(vL nQ.1 nQ.2),(vL kJ.1 kJ.2),(vL Ba.1 Ba.2)]),A_))))))))=some r):run (Et base) 52 [(.agg #[(vI aV),(vI aW),(vL aX jd),(vL aY aR),(vL cz je)])] h=some r:=cZ (an:=a52) Tryz.func52 hx
def GX(base:Nat):Body:=gH base S_ Tb [1,1,0,1,0,0] Tryz.f53 Ta
theorem CL(base:Nat)(v0:Option Addr)(aB:Nat)(v3:Int)(v8:Option Addr)(UQ:Nat)(v9:Int)(v10:Int)(h:AH):GX base [some (vL v0 aB),some (vI v3),some (vL v8 UQ),some (vI v9),some (vI v10)] h =
((if decide (v10<v9)=true then
(if 0<=v10/\v10<(UQ:Int) then
v8.bind λa1=>
dW h a1.block (a1.off+af v10*6) λn2 n3 n4 n5 n6 s7=>
cR h 89 [(vI 0),(vI 0),(vI 0),(vI 0),(vI 0),(vT ⟨#[]⟩)] λh8=>
(wr base h8 (ae h) 0 [(vI n2),(vI n3),(vI n4),(vI n5),(vI n6),(vT s7)]).bind λh9=>
dW h9 (ae h) 0 λfl eV fS jz mT LQ=>
(run (Et base) 101 [(.agg #[(vI fl),(vI eV),(vI fS),(vI jz),(vI mT),(vT LQ)]),(vI v3)] h9).bind λmS=>
((some mS.1).bind aO).bind λzd=>
(if (!zd)=true then
some (1,[some (.bool false)],mS.2)
else
some (0,[some (vL v0 aB),some (vI v3),some (vL v8 UQ),some (vI v9),some (vI (ag .i64 (v10+1)))],mS.2))
else none)
else
some (2,[some (vL v0 aB),some (vI v3)],h)):OB):=by kernel_rfl
theorem r53{base:Nat}{v0:Option Addr}{aB:Nat}{h:AH}{r:Value×AH}(hx:((aF (GX base) [some (.slice v0 aB aB),some (.int .i64 (aB:Int)),some (.slice v0 aB aB),some (.int .i64 (aB:Int)),some (.int .i64 (0:Int))] h).bind λq1=>
(if q1.1=1 then
((ay q1.2.1 0).bind aO).bind λb2=>
some ((.bool b2),q1.2.2)
else
(if q1.1=2 then
((ay q1.2.1 0).bind aN).bind λl3=>
((ay (q1.2.1.tail) 0).bind (au .i64)).bind λn4=>
(run (Et base) 23 [(.int .i64 n4),(.int .i64 (1:Int)),(.int .i64 (200:Int))] q1.2.2).bind λr5=>
((some r5.1).bind aO).bind λb6=>
(if b6=true then
(if 0<=(ag .i64 (n4-1))/\(ag .i64 (n4-1))<(l3.2:Int) then
l3.1.bind λa7=>
((cell r5.2 a7.block ((a7.off+af (ag .i64 (n4-1))*6)+0)).bind (au .i64)).bind λn8=>
(if (n8==19)=true then
some ((.bool true),r5.2)
else
(if 0<=(ag .i64 (n4-1))/\(ag .i64 (n4-1))<(l3.2:Int) then
l3.1.bind λa9=>
((cell r5.2 a9.block ((a9.off+af (ag .i64 (n4-1))*6)+0)).bind (au .i64)).bind λfl=>
some ((.bool (fl==12)),r5.2)
else none))
else none)
else
some ((.bool false),r5.2))
else
none)))=some r):run (Et base) 53 [(vL v0 aB)] h=some r:=cZ (an:=Tc) Tryz.func53 hx
def CM(base:Nat):Body:=gH base Td Tf [1,0,1,0,0] Tryz.f54 Te
theorem CN(base:Nat)(v0:Option Addr)(aB:Nat)(v5:Option Addr)(tH:Nat)(v6:Int)(v7:Int)(h:AH):CM base [some (vL v0 aB),some (vL v5 tH),some (vI v6),some (vI v7)] h =
((if decide (v7<v6)=true then
(if 0<=v7/\v7<(tH:Int) then
v5.bind λa1=>
gV h a1.block (a1.off+af v7*6) λn2 n3 n4 n5 s6 l7=>
cR h 82 [(vI 0),(vI 0),(vI 0),(vI 0),(vT ⟨#[]⟩),(vL none 0)] λh8=>
(wr base h8 (ae h) 0 [(vI n2),(vI n3),(vI n4),(vI n5),(vT s6),(vL l7.1 l7.2)]).bind λh9=>
(((cell h9 (ae h) 0).bind (au .i64)).bind λeV=>
(run (Et base) 23 [(vI eV),(vI 1),(vI 3)] h9).bind λiq=>
((some iq.1).bind aO).bind λMK=>
(if (!MK)=true then
some (.inl ([some (vL v0 aB),some (vL v5 tH),some (vI v6),some (vI v7),some (.bool true)],iq.2))
else
((cell iq.2 (ae h) 1).bind (au .i64)).bind λmT=>
(run (Et base) 23 [(vI mT),(vI 1),(vI 99999)] iq.2).bind λjR=>
((some jR.1).bind aO).bind λrZ=>
(if (!rZ)=true then
some (.inl ([some (vL v0 aB),some (vL v5 tH),some (vI v6),some (vI v7),some (.bool true)],jR.2))
else
aL jR.2 (ae h) 2 λnL lE P8 kH=>
(run (Et base) 61 [(.agg #[(vI nL),(vI lE),(vT P8),(vL kH.1 kH.2)])] jR.2).bind λnM=>
((some nM.1).bind aO).bind λb22=>
some (.inl ([some (vL v0 aB),some (vL v5 tH),some (vI v6),some (vI v7),some (.bool (!b22))],nM.2))))).bind λwg=>bH wg λwg=>
Pp wg.1 λnQ kJ nA u9 b27=>
(if b27=true then
some (1,[some (.bool false)],wg.2)
else
some (0,[some (vL nQ.1 nQ.2),some (vL kJ.1 kJ.2),some (vI nA),some (vI (ag .i64 (u9+1)))],wg.2))
else none)
else
some (2,[some (vL v0 aB)],h)):OB):=by kernel_rfl
theorem r54{base:Nat}{v0:Option Addr}{aB:Nat}{h:AH}{r:Value×AH}(hx:((aF (CM base) [some (.slice v0 aB aB),some (.slice v0 aB aB),some (.int .i64 (aB:Int)),some (.int .i64 (0:Int))] h).bind λq1=>
(if q1.1=1 then
((ay q1.2.1 0).bind aO).bind λb2=>
some ((.bool b2),q1.2.2)
else
(if q1.1=2 then
((ay q1.2.1 0).bind aN).bind λl3=>
some ((.bool (decide ((l3.2:Int)<=(500:Int)))),q1.2.2)
else
none)))=some r):run (Et base) 54 [(vL v0 aB)] h=some r:=cZ (an:=a54) Tryz.func54 hx
theorem r55{base:Nat}{v0:Option Addr}{aB:Nat}{eO:Int}{eP:Int}{eQ:Option Addr}{fi:Nat}{eT:Option Addr}{dd:Nat}{gn:Option Addr}{fj:Nat}{h:AH}{r:Value×AH}(hx:(cR h 53 [(vI eO),(vI eP),(vL eQ fi),(vL eT dd),(vL gn fj)] λh1=>
(run (Et base) 53 [(vL v0 aB)] h1).bind λr2=>
((some r2.1).bind aO).bind λb3=>
(if b3=true then
((cell r2.2 (ae h) 0).bind (au .i64)).bind λn4=>
(run (Et base) 23 [(vI n4),(vI 1),(vI 99999)] r2.2).bind λr5=>
((some r5.1).bind aO).bind λb6=>
(if b6=true then
((cell r5.2 (ae h) 1).bind (au .i64)).bind λn7=>
(run (Et base) 23 [(vI n7),(vI 0),(vI (ag .i64 ((aB:Int)-(1:Int))))] r5.2).bind λr8=>
((some r8.1).bind aO).bind λb9=>
(if b9=true then
((cell r8.2 (ae h) 2).bind aN).bind λep=>
(if ((ep.2:Int)==(8:Int))=true then
((cell r8.2 (ae h) 2).bind aN).bind λfw=>
(run (Et base) 102 [(vL fw.1 fw.2)] r8.2).bind λiq=>
((some iq.1).bind aO).bind λMK=>
(if MK=true then
((cell iq.2 (ae h) 3).bind aN).bind λeU=>
(if decide ((eU.2:Int)<=(30:Int))=true then
((cell iq.2 (ae h) 3).bind aN).bind λhK=>
(run (Et base) 102 [(vL hK.1 hK.2)] iq.2).bind λmS=>
((some mS.1).bind aO).bind λzd=>
(if zd=true then
((cell mS.2 (ae h) 4).bind aN).bind λpu=>
((cell mS.2 (ae h) 0).bind (au .i64)).bind λlh=>
(run (Et base) 103 [(vL pu.1 pu.2),(vI lh)] mS.2).bind λsZ=>
((some sZ.1).bind aO).bind λLD=>
some ((.bool LD),sZ.2)
else
some ((.bool false),mS.2))
else
some ((.bool false),iq.2))
else
some ((.bool false),iq.2))
else
some ((.bool false),r8.2))
else
some ((.bool false),r8.2))
else
some ((.bool false),r5.2))
else
some ((.bool false),r2.2)))=some r):run (Et base) 55 [(vL v0 aB),(.agg #[(vI eO),(vI eP),(vL eQ fi),(vL eT dd),(vL gn fj)])] h=some r:=cZ (an:=Tg) Tryz.func55 hx
def ML(base:Nat):Body:=gH base Th Tj [1,0,1,0,0] Tryz.f56 Ti
theorem ve(base:Nat)(v1:Int)(v7:Option Addr)(ue:Nat)(v8:Int)(v9:Int)(h:AH):ML base [some (vI v1),some (vL v7 ue),some (vI v8),some (vI v9)] h =
((if decide (v9<v8)=true then
(if 0<=v9/\v9<(ue:Int) then
v7.bind λa1=>
((cell h a1.block (a1.off+af v9*1)).bind (au .i64)).bind λn2=>
(if (n2==v1)=true then
some (1,[some (.bool true)],h)
else
some (0,[some (.int .i64 v1),some (.slice v7 ue ue),some (.int .i64 v8),some (.int .i64 (ag .i64 (v9+1)))],h))
else none)
else
some (2,[],h)):OB):=by kernel_rfl
theorem GY{base:Nat}{v0:Option Addr}{aB:Nat}{v1:Int}{h:AH}{r:Value×AH}(hx:((aF (ML base) [some (.int .i64 v1),some (.slice v0 aB aB),some (.int .i64 (aB:Int)),some (.int .i64 (0:Int))] h).bind λq1=>
(if q1.1=1 then
((ay q1.2.1 0).bind aO).bind λb2=>
some ((.bool b2),q1.2.2)
else
(if q1.1=2 then
some ((.bool false),q1.2.2)
else
none)))=some r):run (Et base) 56 [(vL v0 aB),(vI v1)] h=some r:=cZ (an:=a56) Tryz.func56 hx
end
end Go.Proofs.YtkdenmdijdmnjaaGreat.Am
