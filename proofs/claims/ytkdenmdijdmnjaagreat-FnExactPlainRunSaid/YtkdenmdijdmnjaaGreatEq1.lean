/- What each of these functions comes to on the abstract machine, one equation a function and one a loop.
Conditions: none. -/
import Derived.Test.YtkdenmdijdmnjaaGreatTb
set_option linter.unusedVariables false
set_option maxRecDepth 100000
namespace Go.Proofs.YtkdenmdijdmnjaaGreat.Am
open Go Go.RowKit
open _root_.Go.IntKind renaming wrap->ag
open _root_.Int renaming tmod->ga,toNat->af
open _root_.List renaming length->ae
noncomputable section
abbrev qf3(base:Nat)(aV:Option Addr)(cq:Nat)(aW:Option Addr)(cr:Nat)(aX:Int)(aY:Option Addr)(aR:Nat)(v1:Int)(v2:Int)(h:AH):OV:=
cR h 26 [(vL aV cq),(vL aW cr),(vI aX),(vL aY aR)] λh1=>
ca h1 (ae h) 0 λl2 l3 n4 l5=>
(run (Et base) 4 [(.agg #[(vL l2.1 l2.2),(vL l3.1 l3.2),(vI n4),(vL l5.1 l5.2)]),(vI 1048576)] h1).bind λr6=>
gI (some r6.1) λn7=>
(if decide (n7<0)=true then
some ((.bool true),r6.2)
else
ca r6.2 (ae h) 0 λl8 l9 fl fw=>
(run (Et base) 6 [(.agg #[(vL l8.1 l8.2),(vL l9.1 l9.2),(vI fl),(vL fw.1 fw.2)])] r6.2).bind λiq=>
gG (some iq.1) 4 λiN=>
mQ iN λeU hK lC iz=>
(run (Et base) 5 [(.agg #[(vL eU.1 eU.2),(vL hK.1 hK.2),(vI lC),(vL iz.1 iz.2)]),(vI v1),(vI v2)] iq.2).bind λqv=>
(cM 2 qv.1).bind λjy=>
gG (jy[0]?) 4 λkH=>
mQ kH λlD mR qR kJ=>
gB (jy[1]?) λb25=>
cR qv.2 32 [(vL none 0),(vL none 0),(vI 0),(vL none 0)] λWj=>
(wr base Wj (ae qv.2) 0 [(vL lD.1 lD.2),(vL mR.1 mR.2),(vI qR),(vL kJ.1 kJ.2)]).bind λGD=>
ca GD (ae h) 0 λry ua xH xI=>
(run (Et base) 6 [(.agg #[(vL ry.1 ry.2),(vL ua.1 ua.2),(vI xH),(vL xI.1 xI.2)])] GD).bind λUr=>
gG (some Ur.1) 4 λrz=>
mQ rz λuX ub xJ uY=>
cR Ur.2 32 [(vL none 0),(vL none 0),(vI 0),(vL none 0)] λY4=>
(wr base Y4 (ae Ur.2) 0 [(vL uX.1 uX.2),(vL ub.1 ub.2),(vI xJ),(vL uY.1 uY.2)]).bind λIf=>
ca If (ae Ur.2) 0 λwa tD La xK=>
(run (Et base) 7 [(.agg #[(vL wa.1 wa.2),(vL tD.1 tD.2),(vI La),(vL xK.1 xK.2)]),(vI v1),(vI v2)] If).bind λwc=>
(cM 2 wc.1).bind λEZ=>
gG (EZ[0]?) 4 λyY=>
mQ yY λBR GF E0 Us=>
gB (EZ[1]?) λb51=>
cR wc.2 32 [(vL none 0),(vL none 0),(vI 0),(vL none 0)] λh52=>
(wr base h52 (ae wc.2) 0 [(vL BR.1 BR.2),(vL GF.1 GF.2),(vI E0),(vL Us.1 Us.2)]).bind λh53=>
(ca h53 (ae wc.2) 0 λl55 l56 Ps Ut=>
ca h53 (ae qv.2) 0 λLb l60 n61 Lc=>
(run (Et base) 8 [(.agg #[(vL l55.1 l55.2),(vL l56.1 l56.2),(vI Ps),(vL Ut.1 Ut.2)]),(.agg #[(vL Lb.1 Lb.2),(vL l60.1 l60.2),(vI n61),(vL Lc.1 Lc.2)])] h53).bind λr63=>
gB (some r63.1) λb64=>
(if (!b64)=true then
some (.inl ([some (vI v1),some (vI v2),some (vP (ae h)),some (vP (ae qv.2)),some (.bool b25),some (vP (ae Ur.2)),some (vP (ae wc.2)),some (.bool b51),some (.bool true)],r63.2))
else
some (.inl ([some (vI v1),some (vI v2),some (vP (ae h)),some (vP (ae qv.2)),some (.bool b25),some (vP (ae Ur.2)),some (vP (ae wc.2)),some (.bool b51),some (.bool (!(b51==b25)))],r63.2)))).bind λUu=>bH Uu λUu=>
BP Uu.1 λPt Ld d67 d68 Y5 d70 d71 b72 b73=>
(if b73=true then
some ((.bool false),Uu.2)
else
ca Uu.2 d70.block d70.off λl74 Uv Pu Wk=>
ca Uu.2 d67.block d67.off λl78 Uw n80 GG=>
(run (Et base) 6 [(.agg #[(vL l78.1 l78.2),(vL Uw.1 Uw.2),(vI n80),(vL GG.1 GG.2)])] Uu.2).bind λE1=>
gG (some E1.1) 4 λl83=>
mQ l83 λUx Uy Of Uz=>
(gate (bc Uu.2 E1.2 (some d70) 4)
((run (Et base) 8 [(.agg #[(vL l74.1 l74.2),(vL Uv.1 Uv.2),(vI Pu),(vL Wk.1 Wk.2)]),(.agg #[(vL Ux.1 Ux.2),(vL Uy.1 Uy.2),(vI Of),(vL Uz.1 Uz.2)])] E1.2).bind λI_=>
gB (some I_.1) λb89=>
(if (!b89)=true then
some ((.bool false),I_.2)
else
ca I_.2 d70.block d70.off λl90 l91 n92 Lf=>
(run (Et base) 9 [(.agg #[(vL l90.1 l90.2),(vL l91.1 l91.2),(vI n92),(vL Lf.1 Lf.2)]),(vI 1)] I_.2).bind λWl=>
gI (some Wl.1) λPv=>
((if decide (Pv<0)=true then
some (.inl ([some (vI Pt),some (vI Ld),some (vA d67),some (vA d68),some (.bool Y5),some (vA d71),some (.bool true)],Wl.2))
else
ca Wl.2 d71.block d71.off λl97 UA n99 BS=>
ca Wl.2 d68.block d68.off λPw aa3 uZ Lg=>
(run (Et base) 8 [(.agg #[(vL l97.1 l97.2),(vL UA.1 UA.2),(vI n99),(vL BS.1 BS.2)]),(.agg #[(vL Pw.1 Pw.2),(vL aa3.1 aa3.2),(vI uZ),(vL Lg.1 Lg.2)])] Wl.2).bind λLh=>
gB (some Lh.1) λafy=>
(if (!afy)=true then
some (.inl ([some (vI Pt),some (vI Ld),some (vA d67),some (vA d68),some (.bool Y5),some (vA d71),some (.bool true)],Lh.2))
else
some (.inl ([some (vI Pt),some (vI Ld),some (vA d67),some (vA d68),some (.bool Y5),some (vA d71),some (.bool (!(b72==Y5)))],Lh.2))))).bind λY6=>bH Y6 λY6=>
Ic Y6.1 λLi E2 d109 d110 afz d112 afA=>
(if afA=true then
some ((.bool false),Y6.2)
else
ca Y6.2 d112.block d112.off λLj aa4 Wm BT=>
(run (Et base) 9 [(.agg #[(vL Lj.1 Lj.2),(vL aa4.1 aa4.2),(vI Wm),(vL BT.1 BT.2)]),(vI 1)] Y6.2).bind λLk=>
gI (some Lk.1) λE3=>
ca Lk.2 d112.block d112.off λLl BU Lm aa5=>
(run (Et base) 10 [(.agg #[(vL Ll.1 Ll.2),(vL BU.1 BU.2),(vI Lm),(vL aa5.1 aa5.2)]),(vI 1)] Lk.2).bind λE4=>
gI (some E4.1) λPx=>
(if decide (Px<0)=true then
some ((.bool false),E4.2)
else
(if (Px != E3)=true then
some ((.bool false),E4.2)
else
ca E4.2 d109.block d109.off λBV Ln Lo Lp=>
(run (Et base) 6 [(.agg #[(vL BV.1 BV.2),(vL Ln.1 Ln.2),(vI Lo),(vL Lp.1 Lp.2)])] E4.2).bind λPy=>
gG (some Py.1) 4 λE5=>
mQ E5 λrY Lq Lr Ls=>
(run (Et base) 7 [(.agg #[(vL rY.1 rY.2),(vL Lq.1 Lq.2),(vI Lr),(vL Ls.1 Ls.2)]),(vI Li),(vI E2)] Py.2).bind λyZ=>
(cM 2 yZ.1).bind λLt=>
gG (Lt[0]?) 4 λafB=>
mQ afB λLu Lv E6 E7=>
gB (Lt[1]?) λafC=>
cR yZ.2 32 [(vL none 0),(vL none 0),(vI 0),(vL none 0)] λLw=>
(wr base Lw (ae yZ.2) 0 [(vL Lu.1 Lu.2),(vL Lv.1 Lv.2),(vI E6),(vL E7.1 E7.2)]).bind λWn=>
(ca Wn (ae yZ.2) 0 λLx Ly Wo aa6=>
ca Wn d110.block d110.off λLz aa7 LA LB=>
(run (Et base) 8 [(.agg #[(vL Lx.1 Lx.2),(vL Ly.1 Ly.2),(vI Wo),(vL aa6.1 aa6.2)]),(.agg #[(vL Lz.1 Lz.2),(vL aa7.1 aa7.2),(vI LA),(vL LB.1 LB.2)])] Wn).bind λWq=>
gB (some Wq.1) λafD=>
(if (!afD)=true then
some (.inl ([some (vA d112),some (vI E3),some (.bool true)],Wq.2))
else
some (.inl ([some (vA d112),some (vI E3),some (.bool (!(afC==afz)))],Wq.2)))).bind λIg=>bH Ig λIg=>
Up Ig.1 λaa8 y9 afE=>
(if afE=true then
some ((.bool false),Ig.2)
else
ca Ig.2 aa8.block aa8.off λLC BW afF aa9=>
(run (Et base) 10 [(.agg #[(vL LC.1 LC.2),(vL BW.1 BW.2),(vI afF),(vL aa9.1 aa9.2)]),(vI 1)] Ig.2).bind λPz=>
gI (some Pz.1) λPA=>
(if decide (PA<0)=true then
some ((.bool false),Pz.2)
else
(if (PA != y9)=true then
some ((.bool false),Pz.2)
else
some ((.bool true),Pz.2))))))))))))
theorem r3{base:Nat}{aV:Option Addr}{cq:Nat}{aW:Option Addr}{cr:Nat}{aX:Int}{aY:Option Addr}{aR:Nat}{v1:Int}{v2:Int}{h:AH}{r:Value×AH}(hx:qf3 base aV cq aW cr aX aY aR v1 v2 h=some r):run (Et base) 3 [(.agg #[(vL aV cq),(vL aW cr),(vI aX),(vL aY aR)]),(vI v1),(vI v2)] h=some r:=cZ (an:=a3) Tryz.func3 hx
theorem r4{base:Nat}{aV:Option Addr}{cq:Nat}{aW:Option Addr}{cr:Nat}{aX:Int}{aY:Option Addr}{aR:Nat}{v1:Int}{h:AH}{r:Value×AH}(hx:((some (h++[some ⟨[(.slice aV cq cq),(.slice aW cr cr),(.int .i64 aX),(.slice aY aR aR)],26⟩])).bind λh1=>
((cell h1 (ae h) 0).bind aN).bind λl2=>
(run (Et base) 11 [(.slice l2.1 l2.2 l2.2),(.int .i64 v1)] h1).bind λr3=>
((some r3.1).bind (au .i64)).bind λn4=>
(if decide (n4<0)=true then
some ((.int .i64 (-1:Int)),r3.2)
else
((cell r3.2 (ae h) 1).bind aN).bind λl5=>
(run (Et base) 12 [(.slice l5.1 l5.2 l5.2),(.int .i64 n4)] r3.2).bind λr6=>
((some r6.1).bind (au .i64)).bind λn7=>
(if decide (n7<0)=true then
some ((.int .i64 (-1:Int)),r6.2)
else
((cell r6.2 (ae h) 3).bind aN).bind λl8=>
(run (Et base) 13 [(.slice l8.1 l8.2 l8.2),(.int .i64 n7)] r6.2).bind λr9=>
((some r9.1).bind (au .i64)).bind λfl=>
(if decide (fl<0)=true then
some ((.int .i64 (-1:Int)),r9.2)
else
some ((.int .i64 fl),r9.2)))))=some r):run (Et base) 4 [(.agg #[(vL aV cq),(vL aW cr),(vI aX),(vL aY aR)]),(vI v1)] h=some r:=cZ (an:=a4) Tryz.func4 hx
abbrev qf5(base:Nat)(aV:Option Addr)(cq:Nat)(aW:Option Addr)(cr:Nat)(aX:Int)(aY:Option Addr)(aR:Nat)(v1:Int)(v2:Int)(h:AH):OV:=
cR h 32 [(vL aV cq),(vL aW cr),(vI aX),(vL aY aR)] λh1=>
cR h1 32 [(vL none 0),(vL none 0),(vI 0),(vL none 0)] λh2=>
ca h2 (ae h) 0 λl3 l4 n5 l6=>
(run (Et base) 14 [(.agg #[(vL l3.1 l3.2),(vL l4.1 l4.2),(vI n5),(vL l6.1 l6.2)])] h2).bind λr7=>
gG (some r7.1) 4 λl8=>
mQ l8 λl9 ep eV iI=>
cR r7.2 32 [(vL none 0),(vL none 0),(vI 0),(vL none 0)] λnK=>
(wr base nK (ae r7.2) 0 [(vL l9.1 l9.2),(vL ep.1 ep.2),(vI eV),(vL iI.1 iI.2)]).bind λA5=>
(ca A5 (ae h) 0 λkt iz lE jy=>
(run (Et base) 15 [(.agg #[(vL kt.1 kt.2),(vL iz.1 iz.2),(vI lE),(vL jy.1 jy.2)])] A5).bind λsZ=>
gB (some sZ.1) λLD=>
(if (!LD)=true then
some (.inl ([some (vI v1),some (vI v2),some (vP (ae h1)),some (vP (ae r7.2)),some (.bool true)],sZ.2))
else
(if decide (v1<0)=true then
some (.inl ([some (vI v1),some (vI v2),some (vP (ae h1)),some (vP (ae r7.2)),some (.bool true)],sZ.2))
else
(run (Et base) 16 [(vI v2),(vI 1),(vI 20)] sZ.2).bind λLF=>
gB (some LF.1) λb23=>
(if (!b23)=true then
some (.inl ([some (vI v1),some (vI v2),some (vP (ae h1)),some (vP (ae r7.2)),some (.bool true)],LF.2))
else
gL (cell LF.2 (ae h) 1) λkJ=>
some (.inl ([some (vI v1),some (vI v2),some (vP (ae h1)),some (vP (ae r7.2)),some (.bool ((kJ.2:Int)==(0:Int)))],LF.2)))))).bind λs_=>bH s_ λs_=>
yX s_.1 λnA u9 d27 d28 b29=>
(if b29=true then
ca s_.2 d28.block d28.off λA7 xI PB rz=>
(wr base s_.2 d27.block d27.off [(vL A7.1 A7.2),(vL xI.1 xI.2),(vI PB),(vL rz.1 rz.2)]).bind λPC=>
ca PC d27.block d27.off λub Ed E8 GH=>
some ((.tuple #[(.agg #[(vL ub.1 ub.2),(vL Ed.1 Ed.2),(vI E8),(vL GH.1 GH.2)]),(.bool false)]),PC)
else
(run (Et base) 17 [(vA d28),(vI nA),(vI u9)] s_.2).bind λBX=>
(cM 0 BX.1).bind λ_=>
ca BX.2 d28.block d28.off λwa tD La xK=>
(wr base BX.2 d27.block d27.off [(vL wa.1 wa.2),(vL tD.1 tD.2),(vI La),(vL xK.1 xK.2)]).bind λOg=>
ca Og d27.block d27.off λEZ yY xL GF=>
some ((.tuple #[(.agg #[(vL EZ.1 EZ.2),(vL yY.1 yY.2),(vI xL),(vL GF.1 GF.2)]),(.bool true)]),Og))
theorem r5{base:Nat}{aV:Option Addr}{cq:Nat}{aW:Option Addr}{cr:Nat}{aX:Int}{aY:Option Addr}{aR:Nat}{v1:Int}{v2:Int}{h:AH}{r:Value×AH}(hx:qf5 base aV cq aW cr aX aY aR v1 v2 h=some r):run (Et base) 5 [(.agg #[(vL aV cq),(vL aW cr),(vI aX),(vL aY aR)]),(vI v1),(vI v2)] h=some r:=cZ (an:=a5) Tryz.func5 hx
theorem r6{base:Nat}{aV:Option Addr}{cq:Nat}{aW:Option Addr}{cr:Nat}{aX:Int}{aY:Option Addr}{aR:Nat}{h:AH}{r:Value×AH}(hx:(cR h 26 [(vL aV cq),(vL aW cr),(vI aX),(vL aY aR)] λh1=>
cR h1 32 [(vL none 0),(vL none 0),(vI 0),(vL none 0)] λh2=>
cR h2 32 [(vL none 0),(vL none 0),(vI 0),(vL none 0)] λh3=>
((cell h3 (ae h) 0).bind aN).bind λl4=>
(run (Et base) 18 [(vL l4.1 l4.2)] h3).bind λr5=>
((some r5.1).bind aN).bind λl6=>
(wr base r5.2 (ae h2) 0 [(vL l6.1 l6.2)]).bind λh7=>
((cell h7 (ae h) 1).bind aN).bind λl8=>
(run (Et base) 19 [(vL l8.1 l8.2)] h7).bind λr9=>
((some r9.1).bind aN).bind λep=>
(wr base r9.2 (ae h2) 1 [(vL ep.1 ep.2)]).bind λjc=>
((cell jc (ae h) 2).bind (au .i64)).bind λfS=>
(wr base jc (ae h2) 2 [(vI fS)]).bind λnK=>
((cell nK (ae h) 3).bind aN).bind λeU=>
(run (Et base) 20 [(vL eU.1 eU.2)] nK).bind λjR=>
((some jR.1).bind aN).bind λkt=>
(wr base jR.2 (ae h2) 3 [(vL kt.1 kt.2)]).bind λtc=>
ca tc (ae h2) 0 λpu jy pK lD=>
(wr base tc (ae h1) 0 [(vL pu.1 pu.2),(vL jy.1 jy.2),(vI pK),(vL lD.1 lD.2)]).bind λEe=>
ca Ee (ae h1) 0 λnQ kJ nA pv=>
some ((.agg #[(vL nQ.1 nQ.2),(vL kJ.1 kJ.2),(vI nA),(vL pv.1 pv.2)]),Ee))=some r):run (Et base) 6 [(.agg #[(vL aV cq),(vL aW cr),(vI aX),(vL aY aR)])] h=some r:=cZ (an:=a6) Tryz.func6 hx
def LG(base:Nat):Body:=gH base aao aaq [1,1,1,1,0,1,0,0] Tryz.f7 aap
theorem GI(base:Nat)(v6:Addr)(v8:Addr)(v9:Int)(v44:Int)(v45:Int)(h:AH):LG base [some (vA v6),some (vA v8),some (vI v9),some (vI v44),some (vI v45)] h =
((if decide (v45<v44)=true then
(run (Et base) 24 [(vA v8),(vI v9)] h).bind λr1=>
gI (some r1.1) λn2=>
gL (cell r1.2 v8.block (v8.off+0)) λl3=>
gL (cell r1.2 v8.block (v8.off+1)) λl4=>
(if 0<=n2/\n2<(l4.2:Int) then
l4.1.bind λa5=>
aZ r1.2 a5.block (a5.off+af n2*5) λn6 n7 l8 l9 ep=>
gI (cell r1.2 v8.block (v8.off+2)) λeV=>
(run (Et base) 25 [(vL l3.1 l3.2),(.agg #[(vI n6),(vI n7),(vL l8.1 l8.2),(vL l9.1 l9.2),(vL ep.1 ep.2)]),(vI eV)] r1.2).bind λiq=>
(cM 2 iq.1).bind λiN=>
gG (iN[0]?) 5 λeU=>
gm eU λqj lC iz pu jy=>
gG (iN[1]?) 7 λkH=>
jm kH λtE pO qR rD nA s26 BY=>
(gate (fP (some ⟨v8.block,(v8.off+2),none⟩) (ae iq.2))
((gate (fP (some ⟨a5.block,(a5.off+af n2*5),none⟩) (ae iq.2))
((gate (fP (some ⟨v8.block,(v8.off+1),none⟩) (ae iq.2))
((gate (fP (some ⟨v8.block,(v8.off+0),none⟩) (ae iq.2))
(cR iq.2 53 [(vI 0),(vI 0),(vL none 0),(vL none 0),(vL none 0)] λPD=>
(gate (fP (some ⟨v8.block,(v8.off+2),none⟩) (ae PD))
((gate (fP (some ⟨a5.block,(a5.off+af n2*5),none⟩) (ae PD))
((gate (fP (some ⟨v8.block,(v8.off+1),none⟩) (ae PD))
((gate (fP (some ⟨v8.block,(v8.off+0),none⟩) (ae PD))
(cR PD 58 [(vI 0),(vI 0),(vI 0),(vI 0),(vI 0),(vT ⟨#[]⟩),(vL none 0)] λwx=>
(wr base wx (ae iq.2) 0 [(vI qj),(vI lC),(vL iz.1 iz.2),(vL pu.1 pu.2),(vL jy.1 jy.2)]).bind λY7=>
(wr base Y7 (ae PD) 0 [(vI tE),(vI pO),(vI qR),(vI rD),(vI nA),(vT s26),(vL BY.1 BY.2)]).bind λI'=>
gL (cell I' v8.block (v8.off+1)) λqk=>
aZ I' (ae iq.2) 0 λPF Oh ub Ed uY=>
(if 0<=n2/\n2<(qk.2:Int) then
qk.1.bind λA3=>
(wr base I' A3.block (A3.off+af n2*5) [(vI PF),(vI Oh),(vL ub.1 ub.2),(vL Ed.1 Ed.2),(vL uY.1 uY.2)]).bind λIf=>
bu If (ae PD) 0 λLH Ws La E9 UB Wt yY=>
(run (Et base) 26 [(vA v8),(vI v9),(.agg #[(vI LH),(vI Ws),(vI La),(vI E9),(vI UB),(vT Wt),(vL yY.1 yY.2)])] If).bind λUC=>
gB (some UC.1) λb48=>
(if (!b48)=true then
some (2,[some (vA v6),some (vA v8)],UC.2)
else
some (0,[some (vA v6),some (vA v8),some (vI v9),some (vI v44),some (vI (ag .i64 (v45+1)))],UC.2))
else none)))))))))))))))))
else none)
else
some (2,[some (vA v6),some (vA v8)],h)):OB):=by kernel_rfl
abbrev qf7(base:Nat)(aV:Option Addr)(cq:Nat)(aW:Option Addr)(cr:Nat)(aX:Int)(aY:Option Addr)(aR:Nat)(v1:Int)(v2:Int)(h:AH):OV:=
cR h 32 [(vL aV cq),(vL aW cr),(vI aX),(vL aY aR)] λh1=>
cR h1 32 [(vL none 0),(vL none 0),(vI 0),(vL none 0)] λh2=>
ca h2 (ae h) 0 λl3 l4 n5 l6=>
(run (Et base) 21 [(.agg #[(vL l3.1 l3.2),(vL l4.1 l4.2),(vI n5),(vL l6.1 l6.2)])] h2).bind λr7=>
gG (some r7.1) 4 λl8=>
mQ l8 λl9 ep eV iI=>
cR r7.2 32 [(vL none 0),(vL none 0),(vI 0),(vL none 0)] λnK=>
(wr base nK (ae r7.2) 0 [(vL l9.1 l9.2),(vL ep.1 ep.2),(vI eV),(vL iI.1 iI.2)]).bind λA5=>
(ca A5 (ae h) 0 λkt iz lE jy=>
(run (Et base) 22 [(.agg #[(vL kt.1 kt.2),(vL iz.1 iz.2),(vI lE),(vL jy.1 jy.2)])] A5).bind λsZ=>
gB (some sZ.1) λLD=>
(if (!LD)=true then
some (.inl ([some (vI v1),some (vI v2),some (vP (ae h)),some (vP (ae h1)),some (vP (ae r7.2)),some (.bool true)],sZ.2))
else
(if decide (v1<0)=true then
some (.inl ([some (vI v1),some (vI v2),some (vP (ae h)),some (vP (ae h1)),some (vP (ae r7.2)),some (.bool true)],sZ.2))
else
(run (Et base) 23 [(vI v2),(vI 1),(vI 20)] sZ.2).bind λLF=>
gB (some LF.1) λb23=>
(if (!b23)=true then
some (.inl ([some (vI v1),some (vI v2),some (vP (ae h)),some (vP (ae h1)),some (vP (ae r7.2)),some (.bool true)],LF.2))
else
gL (cell LF.2 (ae h) 1) λkJ=>
some (.inl ([some (vI v1),some (vI v2),some (vP (ae h)),some (vP (ae h1)),some (vP (ae r7.2)),some (.bool ((kJ.2:Int)==(0:Int)))],LF.2)))))).bind λs_=>bH s_ λs_=>
K2 s_.1 λnA u9 d27 d28 d29 b30=>
(if b30=true then
ca s_.2 d29.block d29.off λxI qk PF uX=>
(wr base s_.2 d28.block d28.off [(vL xI.1 xI.2),(vL qk.1 qk.2),(vI PF),(vL uX.1 uX.2)]).bind λY8=>
ca Y8 d28.block d28.off λEd uY Oi xM=>
some ((.tuple #[(.agg #[(vL Ed.1 Ed.2),(vL uY.1 uY.2),(vI Oi),(vL xM.1 xM.2)]),(.bool false)]),Y8)
else
gL (cell s_.2 d27.block (d27.off+1)) λwa=>
gL (cell s_.2 d27.block (d27.off+1)) λtD=>
(if (tD.2:Int)=0 then none else
(if 0<=(ga nA (tD.2:Int))/\(ga nA (tD.2:Int))<(wa.2:Int) then
wa.1.bind λSN=>
gI (cell s_.2 SN.block ((SN.off+af (ga nA (tD.2:Int))*5)+0)) λE9=>
(aF (LG base) [some (vA d28),some (vA d29),some (vI E9),some (vI u9),some (vI 0)] s_.2).bind λq44=>
(if q44.1=2 then
Ib q44.2.1 λd45 d46=>
ca q44.2.2 d46.block d46.off λBR GF E0 Us=>
(wr base q44.2.2 d45.block d45.off [(vL BR.1 BR.2),(vL GF.1 GF.2),(vI E0),(vL Us.1 Us.2)]).bind λh51=>
ca h51 d45.block d45.off λA8 Oj tF l55=>
some ((.tuple #[(.agg #[(vL A8.1 A8.2),(vL Oj.1 Oj.2),(vI tF),(vL l55.1 l55.2)]),(.bool true)]),h51)
else
none)
else none)))
theorem r7{base:Nat}{aV:Option Addr}{cq:Nat}{aW:Option Addr}{cr:Nat}{aX:Int}{aY:Option Addr}{aR:Nat}{v1:Int}{v2:Int}{h:AH}{r:Value×AH}(hx:qf7 base aV cq aW cr aX aY aR v1 v2 h=some r):run (Et base) 7 [(.agg #[(vL aV cq),(vL aW cr),(vI aX),(vL aY aR)]),(vI v1),(vI v2)] h=some r:=cZ (an:=a7) Tryz.func7 hx
theorem r8{base:Nat}{aV:Option Addr}{cq:Nat}{aW:Option Addr}{cr:Nat}{aX:Int}{aY:Option Addr}{aR:Nat}{eO:Option Addr}{LI:Nat}{eP:Option Addr}{LJ:Nat}{eQ:Int}{eT:Option Addr}{dd:Nat}{h:AH}{r:Value×AH}(hx:((some (h++[some ⟨[(.slice aV cq cq),(.slice aW cr cr),(.int .i64 aX),(.slice aY aR aR)],32⟩])).bind λh1=>
(some (h1++[some ⟨[(.slice eO LI LI),(.slice eP LJ LJ),(.int .i64 eQ),(.slice eT dd dd)],32⟩])).bind λh2=>
((cell h2 (ae h) 0).bind aN).bind λl3=>
((cell h2 (ae h1) 0).bind aN).bind λl4=>
(run (Et base) 27 [(.slice l3.1 l3.2 l3.2),(.slice l4.1 l4.2 l4.2)] h2).bind λr5=>
((some r5.1).bind aO).bind λb6=>
(if (!b6)=true then
some ((.bool false),r5.2)
else
((cell r5.2 (ae h) 1).bind aN).bind λl7=>
((cell r5.2 (ae h1) 1).bind aN).bind λl8=>
(run (Et base) 28 [(.slice l7.1 l7.2 l7.2),(.slice l8.1 l8.2 l8.2)] r5.2).bind λr9=>
((some r9.1).bind aO).bind λGJ=>
(if (!GJ)=true then
some ((.bool false),r9.2)
else
((cell r9.2 (ae h) 2).bind (au .i64)).bind λeV=>
((cell r9.2 (ae h1) 2).bind (au .i64)).bind λfS=>
(if (eV != fS)=true then
some ((.bool false),r9.2)
else
((cell r9.2 (ae h) 3).bind aN).bind λiN=>
((cell r9.2 (ae h1) 3).bind aN).bind λeU=>
(run (Et base) 29 [(.slice iN.1 iN.2 iN.2),(.slice eU.1 eU.2 eU.2)] r9.2).bind λjR=>
((some jR.1).bind aO).bind λrZ=>
(if (!rZ)=true then
some ((.bool false),jR.2)
else
some ((.bool true),jR.2))))))=some r):run (Et base) 8 [(.agg #[(vL aV cq),(vL aW cr),(vI aX),(vL aY aR)]),(.agg #[(vL eO LI),(vL eP LJ),(vI eQ),(vL eT dd)])] h=some r:=cZ (an:=a8) Tryz.func8 hx
theorem r9{base:Nat}{aV:Option Addr}{cq:Nat}{aW:Option Addr}{cr:Nat}{aX:Int}{aY:Option Addr}{aR:Nat}{v1:Int}{h:AH}{r:Value×AH}(hx:((some (h++[some ⟨[(.slice aV cq cq),(.slice aW cr cr),(.int .i64 aX),(.slice aY aR aR)],32⟩])).bind λh1=>
((cell h1 (ae h) 0).bind aN).bind λl2=>
(run (Et base) 30 [(.slice l2.1 l2.2 l2.2),(.int .i64 v1)] h1).bind λr3=>
((some r3.1).bind (au .i64)).bind λn4=>
((cell r3.2 (ae h) 1).bind aN).bind λl5=>
(run (Et base) 31 [(.slice l5.1 l5.2 l5.2),(.int .i64 n4)] r3.2).bind λr6=>
((some r6.1).bind (au .i64)).bind λn7=>
((cell r6.2 (ae h) 3).bind aN).bind λl8=>
(run (Et base) 32 [(.slice l8.1 l8.2 l8.2),(.int .i64 n7)] r6.2).bind λr9=>
((some r9.1).bind (au .i64)).bind λfl=>
some ((.int .i64 fl),r9.2))=some r):run (Et base) 9 [(.agg #[(vL aV cq),(vL aW cr),(vI aX),(vL aY aR)]),(vI v1)] h=some r:=cZ (an:=a9) Tryz.func9 hx
theorem ql{base:Nat}{aV:Option Addr}{cq:Nat}{aW:Option Addr}{cr:Nat}{aX:Int}{aY:Option Addr}{aR:Nat}{v1:Int}{h:AH}{r:Value×AH}(hx:((some (h++[some ⟨[(.slice aV cq cq),(.slice aW cr cr),(.int .i64 aX),(.slice aY aR aR)],32⟩])).bind λh1=>
((cell h1 (ae h) 0).bind aN).bind λl2=>
(run (Et base) 33 [(.slice l2.1 l2.2 l2.2),(.int .i64 v1)] h1).bind λr3=>
((some r3.1).bind (au .i64)).bind λn4=>
(if decide (n4<0)=true then
some ((.int .i64 (-1:Int)),r3.2)
else
((cell r3.2 (ae h) 1).bind aN).bind λl5=>
(run (Et base) 34 [(.slice l5.1 l5.2 l5.2),(.int .i64 n4)] r3.2).bind λr6=>
((some r6.1).bind (au .i64)).bind λn7=>
(if decide (n7<0)=true then
some ((.int .i64 (-1:Int)),r6.2)
else
((cell r6.2 (ae h) 3).bind aN).bind λl8=>
(run (Et base) 35 [(.slice l8.1 l8.2 l8.2),(.int .i64 n7)] r6.2).bind λr9=>
((some r9.1).bind (au .i64)).bind λfl=>
(if decide (fl<0)=true then
some ((.int .i64 (-1:Int)),r9.2)
else
some ((.int .i64 fl),r9.2)))))=some r):run (Et base) 10 [(.agg #[(vL aV cq),(vL aW cr),(vI aX),(vL aY aR)]),(vI v1)] h=some r:=cZ (an:=nt) Tryz.func10 hx
def GK(base:Nat):Body:=gH base Rm Ro [1,1,1,0,1,0,0] Tryz.f11 Rn
theorem BZ(base:Nat)(v0:Option Addr)(aB:Nat)(v1:Int)(v5:Int)(h:AH):GK base [some (vL v0 aB),some (vI v1),some (vI v5)] h =
((if decide (v5<(aB:Int))=true then
(if 0<=v5/\v5<(aB:Int) then
v0.bind λa1=>
((cell h a1.block (a1.off+af v5*6)).bind (au .i64)).bind λn2=>
((cell h a1.block ((a1.off+af v5*6)+1)).bind (au .i64)).bind λn3=>
((cell h a1.block (((a1.off+af v5*6)+1)+1)).bind (au .i64)).bind λn4=>
((cell h a1.block ((((a1.off+af v5*6)+1)+1)+1)).bind (au .i64)).bind λn5=>
((cell h a1.block (((((a1.off+af v5*6)+1)+1)+1)+1)).bind (au .i64)).bind λn6=>
((cell h a1.block ((((((a1.off+af v5*6)+1)+1)+1)+1)+1)).bind aK).bind λs7=>
(run (Et base) 36 [(.agg #[(.int .i64 n2),(.int .i64 n3),(.int .i64 n4),(.int .i64 n5),(.int .i64 n6),(.string s7)]),(.int .i64 v1)] h).bind λr8=>
((some r8.1).bind (au .i64)).bind λn9=>
(if decide (n9<0)=true then
some (1,[some (.int .i64 (-1:Int))],r8.2)
else
some (0,[some (.slice v0 aB aB),some (.int .i64 n9),some (.int .i64 (ag .i64 (v5+1)))],r8.2))
else none)
else
some (2,[some (.int .i64 v1)],h)):OB):=by kernel_rfl
theorem iY{base:Nat}{v0:Option Addr}{aB:Nat}{v1:Int}{h:AH}{r:Value×AH}(hx:((if decide ((ag .i64 (v1-(aB:Int)))<0)=true then
some ((.int .i64 (-1:Int)),h)
else
(aF (GK base) [some (.slice v0 aB aB),some (.int .i64 (ag .i64 (v1-(aB:Int)))),some (.int .i64 (0:Int))] h).bind λq1=>
(if q1.1=1 then
((ay q1.2.1 0).bind (au .i64)).bind λn2=>
some ((.int .i64 n2),q1.2.2)
else
(if q1.1=2 then
((ay q1.2.1 0).bind (au .i64)).bind λn3=>
some ((.int .i64 n3),q1.2.2)
else
none))))=some r):run (Et base) 11 [(vL v0 aB),(vI v1)] h=some r:=cZ (an:=yT) Tryz.func11 hx
def GL(base:Nat):Body:=gH base Rp Rr [1,1,1,0,1,0,0] Tryz.f12 Rq
theorem B4(base:Nat)(v0:Option Addr)(aB:Nat)(v1:Int)(v5:Int)(h:AH):GL base [some (vL v0 aB),some (vI v1),some (vI v5)] h =
((if decide (v5<(aB:Int))=true then
(if 0<=v5/\v5<(aB:Int) then
v0.bind λa1=>
((cell h a1.block (a1.off+af v5*5)).bind (au .i64)).bind λn2=>
((cell h a1.block ((a1.off+af v5*5)+1)).bind (au .i64)).bind λn3=>
((cell h a1.block (((a1.off+af v5*5)+1)+1)).bind aN).bind λl4=>
((cell h a1.block ((((a1.off+af v5*5)+1)+1)+1)).bind aN).bind λl5=>
((cell h a1.block (((((a1.off+af v5*5)+1)+1)+1)+1)).bind aN).bind λl6=>
(run (Et base) 37 [(.agg #[(.int .i64 n2),(.int .i64 n3),(.slice l4.1 l4.2 l4.2),(.slice l5.1 l5.2 l5.2),(.slice l6.1 l6.2 l6.2)]),(.int .i64 v1)] h).bind λr7=>
((some r7.1).bind (au .i64)).bind λn8=>
(if decide (n8<0)=true then
some (1,[some (.int .i64 (-1:Int))],r7.2)
else
some (0,[some (.slice v0 aB aB),some (.int .i64 n8),some (.int .i64 (ag .i64 (v5+1)))],r7.2))
else none)
else
some (2,[some (.int .i64 v1)],h)):OB):=by kernel_rfl
theorem iq{base:Nat}{v0:Option Addr}{aB:Nat}{v1:Int}{h:AH}{r:Value×AH}(hx:((if decide ((ag .i64 (v1-(aB:Int)))<0)=true then
some ((.int .i64 (-1:Int)),h)
else
(aF (GL base) [some (.slice v0 aB aB),some (.int .i64 (ag .i64 (v1-(aB:Int)))),some (.int .i64 (0:Int))] h).bind λq1=>
(if q1.1=1 then
((ay q1.2.1 0).bind (au .i64)).bind λn2=>
some ((.int .i64 n2),q1.2.2)
else
(if q1.1=2 then
((ay q1.2.1 0).bind (au .i64)).bind λn3=>
some ((.int .i64 n3),q1.2.2)
else
none))))=some r):run (Et base) 12 [(vL v0 aB),(vI v1)] h=some r:=cZ (an:=yU) Tryz.func12 hx
def GM(base:Nat):Body:=gH base Rt Rv [1,1,1,0,1,0,0] Tryz.f13 Ru
theorem B5(base:Nat)(v0:Option Addr)(aB:Nat)(v1:Int)(v5:Int)(h:AH):GM base [some (vL v0 aB),some (vI v1),some (vI v5)] h =
((if decide (v5<(aB:Int))=true then
(if 0<=v5/\v5<(aB:Int) then
v0.bind λa1=>
((cell h a1.block (a1.off+af v5*6)).bind (au .i64)).bind λn2=>
((cell h a1.block ((a1.off+af v5*6)+1)).bind (au .i64)).bind λn3=>
((cell h a1.block (((a1.off+af v5*6)+1)+1)).bind (au .i64)).bind λn4=>
((cell h a1.block ((((a1.off+af v5*6)+1)+1)+1)).bind (au .i64)).bind λn5=>
((cell h a1.block (((((a1.off+af v5*6)+1)+1)+1)+1)).bind aK).bind λs6=>
((cell h a1.block ((((((a1.off+af v5*6)+1)+1)+1)+1)+1)).bind aN).bind λl7=>
(run (Et base) 38 [(.agg #[(.int .i64 n2),(.int .i64 n3),(.int .i64 n4),(.int .i64 n5),(.string s6),(.slice l7.1 l7.2 l7.2)]),(.int .i64 v1)] h).bind λr8=>
((some r8.1).bind (au .i64)).bind λn9=>
(if decide (n9<0)=true then
some (1,[some (.int .i64 (-1:Int))],r8.2)
else
some (0,[some (.slice v0 aB aB),some (.int .i64 n9),some (.int .i64 (ag .i64 (v5+1)))],r8.2))
else none)
else
some (2,[some (.int .i64 v1)],h)):OB):=by kernel_rfl
theorem lF{base:Nat}{v0:Option Addr}{aB:Nat}{v1:Int}{h:AH}{r:Value×AH}(hx:((if decide ((ag .i64 (v1-(aB:Int)))<0)=true then
some ((.int .i64 (-1:Int)),h)
else
(aF (GM base) [some (.slice v0 aB aB),some (.int .i64 (ag .i64 (v1-(aB:Int)))),some (.int .i64 (0:Int))] h).bind λq1=>
(if q1.1=1 then
((ay q1.2.1 0).bind (au .i64)).bind λn2=>
some ((.int .i64 n2),q1.2.2)
else
(if q1.1=2 then
((ay q1.2.1 0).bind (au .i64)).bind λn3=>
some ((.int .i64 n3),q1.2.2)
else
none))))=some r):run (Et base) 13 [(vL v0 aB),(vI v1)] h=some r:=cZ (an:=my) Tryz.func13 hx
def B6(base:Nat):Body:=gH base Rw Ry [1,1,1,0,1,0,0] Tryz.f14 Rx
def B7(base:Nat):Body:=gH base Rz RB [1,1,0,1,0,0] Tryz.f14 RA
theorem B8(base:Nat)(v1:Addr)(v2:Addr)(v3:Addr)(v5:Int)(h:AH):B6 base [some (vA v1),some (vA v2),some (vA v3),some (vI v5)] h =
(gL (cell h v1.block (v1.off+3)) λl1=>
(if decide (v5<(l1.2:Int))=true then
gL (cell h v1.block (v1.off+3)) λl2=>
(if 0<=v5/\v5<(l2.2:Int) then
l2.1.bind λa3=>
gV h a3.block (a3.off+af v5*6) λn4 n5 n6 n7 s8 l9=>
cR h 82 [(vI 0),(vI 0),(vI 0),(vI 0),(vT ⟨#[]⟩),(vL none 0)] λiO=>
(wr base iO (ae h) 0 [(vI n4),(vI n5),(vI n6),(vI n7),(vT s8),(vL l9.1 l9.2)]).bind λjc=>
aL jc (ae h) 2 λfS jz E_ hK=>
(run (Et base) 40 [(.agg #[(vI fS),(vI jz),(vT E_),(vL hK.1 hK.2)])] jc).bind λmS=>
gG (some mS.1) 4 λiz=>
cF iz λlE lh s20 lD=>
(wr base mS.2 (ae h) 2 [(vI lE),(vI lh),(vT s20),(vL lD.1 lD.2)]).bind λEe=>
gL (cell Ee v3.block (v3.off+3)) λnQ=>
gV Ee (ae h) 0 λrD nA u9 uc s28 ua=>
cR Ee 82 [(vI rD),(vI nA),(vI u9),(vI uc),(vT s28),(vL ua.1 ua.2)] λY7=>
(app base Y7 82 6 72 nQ.1 nQ.2 (br Y7 (some ⟨(ae Ee),0,none⟩) (1*6)) 1).bind λp31=>
gL (some p31.1) λqk=>
(wr base p31.2 v3.block (v3.off+3) [(vL qk.1 qk.2)]).bind λB9=>
some (0,[some (vA v1),some (vA v2),some (vA v3),some (vI (ag .i64 (v5+1)))],B9)
else none)
else
some (4,[some (vA v2),some (vA v3)],h)):OB):=by kernel_rfl
theorem B_(base:Nat)(v1:Addr)(v2:Addr)(v3:Addr)(v4:Int)(h:AH):B7 base [some (vA v1),some (vA v2),some (vA v3),some (vI v4)] h =
(gL (cell h v1.block (v1.off+1)) λl1=>
(if decide (v4<(l1.2:Int))=true then
gL (cell h v3.block (v3.off+1)) λl2=>
gL (cell h v1.block (v1.off+1)) λl3=>
(if 0<=v4/\v4<(l3.2:Int) then
l3.1.bind λa4=>
aZ h a4.block (a4.off+af v4*5) λn5 n6 l7 l8 l9=>
(run (Et base) 39 [(.agg #[(vI n5),(vI n6),(vL l7.1 l7.2),(vL l8.1 l8.2),(vL l9.1 l9.2)])] h).bind λql=>
gG (some ql.1) 5 λfw=>
gm fw λfS jz eU hK kt=>
(gate (bc h ql.2 (some ⟨v3.block,(v3.off+1),none⟩) 1)
((gate (fP (some ⟨v3.block,(v3.off+1),none⟩) (ae ql.2))
(cR ql.2 53 [(vI fS),(vI jz),(vL eU.1 eU.2),(vL hK.1 hK.2),(vL kt.1 kt.2)] λtc=>
(app base tc 53 5 88 l2.1 l2.2 (br tc (some ⟨(ae ql.2),0,none⟩) (1*5)) 1).bind λp18=>
gL (some p18.1) λjy=>
(wr base p18.2 v3.block (v3.off+1) [(vL jy.1 jy.2)]).bind λA_=>
some (0,[some (vA v1),some (vA v2),some (vA v3),some (vI (ag .i64 (v4+1)))],A_)))))
else none)
else
some (2,[some (vA v1),some (vA v2),some (vA v3)],h)):OB):=by kernel_rfl
theorem rE{base:Nat}{aV:Option Addr}{cq:Nat}{aW:Option Addr}{cr:Nat}{aX:Int}{aY:Option Addr}{aR:Nat}{h:AH}{r:Value×AH}(hx:(cR h 32 [(vL aV cq),(vL aW cr),(vI aX),(vL aY aR)] λh1=>
cR h1 32 [(vL none 0),(vL none 0),(vI 0),(vL none 0)] λh2=>
cR h2 89 [] λh3=>
(gate (fP (some ⟨(ae h),0,none⟩) (ae h2))
(gL (cell h3 (ae h) 0) λl4=>
(app base h3 89 6 56 (some ⟨(ae h2),0,none⟩) 0 (br h3 l4.1 (l4.2*6)) l4.2).bind λp5=>
gL (some p5.1) λl6=>
(gate (fP (some ⟨(ae h),2,none⟩) (ae h2))
((gate (bc h3 p5.2 (some ⟨(ae h),2,none⟩) 1)
(gI (cell p5.2 (ae h) 2) λn7=>
(gate (fP (some ⟨(ae h),2,none⟩) (ae p5.2))
((gate (fP (some ⟨(ae h),0,none⟩) (ae p5.2))
(cR p5.2 32 [(vL none 0),(vL none 0),(vI 0),(vL none 0)] λh8=>
(wr base h8 (ae p5.2) 0 [(vL l6.1 l6.2),(vL none 0),(vI n7),(vL none 0)]).bind λh9=>
(aF (B7 base) [some (vP (ae h)),some (vP (ae h1)),some (vP (ae p5.2)),some (vI 0)] h9).bind λq10=>
(if q10.1=2 then
aa1 q10.2.1 λd11 d12 d13=>
(aF (B6 base) [some (vA d11),some (vA d12),some (vA d13),some (vI 0)] q10.2.2).bind λLK=>
(if LK.1=4 then
Ib LK.2.1 λd15 d16=>
ca LK.2.2 d16.block d16.off λiz pu lh kH=>
(wr base LK.2.2 d15.block d15.off [(vL iz.1 iz.2),(vL pu.1 pu.2),(vI lh),(vL kH.1 kH.2)]).bind λY9=>
ca Y9 d15.block d15.off λmR nQ rD Ba=>
some ((.agg #[(vL mR.1 mR.2),(vL nQ.1 nQ.2),(vI rD),(vL Ba.1 Ba.2)]),Y9)
else
none)
else
none))))))))))))=some r):run (Et base) 14 [(.agg #[(vL aV cq),(vL aW cr),(vI aX),(vL aY aR)])] h=some r:=cZ (an:=sY) Tryz.func14 hx
def B'(base:Nat):Body:=gH base RC RE [1,1,0,1,0,0] Tryz.f15 RD
theorem lY(base:Nat)(v1:Addr)(v3:Int)(h:AH):B' base [some (vA v1),some (vI v3)] h =
(((cell h v1.block (v1.off+1)).bind aN).bind λl1=>
(if decide (v3<(l1.2:Int))=true then
((cell h v1.block (v1.off+1)).bind aN).bind λl2=>
(if 0<=v3/\v3<(l2.2:Int) then
l2.1.bind λa3=>
aZ h a3.block (a3.off+af v3*5) λn4 n5 l6 l7 l8=>
cR h 53 [(vI 0),(vI 0),(vL none 0),(vL none 0),(vL none 0)] λh9=>
(wr base h9 (ae h) 0 [(vI n4),(vI n5),(vL l6.1 l6.2),(vL l7.1 l7.2),(vL l8.1 l8.2)]).bind λiO=>
(((cell iO v1.block (v1.off+0)).bind aN).bind λiI=>
aZ iO (ae h) 0 λjz mT hK kt iz=>
(run (Et base) 43 [(vL iI.1 iI.2),(.agg #[(vI jz),(vI mT),(vL hK.1 hK.2),(vL kt.1 kt.2),(vL iz.1 iz.2)])] iO).bind λqv=>
((some qv.1).bind aO).bind λLL=>
(if (!LL)=true then
some (.inl ([some (vA v1),some (vI v3),some (.bool true)],qv.2))
else
((cell qv.2 (ae h) 0).bind (au .i64)).bind λpK=>
((cell qv.2 v1.block (v1.off+2)).bind (au .i64)).bind λtE=>
(if decide (pK>=tE)=true then
some (.inl ([some (vA v1),some (vI v3),some (.bool true)],qv.2))
else
(if decide (v3>0)=true then
((cell qv.2 v1.block (v1.off+1)).bind aN).bind λmR=>
(if 0<=(ag .i64 (v3-1))/\(ag .i64 (v3-1))<(mR.2:Int) then
mR.1.bind λOd=>
((cell qv.2 Od.block ((Od.off+af (ag .i64 (v3-1))*5)+0)).bind (au .i64)).bind λrD=>
((cell qv.2 (ae h) 0).bind (au .i64)).bind λnA=>
(if decide (rD>=nA)=true then
some (.inl ([some (vA v1),some (vI v3),some (.bool true)],qv.2))
else
ca qv.2 v1.block v1.off λpv BY rF ua=>
(run (Et base) 44 [(.agg #[(vL pv.1 pv.2),(vL BY.1 BY.2),(vI rF),(vL ua.1 ua.2)]),(vI v3)] qv.2).bind λJa=>
((some Ja.1).bind aO).bind λb31=>
some (.inl ([some (vA v1),some (vI v3),some (.bool (!b31))],Ja.2)))
else none)
else
ca qv.2 v1.block v1.off λqk rz Oh ub=>
(run (Et base) 44 [(.agg #[(vL qk.1 qk.2),(vL rz.1 rz.2),(vI Oh),(vL ub.1 ub.2)]),(vI v3)] qv.2).bind λy_=>
((some y_.1).bind aO).bind λb37=>
some (.inl ([some (vA v1),some (vI v3),some (.bool (!b37))],y_.2)))))).bind λwe=>bH we λwe=>
Up we.1 λd38 LM b40=>
(if b40=true then
some (1,[some (.bool false)],we.2)
else
some (0,[some (vA d38),some (vI (ag .i64 (LM+1)))],we.2))
else none)
else
some (2,[],h)):OB):=by kernel_rfl
theorem jR{base:Nat}{aV:Option Addr}{cq:Nat}{aW:Option Addr}{cr:Nat}{aX:Int}{aY:Option Addr}{aR:Nat}{h:AH}{r:Value×AH}(hx:(cR h 32 [(vL aV cq),(vL aW cr),(vI aX),(vL aY aR)] λh1=>
(((cell h1 (ae h) 0).bind aN).bind λl3=>
(run (Et base) 41 [(vL l3.1 l3.2)] h1).bind λr4=>
((some r4.1).bind aO).bind λb5=>
(if (!b5)=true then
some (.inl ([some (vP (ae h)),some (.bool true)],r4.2))
else
((cell r4.2 (ae h) 2).bind (au .i64)).bind λn6=>
(run (Et base) 16 [(vI n6),(vI 1),(vI 90000)] r4.2).bind λr7=>
((some r7.1).bind aO).bind λb8=>
(if (!b8)=true then
some (.inl ([some (vP (ae h)),some (.bool true)],r7.2))
else
((cell r7.2 (ae h) 1).bind aN).bind λl9=>
(if decide ((l9.2:Int)>(20:Int))=true then
some (.inl ([some (vP (ae h)),some (.bool true)],r7.2))
else
((cell r7.2 (ae h) 3).bind aN).bind λep=>
(run (Et base) 42 [(vL ep.1 ep.2)] r7.2).bind λiY=>
((some iY.1).bind aO).bind λwy=>
some (.inl ([some (vP (ae h)),some (.bool (!wy))],iY.2)))))).bind λj2=>bH j2 λj2=>
Wh j2.1 λd13 zc=>
(if zc=true then
some ((.bool false),j2.2)
else
(aF (B' base) [some (vA d13),some (vI 0)] j2.2).bind λu_=>
(if u_.1=1 then
((ay u_.2.1 0).bind aO).bind λrZ=>
some ((.bool rZ),u_.2.2)
else
(if u_.1=2 then
some ((.bool true),u_.2.2)
else
none))))=some r):run (Et base) 15 [(.agg #[(vL aV cq),(vL aW cr),(vI aX),(vL aY aR)])] h=some r:=cZ (an:=Ec) Tryz.func15 hx
theorem mS{base:Nat}{v0:Int}{v1:Int}{v2:Int}{h:AH}{r:Value×AH}(hx:((if decide (v0>=v1)=true then
some ((.bool (decide (v0<=v2))),h)
else
some ((.bool false),h)))=some r):run (Et base) 16 [(vI v0),(vI v1),(vI v2)] h=some r:=cZ (an:=ww) Tryz.func16 hx
def xN(base:Nat):Body:=gH base RF RH [1,1,1,0,0] Tryz.f17 RG
theorem Ca(base:Nat)(v0:Option Addr)(v2:Int)(v6:Int)(v7:Bool)(v8:Int)(h:AH):xN base [some (.pointer v0),some (vI v2),some (vI v6),some (.bool v7),some (vI v8)] h =
(((if decide (v8<v2)=true then
some (.inl ([some (.pointer v0),some (vI v2),some (vI v6),some (vI v8),some (.bool v7)],h))
else
some (.inl ([some (.pointer v0),some (vI v2),some (vI v6),some (vI v8),some (.bool false)],h)))).bind λj1=>bH j1 λj1=>
Pr j1.1 λp2 n3 n4 n5 b6=>
(if b6=true then
(p2).bind λa7=>
ca j1.2 a7.block a7.off λl8 l9 fl fw=>
(run (Et base) 45 [(.agg #[(vL l8.1 l8.2),(vL l9.1 l9.2),(vI fl),(vL fw.1 fw.2)]),(vI n4)] j1.2).bind λiq=>
gI (some iq.1) λjz=>
(p2).bind λsY=>
gL (cell iq.2 sY.block (sY.off+0)) λhK=>
(p2).bind λww=>
gL (cell iq.2 ww.block (ww.off+1)) λiz=>
(if 0<=jz/\jz<(iz.2:Int) then
iz.1.bind λnu=>
aZ iq.2 nu.block (nu.off+af jz*5) λlh pK lD mR nQ=>
(p2).bind λI9=>
gI (cell iq.2 I9.block (I9.off+2)) λnA=>
(run (Et base) 46 [(vL hK.1 hK.2),(.agg #[(vI lh),(vI pK),(vL lD.1 lD.2),(vL mR.1 mR.2),(vL nQ.1 nQ.2)]),(vI nA)] iq.2).bind λxO=>
(cM 2 xO.1).bind λBY=>
gG (BY[0]?) 5 λry=>
gm ry λwz xH xI qk rz=>
gG (BY[1]?) 7 λuX=>
jm uX λqm xJ E8 Oi LM s40 tD=>
(gate (fP (some ⟨I9.block,(I9.off+2),none⟩) (ae xO.2))
((gate (fP (some ⟨nu.block,(nu.off+af jz*5),none⟩) (ae xO.2))
((gate (fP (some ⟨ww.block,(ww.off+1),none⟩) (ae xO.2))
((gate (fP (some ⟨sY.block,(sY.off+0),none⟩) (ae xO.2))
(cR xO.2 53 [(vI 0),(vI 0),(vL none 0),(vL none 0),(vL none 0)] λOl=>
(gate (fP (some ⟨I9.block,(I9.off+2),none⟩) (ae Ol))
((gate (fP (some ⟨nu.block,(nu.off+af jz*5),none⟩) (ae Ol))
((gate (fP (some ⟨ww.block,(ww.off+1),none⟩) (ae Ol))
((gate (fP (some ⟨sY.block,(sY.off+0),none⟩) (ae Ol))
(cR Ol 58 [(vI 0),(vI 0),(vI 0),(vI 0),(vI 0),(vT ⟨#[]⟩),(vL none 0)] λh43=>
(wr base h43 (ae xO.2) 0 [(vI wz),(vI xH),(vL xI.1 xI.2),(vL qk.1 qk.2),(vL rz.1 rz.2)]).bind λOg=>
(wr base Og (ae Ol) 0 [(vI qm),(vI xJ),(vI E8),(vI Oi),(vI LM),(vT s40),(vL tD.1 tD.2)]).bind λUD=>
(p2).bind λSX=>
gL (cell UD SX.block (SX.off+1)) λBR=>
aZ UD (ae xO.2) 0 λLN E0 Us LO A8=>
(if 0<=jz/\jz<(BR.2:Int) then
BR.1.bind λTc=>
(wr base UD Tc.block (Tc.off+af jz*5) [(vI LN),(vI E0),(vL Us.1 Us.2),(vL LO.1 LO.2),(vL A8.1 A8.2)]).bind λh54=>
bu h54 (ae Ol) 0 λOm On Ps n58 Wu s60 l61=>
(run (Et base) 47 [(.pointer p2),(vI n4),(.agg #[(vI Om),(vI On),(vI Ps),(vI n58),(vI Wu),(vT s60),(vL l61.1 l61.2)])] h54).bind λr62=>
gB (some r62.1) λb63=>
some (0,[some (.pointer p2),some (vI n3),some (vI n4),some (.bool b63),some (vI (ag .i64 (n5+1)))],r62.2)
else none)))))))))))))))))
else none)
else
some (2,[],j1.2)):OB):=by kernel_rfl
theorem Ef{base:Nat}{v0:Option Addr}{v1:Int}{v2:Int}{h:AH}{r:Value×AH}(hx:((v0).bind λa1=>
gL (cell h a1.block (a1.off+1)) λl2=>
(v0).bind λa3=>
gL (cell h a3.block (a3.off+1)) λl4=>
(if (l4.2:Int)=0 then none else
(if 0<=(ga v1 (l4.2:Int))/\(ga v1 (l4.2:Int))<(l2.2:Int) then
l2.1.bind λa5=>
gI (cell h a5.block ((a5.off+af (ga v1 (l4.2:Int))*5)+0)) λn6=>
(aF (xN base) [some (.pointer v0),some (vI v2),some (vI n6),some (.bool true),some (vI 0)] h).bind λq7=>
(if q7.1=2 then
some ((.tuple #[]),q7.2.2)
else
none)
else none)))=some r):run (Et base) 17 [(.pointer v0),(vI v1),(vI v2)] h=some r:=cZ (an:=a17) Tryz.func17 hx
def LP(base:Nat):Body:=gH base RI RK [1,1,0,1,0,0] Tryz.f18 RJ
theorem Cb(base:Nat)(v0:Option Addr)(aB:Nat)(v3:Option Addr)(lM:Nat)(v4:Int)(h:AH):LP base [some (vL v0 aB),some (vL v3 lM),some (vI v4)] h =
((if decide (v4<(aB:Int))=true then
(if 0<=v4/\v4<(aB:Int) then
v0.bind λa1=>
dW h a1.block (a1.off+af v4*6) λn2 n3 n4 n5 n6 s7=>
(run (Et base) 48 [(.agg #[(vI n2),(vI n3),(vI n4),(vI n5),(vI n6),(vT s7)])] h).bind λr8=>
gG (some r8.1) 6 λl9=>
K9 l9 λfl eV fS jz mT LQ=>
(if 0<=v4/\v4<(lM:Int) then
v3.bind λww=>
(wr base r8.2 ww.block (ww.off+af v4*6) [(vI fl),(vI eV),(vI fS),(vI jz),(vI mT),(vT LQ)]).bind λtc=>
some (0,[some (vL v0 aB),some (vL v3 lM),some (vI (ag .i64 (v4+1)))],tc)
else none)
else none)
else
some (2,[some (vL v3 lM)],h)):OB):=by kernel_rfl
theorem qv{base:Nat}{v0:Option Addr}{aB:Nat}{h:AH}{r:Value×AH}(hx:((if (aB:Int)=(aB:Int)/\0<=(aB:Int)/\(aB:Int)*56<=140737488355328/\(aB:Int)<=140737488355328 then
(some (h++[some ⟨lz [(.int .i64 0),(.int .i64 0),(.int .i64 0),(.int .i64 0),(.int .i64 0),(.string ⟨#[]⟩)] (af (aB:Int)),89⟩])).bind λh1=>
(aF (LP base) [some (.slice v0 aB aB),some (.slice (some ⟨(ae h),0,none⟩) (af (aB:Int)) (af (aB:Int))),some (.int .i64 (0:Int))] h1).bind λq2=>
(if q2.1=2 then
((ay q2.2.1 0).bind aN).bind λl3=>
some ((.slice l3.1 l3.2 l3.2),q2.2.2)
else
none)
else none))=some r):run (Et base) 18 [(vL v0 aB)] h=some r:=cZ (an:=nu) Tryz.func18 hx
def LR(base:Nat):Body:=gH base RL RN [1,1,0,1,0,0] Tryz.f19 RM
theorem Cc(base:Nat)(v0:Option Addr)(aB:Nat)(v3:Option Addr)(lM:Nat)(v4:Int)(h:AH):LR base [some (vL v0 aB),some (vL v3 lM),some (vI v4)] h =
((if decide (v4<(aB:Int))=true then
(if 0<=v4/\v4<(aB:Int) then
v0.bind λa1=>
((cell h a1.block (a1.off+af v4*5)).bind (au .i64)).bind λn2=>
((cell h a1.block ((a1.off+af v4*5)+1)).bind (au .i64)).bind λn3=>
((cell h a1.block (((a1.off+af v4*5)+1)+1)).bind aN).bind λl4=>
((cell h a1.block ((((a1.off+af v4*5)+1)+1)+1)).bind aN).bind λl5=>
((cell h a1.block (((((a1.off+af v4*5)+1)+1)+1)+1)).bind aN).bind λl6=>
(run (Et base) 49 [(.agg #[(.int .i64 n2),(.int .i64 n3),(.slice l4.1 l4.2 l4.2),(.slice l5.1 l5.2 l5.2),(.slice l6.1 l6.2 l6.2)])] h).bind λr7=>
((some r7.1).bind (ig 5)).bind λl8=>
((l8[0]?).bind (au .i64)).bind λn9=>
((l8[1]?).bind (au .i64)).bind λfl=>
((l8[2]?).bind aN).bind λfw=>
((l8[3]?).bind aN).bind λiI=>
((l8[4]?).bind aN).bind λiN=>
(if 0<=v4/\v4<(lM:Int) then
v3.bind λsY=>
(wr base r7.2 sY.block (sY.off+af v4*5) [(.int .i64 n9),(.int .i64 fl),(.slice fw.1 fw.2 fw.2),(.slice iI.1 iI.2 iI.2),(.slice iN.1 iN.2 iN.2)]).bind λpx=>
some (0,[some (.slice v0 aB aB),some (.slice v3 lM lM),some (.int .i64 (ag .i64 (v4+1)))],px)
else none)
else none)
else
some (2,[some (.slice v3 lM lM)],h)):OB):=by kernel_rfl
theorem pP{base:Nat}{v0:Option Addr}{aB:Nat}{h:AH}{r:Value×AH}(hx:((if (aB:Int)=(aB:Int)/\0<=(aB:Int)/\(aB:Int)*88<=140737488355328/\(aB:Int)<=140737488355328 then
(some (h++[some ⟨lz [(.int .i64 0),(.int .i64 0),(.slice none 0 0),(.slice none 0 0),(.slice none 0 0)] (af (aB:Int)),53⟩])).bind λh1=>
(aF (LR base) [some (.slice v0 aB aB),some (.slice (some ⟨(ae h),0,none⟩) (af (aB:Int)) (af (aB:Int))),some (.int .i64 (0:Int))] h1).bind λq2=>
(if q2.1=2 then
((ay q2.2.1 0).bind aN).bind λl3=>
some ((.slice l3.1 l3.2 l3.2),q2.2.2)
else
none)
else none))=some r):run (Et base) 19 [(vL v0 aB)] h=some r:=cZ (an:=a19) Tryz.func19 hx
def LS(base:Nat):Body:=gH base RO RQ [1,1,0,1,0,0] Tryz.f20 RP
theorem Cd(base:Nat)(v0:Option Addr)(aB:Nat)(v3:Option Addr)(lM:Nat)(v4:Int)(h:AH):LS base [some (vL v0 aB),some (vL v3 lM),some (vI v4)] h =
((if decide (v4<(aB:Int))=true then
(if 0<=v4/\v4<(aB:Int) then
v0.bind λa1=>
gV h a1.block (a1.off+af v4*6) λn2 n3 n4 n5 s6 l7=>
(run (Et base) 50 [(.agg #[(vI n2),(vI n3),(vI n4),(vI n5),(vT s6),(vL l7.1 l7.2)])] h).bind λr8=>
gG (some r8.1) 6 λl9=>
K_ l9 λfl eV fS jz E_ hK=>
(if 0<=v4/\v4<(lM:Int) then
v3.bind λww=>
(wr base r8.2 ww.block (ww.off+af v4*6) [(vI fl),(vI eV),(vI fS),(vI jz),(vT E_),(vL hK.1 hK.2)]).bind λtc=>
some (0,[some (vL v0 aB),some (vL v3 lM),some (vI (ag .i64 (v4+1)))],tc)
else none)
else none)
else
some (2,[some (vL v3 lM)],h)):OB):=by kernel_rfl
theorem sZ{base:Nat}{v0:Option Addr}{aB:Nat}{h:AH}{r:Value×AH}(hx:((if (aB:Int)=(aB:Int)/\0<=(aB:Int)/\(aB:Int)*72<=140737488355328/\(aB:Int)<=140737488355328 then
(some (h++[some ⟨lz [(.int .i64 0),(.int .i64 0),(.int .i64 0),(.int .i64 0),(.string ⟨#[]⟩),(.slice none 0 0)] (af (aB:Int)),82⟩])).bind λh1=>
(aF (LS base) [some (.slice v0 aB aB),some (.slice (some ⟨(ae h),0,none⟩) (af (aB:Int)) (af (aB:Int))),some (.int .i64 (0:Int))] h1).bind λq2=>
(if q2.1=2 then
((ay q2.2.1 0).bind aN).bind λl3=>
some ((.slice l3.1 l3.2 l3.2),q2.2.2)
else
none)
else none))=some r):run (Et base) 20 [(vL v0 aB)] h=some r:=cZ (an:=Ob) Tryz.func20 hx
def GN(base:Nat):Body:=gH base RR RT [1,1,0,1,0,0] Tryz.f21 RS
theorem Ce(base:Nat)(v2:Addr)(v3:Addr)(v16:Option Addr)(Wv:Nat)(v17:Int)(Y_:Int)(h:AH):GN base [some (vA v2),some (vA v3),some (vL v16 Wv),some (vI v17),some (vI Y_)] h =
((if decide (Y_<v17)=true then
(if 0<=Y_/\Y_<(Wv:Int) then
v16.bind λa1=>
aZ h a1.block (a1.off+af Y_*5) λn2 n3 l4 l5 l6=>
cR h 53 [(vI 0),(vI 0),(vL none 0),(vL none 0),(vL none 0)] λh7=>
(wr base h7 (ae h) 0 [(vI n2),(vI n3),(vL l4.1 l4.2),(vL l5.1 l5.2),(vL l6.1 l6.2)]).bind λh8=>
gL (cell h8 v3.block (v3.off+1)) λl9=>
aZ h8 (ae h) 0 λfl eV iI iN eU=>
(run (Et base) 52 [(.agg #[(vI fl),(vI eV),(vL iI.1 iI.2),(vL iN.1 iN.2),(vL eU.1 eU.2)])] h8).bind λjR=>
gG (some jR.1) 5 λkt=>
gm kt λnL lE jy kH lD=>
(gate (bc h8 jR.2 (some ⟨v3.block,(v3.off+1),none⟩) 1)
((gate (fP (some ⟨v3.block,(v3.off+1),none⟩) (ae jR.2))
(cR jR.2 53 [(vI nL),(vI lE),(vL jy.1 jy.2),(vL kH.1 kH.2),(vL lD.1 lD.2)] λEe=>
(app base Ee 53 5 88 l9.1 l9.2 (br Ee (some ⟨(ae jR.2),0,none⟩) (1*5)) 1).bind λp23=>
gL (some p23.1) λkJ=>
(wr base p23.2 v3.block (v3.off+1) [(vL kJ.1 kJ.2)]).bind λOo=>
some (0,[some (vA v2),some (vA v3),some (vL v16 Wv),some (vI v17),some (vI (ag .i64 (Y_+1)))],Oo)))))
else none)
else
some (2,[some (vA v2),some (vA v3)],h)):OB):=by kernel_rfl
theorem nM{base:Nat}{aV:Option Addr}{cq:Nat}{aW:Option Addr}{cr:Nat}{aX:Int}{aY:Option Addr}{aR:Nat}{h:AH}{r:Value×AH}(hx:(cR h 32 [(vL aV cq),(vL aW cr),(vI aX),(vL aY aR)] λh1=>
cR h1 32 [(vL none 0),(vL none 0),(vI 0),(vL none 0)] λh2=>
gL (cell h2 (ae h) 0) λl3=>
(app base h2 89 6 56 none 0 (br h2 l3.1 (l3.2*6)) l3.2).bind λp4=>
gL (some p4.1) λl5=>
(gate (bc h2 p4.2 (some ⟨(ae h),2,none⟩) 1)
(gI (cell p4.2 (ae h) 2) λn6=>
(gate (bc h2 p4.2 (some ⟨(ae h),3,none⟩) 1)
(gL (cell p4.2 (ae h) 3) λl7=>
(run (Et base) 51 [(vL l7.1 l7.2)] p4.2).bind λr8=>
gL (some r8.1) λl9=>
(gate (bc p4.2 r8.2 (some ⟨(ae h),2,none⟩) 1)
((gate (fP (some ⟨(ae h),3,none⟩) (ae r8.2))
((gate (fP (some ⟨(ae h),2,none⟩) (ae r8.2))
((gate (fP (some ⟨(ae h),0,none⟩) (ae r8.2))
(cR r8.2 32 [(vL none 0),(vL none 0),(vI 0),(vL none 0)] λiO=>
(wr base iO (ae r8.2) 0 [(vL l5.1 l5.2),(vL none 0),(vI n6),(vL l9.1 l9.2)]).bind λjc=>
gL (cell jc (ae h) 1) λiI=>
(aF (GN base) [some (vP (ae h1)),some (vP (ae r8.2)),some (vL iI.1 iI.2),some (vI (iI.2:Int)),some (vI 0)] jc).bind λUE=>
(if UE.1=2 then
Ib UE.2.1 λd14 d15=>
ca UE.2.2 d15.block d15.off λkt iz lE jy=>
(wr base UE.2.2 d14.block d14.off [(vL kt.1 kt.2),(vL iz.1 iz.2),(vI lE),(vL jy.1 jy.2)]).bind λA_=>
ca A_ d14.block d14.off λlD mR qR kJ=>
some ((.agg #[(vL lD.1 lD.2),(vL mR.1 mR.2),(vI qR),(vL kJ.1 kJ.2)]),A_)
else
none))))))))))))))=some r):run (Et base) 21 [(.agg #[(vL aV cq),(vL aW cr),(vI aX),(vL aY aR)])] h=some r:=cZ (an:=Oc) Tryz.func21 hx
def Cf(base:Nat):Body:=gH base RU RW [1,1,0,1,0,0,1,1,0,0,1,1,1,0,0] Tryz.f22 RV
def Cg(base:Nat):Body:=gH base RX RZ [1,1,0,1,0,0] Tryz.f22 RY
theorem Ch(base:Nat)(v1:Addr)(v4:Addr)(LU:Option Addr)(vc:Nat)(LV:Int)(Bb:Int)(v67:Option Addr)(PG:Nat)(v68:Int)(Ww:Int)(h:AH):Cf base [some (vA v1),some (vA v4),some (vL LU vc),some (vI LV),some (vI Bb),some (vL v67 PG),some (vI v68),some (vI Ww)] h =
((if decide (Ww<v68)=true then
(if 0<=Ww/\Ww<(PG:Int) then
v67.bind λa1=>
((cell h a1.block (a1.off+af Ww*1)).bind (au .i64)).bind λn2=>
(run (Et base) 24 [(vA v1),(vI n2)] h).bind λr3=>
((some r3.1).bind (au .i64)).bind λn4=>
((if decide (n4>=0)=true then
((cell r3.2 v1.block (v1.off+1)).bind aN).bind λl6=>
(if 0<=n4/\n4<(l6.2:Int) then
l6.1.bind λa7=>
((cell r3.2 a7.block ((a7.off+af n4*5)+4)).bind aN).bind λl8=>
((cell r3.2 v4.block (v4.off+0)).bind (au .i64)).bind λn9=>
(run (Et base) 56 [(vL l8.1 l8.2),(vI n9)] r3.2).bind λql=>
((some ql.1).bind aO).bind λE'=>
some (.inl ([some (vA v1),some (vA v4),some (vL LU vc),some (vI LV),some (vI Bb),some (vL v67 PG),some (vI v68),some (vI Ww),some (.bool (!E'))],ql.2))
else none)
else
some (.inl ([some (vA v1),some (vA v4),some (vL LU vc),some (vI LV),some (vI Bb),some (vL v67 PG),some (vI v68),some (vI Ww),some (.bool false)],r3.2)))).bind λj5=>bH j5 λj5=>
BN j5.1 λd12 d13 eU qj lC iz lE lh b20=>
(if b20=true then
some (1,[some (.bool false)],j5.2)
else
some (0,[some (vA d12),some (vA d13),some (vL eU.1 eU.2),some (vI qj),some (vI lC),some (vL iz.1 iz.2),some (vI lE),some (vI (ag .i64 (lh+1)))],j5.2))
else none)
else
some (4,[some (vA v1),some (vL LU vc),some (vI LV),some (vI Bb)],h)):OB):=by kernel_rfl
theorem Cj(base:Nat)(v1:Addr)(LU:Option Addr)(vc:Nat)(LV:Int)(Bb:Int)(h:AH):Cg base [some (vA v1),some (vL LU vc),some (vI LV),some (vI Bb)] h =
((if decide (Bb<LV)=true then
(if 0<=Bb/\Bb<(vc:Int) then
LU.bind λa1=>
aZ h a1.block (a1.off+af Bb*5) λn2 n3 l4 l5 l6=>
cR h 53 [(vI 0),(vI 0),(vL none 0),(vL none 0),(vL none 0)] λh7=>
(wr base h7 (ae h) 0 [(vI n2),(vI n3),(vL l4.1 l4.2),(vL l5.1 l5.2),(vL l6.1 l6.2)]).bind λh8=>
(((cell h8 v1.block (v1.off+0)).bind aN).bind λep=>
aZ h8 (ae h) 0 λeV fS iN eU hK=>
(run (Et base) 55 [(vL ep.1 ep.2),(.agg #[(vI eV),(vI fS),(vL iN.1 iN.2),(vL eU.1 eU.2),(vL hK.1 hK.2)])] h8).bind λmS=>
((some mS.1).bind aO).bind λzd=>
(if (!zd)=true then
some (.inl ([some (vA v1),some (vP (ae h)),some (vL LU vc),some (vI LV),some (vI Bb),some (.bool true)],mS.2))
else
((cell mS.2 (ae h) 0).bind (au .i64)).bind λlE=>
((cell mS.2 v1.block (v1.off+2)).bind (au .i64)).bind λlh=>
(if decide (lE>=lh)=true then
some (.inl ([some (vA v1),some (vP (ae h)),some (vL LU vc),some (vI LV),some (vI Bb),some (.bool true)],mS.2))
else
(if decide (Bb>0)=true then
((cell mS.2 v1.block (v1.off+1)).bind aN).bind λkH=>
(if 0<=(ag .i64 (Bb-1))/\(ag .i64 (Bb-1))<(kH.2:Int) then
kH.1.bind λOc=>
((cell mS.2 Oc.block ((Oc.off+af (ag .i64 (Bb-1))*5)+0)).bind (au .i64)).bind λpO=>
((cell mS.2 (ae h) 0).bind (au .i64)).bind λqR=>
some (.inl ([some (vA v1),some (vP (ae h)),some (vL LU vc),some (vI LV),some (vI Bb),some (.bool (decide (pO>=qR)))],mS.2))
else none)
else
some (.inl ([some (vA v1),some (vP (ae h)),some (vL LU vc),some (vI LV),some (vI Bb),some (.bool false)],mS.2)))))).bind λj9=>bH j9 λj9=>
K1 j9.1 λd24 d25 pv uc rF b29=>
(if b29=true then
some (1,[some (.bool false)],j9.2)
else
((cell j9.2 d25.block (d25.off+4)).bind aN).bind λA7=>
(aF (Cf base) [some (vA d24),some (vA d25),some (vL pv.1 pv.2),some (vI uc),some (vI rF),some (vL A7.1 A7.2),some (vI (A7.2:Int)),some (vI 0)] j9.2).bind λEg=>
(if Eg.1=1 then
((ay Eg.2.1 0).bind aO).bind λb32=>
some (1,[some (.bool b32)],Eg.2.2)
else
(if Eg.1=4 then
Wi Eg.2.1 λd33 uX qm xJ=>
some (0,[some (vA d33),some (vL uX.1 uX.2),some (vI qm),some (vI (ag .i64 (xJ+1)))],Eg.2.2)
else
none)))
else none)
else
some (2,[],h)):OB):=by kernel_rfl
theorem LF{base:Nat}{aV:Option Addr}{cq:Nat}{aW:Option Addr}{cr:Nat}{aX:Int}{aY:Option Addr}{aR:Nat}{h:AH}{r:Value×AH}(hx:(cR h 32 [(vL aV cq),(vL aW cr),(vI aX),(vL aY aR)] λh1=>
(((cell h1 (ae h) 0).bind aN).bind λl3=>
(run (Et base) 53 [(vL l3.1 l3.2)] h1).bind λr4=>
((some r4.1).bind aO).bind λb5=>
(if (!b5)=true then
some (.inl ([some (vP (ae h)),some (.bool true)],r4.2))
else
((cell r4.2 (ae h) 1).bind aN).bind λl6=>
(if decide ((l6.2:Int)>(20:Int))=true then
some (.inl ([some (vP (ae h)),some (.bool true)],r4.2))
else
((cell r4.2 (ae h) 2).bind (au .i64)).bind λn7=>
(run (Et base) 23 [(vI n7),(vI 1),(vI 90000)] r4.2).bind λr8=>
((some r8.1).bind aO).bind λb9=>
(if (!b9)=true then
some (.inl ([some (vP (ae h)),some (.bool true)],r8.2))
else
((cell r8.2 (ae h) 3).bind aN).bind λep=>
(run (Et base) 54 [(vL ep.1 ep.2)] r8.2).bind λiY=>
((some iY.1).bind aO).bind λwy=>
some (.inl ([some (vP (ae h)),some (.bool (!wy))],iY.2)))))).bind λj2=>bH j2 λj2=>
Wh j2.1 λd13 zc=>
(if zc=true then
some ((.bool false),j2.2)
else
((cell j2.2 d13.block (d13.off+1)).bind aN).bind λhK=>
(aF (Cg base) [some (vA d13),some (vL hK.1 hK.2),some (vI (hK.2:Int)),some (vI 0)] j2.2).bind λCk=>
(if Ck.1=1 then
((ay Ck.2.1 0).bind aO).bind λzd=>
some ((.bool zd),Ck.2.2)
else
(if Ck.1=2 then
some ((.bool true),Ck.2.2)
else
none))))=some r):run (Et base) 22 [(.agg #[(vL aV cq),(vL aW cr),(vI aX),(vL aY aR)])] h=some r:=cZ (an:=Kh) Tryz.func22 hx
theorem r23{base:Nat}{v0:Int}{v1:Int}{v2:Int}{h:AH}{r:Value×AH}(hx:((if decide (v0>=v1)=true then
some ((.bool (decide (v0<=v2))),h)
else
some ((.bool false),h)))=some r):run (Et base) 23 [(vI v0),(vI v1),(vI v2)] h=some r:=cZ (an:=Od) Tryz.func23 hx
def GO(base:Nat):Body:=gH base R0 R5 [1,0,1,0,0] Tryz.f24 R4
theorem Cm(base:Nat)(v1:Int)(v10:Option Addr)(PH:Nat)(v11:Int)(LW:Int)(h:AH):GO base [some (vI v1),some (vL v10 PH),some (vI v11),some (vI LW)] h =
((if decide (LW<v11)=true then
(if 0<=LW/\LW<(PH:Int) then
v10.bind λa1=>
((cell h a1.block (a1.off+af LW*5)).bind (au .i64)).bind λn2=>
((cell h a1.block ((a1.off+af LW*5)+1)).bind (au .i64)).bind λn3=>
((cell h a1.block (((a1.off+af LW*5)+1)+1)).bind aN).bind λl4=>
((cell h a1.block ((((a1.off+af LW*5)+1)+1)+1)).bind aN).bind λl5=>
((cell h a1.block (((((a1.off+af LW*5)+1)+1)+1)+1)).bind aN).bind λl6=>
(some (h++[some ⟨[(.int .i64 0),(.int .i64 0),(.slice none 0 0),(.slice none 0 0),(.slice none 0 0)],53⟩])).bind λh7=>
(wr base h7 (ae h) 0 [(.int .i64 n2),(.int .i64 n3),(.slice l4.1 l4.2 l4.2),(.slice l5.1 l5.2 l5.2),(.slice l6.1 l6.2 l6.2)]).bind λh8=>
((cell h8 (ae h) 0).bind (au .i64)).bind λn9=>
(if (n9==v1)=true then
some (1,[some (.int .i64 LW)],h8)
else
some (0,[some (.int .i64 v1),some (.slice v10 PH PH),some (.int .i64 v11),some (.int .i64 (ag .i64 (LW+1)))],h8))
else none)
else
some (2,[],h)):OB):=by kernel_rfl
theorem Oq{base:Nat}{v0:Option Addr}{v1:Int}{h:AH}{r:Value×AH}(hx:((v0).bind λa1=>
((cell h a1.block (a1.off+1)).bind aN).bind λl2=>
(aF (GO base) [some (.int .i64 v1),some (.slice l2.1 l2.2 l2.2),some (.int .i64 (l2.2:Int)),some (.int .i64 (0:Int))] h).bind λq3=>
(if q3.1=1 then
((ay q3.2.1 0).bind (au .i64)).bind λn4=>
some ((.int .i64 n4),q3.2.2)
else
(if q3.1=2 then
some ((.int .i64 (-1:Int)),q3.2.2)
else
none)))=some r):run (Et base) 24 [(.pointer v0),(vI v1)] h=some r:=cZ (an:=I9) Tryz.func24 hx
abbrev afG(base:Nat)(v0:Option Addr)(aB:Nat)(eO:Int)(eP:Int)(eQ:Option Addr)(fi:Nat)(eT:Option Addr)(dd:Nat)(gn:Option Addr)(fj:Nat)(v2:Int)(h:AH):OV:=
cR h 53 [(vI eO),(vI eP),(vL eQ fi),(vL eT dd),(vL gn fj)] λh1=>
cR h1 53 [(vI 0),(vI 0),(vL none 0),(vL none 0),(vL none 0)] λh2=>
cR h2 58 [(vI 0),(vI 0),(vI 0),(vI 0),(vI 0),(vT ⟨#[]⟩),(vL none 0)] λh3=>
aZ h3 (ae h) 0 λn4 n5 l6 l7 l8=>
(run (Et base) 52 [(.agg #[(vI n4),(vI n5),(vL l6.1 l6.2),(vL l7.1 l7.2),(vL l8.1 l8.2)])] h3).bind λr9=>
gG (some r9.1) 5 λep=>
gm ep λeV fS iN eU hK=>
cR r9.2 53 [(vI 0),(vI 0),(vL none 0),(vL none 0),(vL none 0)] λCn=>
(wr base Cn (ae r9.2) 0 [(vI eV),(vI fS),(vL iN.1 iN.2),(vL eU.1 eU.2),(vL hK.1 hK.2)]).bind λtc=>
(aZ tc (ae h) 0 λlh pK lD mR nQ=>
(run (Et base) 55 [(vL v0 aB),(.agg #[(vI lh),(vI pK),(vL lD.1 lD.2),(vL mR.1 mR.2),(vL nQ.1 nQ.2)])] tc).bind λOq=>
gB (some Oq.1) λb25=>
(if (!b25)=true then
some (.inl ([some (vL v0 aB),some (vI v2),some (vP (ae h)),some (vP (ae h1)),some (vP (ae h2)),some (vP (ae r9.2)),some (.bool true)],Oq.2))
else
(run (Et base) 23 [(vI v2),(vI 1),(vI 99999)] Oq.2).bind λxO=>
gB (some xO.1) λb27=>
some (.inl ([some (vL v0 aB),some (vI v2),some (vP (ae h)),some (vP (ae h1)),some (vP (ae h2)),some (vP (ae r9.2)),some (.bool (!b27))],xO.2)))).bind λGP=>bH GP λGP=>
Ie GP.1 λry wz d30 d31 d32 d33 b34=>
(if b34=true then
aZ GP.2 d33.block d33.off λqm xJ uY GH xM=>
(wr base GP.2 d31.block d31.off [(vI qm),(vI xJ),(vL uY.1 uY.2),(vL GH.1 GH.2),(vL xM.1 xM.2)]).bind λh40=>
(wr base h40 d32.block d32.off [(vI 0),(vI 0),(vI 0),(vI 0),(vI 0),(vT (⟨#[]⟩:ByteArray)),(vL none 0)]).bind λPI=>
aZ PI d31.block d31.off λLa E9 LX EZ yY=>
bu PI d32.block d32.off λxL LN E0 Ot Wx s52 Oj=>
some ((.tuple #[(.agg #[(vI La),(vI E9),(vL LX.1 LX.2),(vL EZ.1 EZ.2),(vL yY.1 yY.2)]),(.agg #[(vI xL),(vI LN),(vI E0),(vI Ot),(vI Wx),(vT s52),(vL Oj.1 Oj.2)])]),PI)
else
gI (cell GP.2 d30.block (d30.off+1)) λtF=>
(if 0<=tF/\tF<(ry.2:Int) then
ry.1.bind λTg=>
dW GP.2 Tg.block (Tg.off+af tF*6) λOn Ps n58 Wu Wy s61=>
cR GP.2 89 [(vI 0),(vI 0),(vI 0),(vI 0),(vI 0),(vT ⟨#[]⟩)] λh62=>
(wr base h62 (ae GP.2) 0 [(vI On),(vI Ps),(vI n58),(vI Wu),(vI Wy),(vT s61)]).bind λQ5=>
dW Q5 (ae GP.2) 0 λOu Pt Ld UF UG s69=>
gL (cell Q5 d30.block (d30.off+2)) λl70=>
(run (Et base) 57 [(.agg #[(vI Ou),(vI Pt),(vI Ld),(vI UF),(vI UG),(vT s69)]),(vL l70.1 l70.2),(vI wz)] Q5).bind λPJ=>
(cM 2 PJ.1).bind λUH=>
gG (UH[0]?) 7 λl73=>
jm l73 λPK Wz Pu Ih Y' s79 l80=>
gB (UH[1]?) λb81=>
cR PJ.2 58 [(vI 0),(vI 0),(vI 0),(vI 0),(vI 0),(vT ⟨#[]⟩),(vL none 0)] λWA=>
(wr base WA (ae PJ.2) 0 [(vI PK),(vI Wz),(vI Pu),(vI Ih),(vI Y'),(vT s79),(vL l80.1 l80.2)]).bind λJb=>
((if (!b81)=true then
aZ Jb d33.block d33.off λn85 Of Uz WB l89=>
(run (Et base) 58 [] Jb).bind λr90=>
gG (some r90.1) 7 λl91=>
jm l91 λn92 n93 n94 Pv UI s97 UA=>
(gate (bc Jb r90.2 (some d33) 5)
((wr base r90.2 d31.block d31.off [(vI n85),(vI Of),(vL Uz.1 Uz.2),(vL WB.1 WB.2),(vL l89.1 l89.2)]).bind λh99=>
(wr base h99 d32.block d32.off [(vI n92),(vI n93),(vI n94),(vI Pv),(vI UI),(vT s97),(vL UA.1 UA.2)]).bind λPL=>
(aZ PL d31.block d31.off λWC Co aba Lg r_=>
bu PL d32.block d32.off λCp Li E2 ze LY WD LZ=>
some ((.tuple #[(.agg #[(vI WC),(vI Co),(vL aba.1 aba.2),(vL Lg.1 Lg.2),(vL r_.1 r_.2)]),(.agg #[(vI Cp),(vI Li),(vI E2),(vI ze),(vI LY),(vT WD),(vL LZ.1 LZ.2)])]),PL)).map .inr))
else
gI (cell Jb (ae GP.2) 0) λWE=>
(if (WE==19)=true then
aZ Jb d33.block d33.off λL0 WG L1 BT abb=>
bu Jb (ae PJ.2) 0 λE3 L2 L4 Lm Fa afH L5=>
(wr base Jb d31.block d31.off [(vI L0),(vI WG),(vL L1.1 L1.2),(vL BT.1 BT.2),(vL abb.1 abb.2)]).bind λabc=>
(gate (bc Jb abc (some ⟨(ae PJ.2),0,none⟩) 7)
((wr base abc d32.block d32.off [(vI E3),(vI L2),(vI L4),(vI Lm),(vI Fa),(vT afH),(vL L5.1 L5.2)]).bind λIi=>
(aZ Ii d31.block d31.off λLo L7 PM E5 rY=>
bu Ii d32.block d32.off λafI Lr WH WI L8 afJ Lu=>
some ((.tuple #[(.agg #[(vI Lo),(vI L7),(vL PM.1 PM.2),(vL E5.1 E5.2),(vL rY.1 rY.2)]),(.agg #[(vI afI),(vI Lr),(vI WH),(vI WI),(vI L8),(vT afJ),(vL Lu.1 Lu.2)])]),Ii)).map .inr))
else
(gI (cell Jb (ae GP.2) 0) λE6=>
(if (E6==14)=true then
gL (cell Jb d30.block (d30.off+3)) λE7=>
some (.inl ([some (vI wz),some (vA d30),some (vA d31),some (vA d32),some (vA d33),some (vP (ae GP.2)),some (vP (ae PJ.2)),some (.bool ((E7.2:Int)==(0:Int)))],Jb))
else
some (.inl ([some (vI wz),some (vA d30),some (vA d31),some (vA d32),some (vA d33),some (vP (ae GP.2)),some (vP (ae PJ.2)),some (.bool false)],Jb)))).bind λse=>bH se λse=>
EX se.1 λWJ d144 d145 d146 d147 d148 d149 WK=>
(if WK=true then
aZ se.2 d147.block d147.off λWL WM abd LB abe=>
(wr base se.2 d145.block d145.off [(vI WL),(vI WM),(vL abd.1 abd.2),(vL LB.1 LB.2),(vL abe.1 abe.2)]).bind λafK=>
(wr base afK d146.block d146.off [(vI 2),(vI 0),(vI 0),(vI 0),(vI 0),(vT (⟨#[]⟩:ByteArray)),(vL none 0)]).bind λIj=>
(aZ Ij d145.block d145.off λy9 WN LC BW abf=>
bu Ij d146.block d146.off λafL afM PA L9 afN afO abg=>
some ((.tuple #[(.agg #[(vI y9),(vI WN),(vL LC.1 LC.2),(vL BW.1 BW.2),(vL abf.1 abf.2)]),(.agg #[(vI afL),(vI afM),(vI PA),(vI L9),(vI afN),(vT afO),(vL abg.1 abg.2)])]),Ij)).map .inr
else
gI (cell se.2 d148.block (d148.off+0)) λWO=>
(if (WO==14)=true then
gL (cell se.2 d147.block (d147.off+2)) λL_=>
gI (cell se.2 d148.block (d148.off+1)) λWQ=>
gL (cell se.2 d147.block (d147.off+3)) λMa=>
(if 0<=(0:Int)/\(0:Int)<(Ma.2:Int) then
Ma.1.bind λabh=>
aL se.2 abh.block (abh.off+af (0:Int)*4) λafP WR afQ Mb=>
(if 0<=WQ/\WQ<(L_.2:Int) then
L_.1.bind λabi=>
(wr base se.2 abi.block (abi.off+af WQ*4) [(vI afP),(vI WR),(vT afQ),(vL Mb.1 Mb.2)]).bind λWS=>
gL (cell WS d147.block (d147.off+3)) λFb=>
(if 0<=(1:Int)/\(1:Int)<=(Fb.2:Int)/\(Fb.2:Int)<=(Fb.2:Int)/\jZ base WS Fb.1 56 (af (1:Int))=true then
(wr base WS d147.block (d147.off+3) [(.slice (dm Fb.1 (af (1:Int)*4)) (af (Fb.2:Int)-af (1:Int)) (af (Fb.2:Int)-af (1:Int)))]).bind λafR=>
some (.inl ([some (vA d144),some (vA d145),some (vA d146),some (vA d147),some (vA d148),some (vA d149)],afR))
else none)
else none)
else none)
else
gI (cell se.2 d148.block (d148.off+0)) λafS=>
(run (Et base) 59 [(vI afS)] se.2).bind λIk=>
gB (some Ik.1) λafT=>
(if afT=true then
dW Ik.2 d148.block d148.off λafU afV afW afX WT afY=>
gL (cell Ik.2 d144.block (d144.off+2)) λabj=>
gI (cell Ik.2 d144.block (d144.off+0)) λWU=>
(run (Et base) 60 [(.agg #[(vI afU),(vI afV),(vI afW),(vI afX),(vI WT),(vT afY)]),(vL abj.1 abj.2),(vI WU),(vI WJ)] Ik.2).bind λIl=>
(cM 2 Il.1).bind λabk=>
gG (abk[0]?) 4 λPN=>
cF PN λafZ af0 af1 abl=>
gB (abk[1]?) λaf2=>
cR Il.2 56 [(vI 0),(vI 0),(vT ⟨#[]⟩),(vL none 0)] λaf3=>
(wr base af3 (ae Il.2) 0 [(vI afZ),(vI af0),(vT af1),(vL abl.1 abl.2)]).bind λWV=>
((if (!af2)=true then
some (.inl ([some (vA d144),some (vA d145),some (vA d146),some (vA d147),some (vA d148),some (vA d149),some (vP (ae Il.2)),some (.bool true)],WV))
else
aL WV (ae Il.2) 0 λWW WX af4 abm=>
(run (Et base) 61 [(.agg #[(vI WW),(vI WX),(vT af4),(vL abm.1 abm.2)])] WV).bind λabn=>
gB (some abn.1) λaf5=>
some (.inl ([some (vA d144),some (vA d145),some (vA d146),some (vA d147),some (vA d148),some (vA d149),some (vP (ae Il.2)),some (.bool (!af5))],abn.2)))).bind λtG=>bH tG λtG=>
EW tG.1 λaf6 Mc Md Cq Me af7 abo af8=>
(if af8=true then
aZ tG.2 Cq.block Cq.off λaf9 WY abp Mf Mg=>
(run (Et base) 58 [] tG.2).bind λFc=>
gG (some Fc.1) 7 λzf=>
jm zf λMh Mi Mj Mk WZ W0 Im=>
(gate (bc tG.2 Fc.2 (some Cq) 5)
((wr base Fc.2 Mc.block Mc.off [(vI af9),(vI WY),(vL abp.1 abp.2),(vL Mf.1 Mf.2),(vL Mg.1 Mg.2)]).bind λaga=>
(wr base aga Md.block Md.off [(vI Mh),(vI Mi),(vI Mj),(vI Mk),(vI WZ),(vT W0),(vL Im.1 Im.2)]).bind λW1=>
(aZ W1 Mc.block Mc.off λagb agc abq Ml abr=>
bu W1 Md.block Md.off λagd W2 W3 age agf agh PO=>
some ((.tuple #[(.agg #[(vI agb),(vI agc),(vL abq.1 abq.2),(vL Ml.1 Ml.2),(vL abr.1 abr.2)]),(.agg #[(vI agd),(vI W2),(vI W3),(vI age),(vI agf),(vT agh),(vL PO.1 PO.2)])]),W1)).map .inr))
else
gL (cell tG.2 Cq.block (Cq.off+2)) λabt=>
gI (cell tG.2 Me.block (Me.off+1)) λMm=>
aL tG.2 abo.block abo.off λagi agj agk abu=>
(run (Et base) 62 [(.agg #[(vI agi),(vI agj),(vT agk),(vL abu.1 abu.2)])] tG.2).bind λPP=>
gG (some PP.1) 4 λagl=>
cF agl λagm agn ago abv=>
(gate (bc tG.2 PP.2 (some ⟨Me.block,(Me.off+1),none⟩) 1)
((gate (bc tG.2 PP.2 (some ⟨Cq.block,(Cq.off+2),none⟩) 1)
((if 0<=Mm/\Mm<(abt.2:Int) then
abt.1.bind λabw=>
(wr base PP.2 abw.block (abw.off+af Mm*4) [(vI agm),(vI agn),(vT ago),(vL abv.1 abv.2)]).bind λagp=>
some (.inl ([some (vA af6),some (vA Mc),some (vA Md),some (vA Cq),some (vA Me),some (vA af7)],agp))
else none))))))
else
some (.inl ([some (vA d144),some (vA d145),some (vA d146),some (vA d147),some (vA d148),some (vA d149)],Ik.2)))))))).bind λj84=>bH j84 λj84=>
BM j84.1 λabx aby abz Cr PQ abA=>
gI (cell j84.2 Cr.block (Cr.off+1)) λagq=>
(wr base j84.2 Cr.block (Cr.off+1) [(vI (ag .i64 (agq+1)))]).bind λW4=>
(dW W4 PQ.block PQ.off λW5 W6 agr ags agt agu=>
gL (cell W4 abx.block (abx.off+2)) λabB=>
(run (Et base) 63 [(.agg #[(vI W5),(vI W6),(vI agr),(vI ags),(vI agt),(vT agu)]),(vL abB.1 abB.2)] W4).bind λPR=>
gB (some PR.1) λagv=>
(if agv=true then
gI (cell PR.2 PQ.block (PQ.off+4)) λagw=>
(wr base PR.2 Cr.block (Cr.off+1) [(vI agw)]).bind λagx=>
some (.inl ([some (vA aby),some (vA abz),some (vA Cr),some (vA abA)],agx))
else
some (.inl ([some (vA aby),some (vA abz),some (vA Cr),some (vA abA)],PR.2)))).bind λFe=>bH Fe λFe=>
EV Fe.1 λPS PT abC W7=>
aZ Fe.2 abC.block abC.off λW8 agy Mn abD abE=>
bu Fe.2 W7.block W7.off λW9 W_ agz agA agB agC abF=>
(wr base Fe.2 PS.block PS.off [(vI W8),(vI agy),(vL Mn.1 Mn.2),(vL abD.1 abD.2),(vL abE.1 abE.2)]).bind λabG=>
(gate (bc Fe.2 abG (some W7) 7)
((wr base abG PT.block PT.off [(vI W9),(vI W_),(vI agz),(vI agA),(vI agB),(vT agC),(vL abF.1 abF.2)]).bind λXa=>
aZ Xa PS.block PS.off λagD agE abH abI Mp=>
bu Xa PT.block PT.off λagF agG Xb Xc Xd agH abJ=>
some ((.tuple #[(.agg #[(vI agD),(vI agE),(vL abH.1 abH.2),(vL abI.1 abI.2),(vL Mp.1 Mp.2)]),(.agg #[(vI agF),(vI agG),(vI Xb),(vI Xc),(vI Xd),(vT agH),(vL abJ.1 abJ.2)])]),Xa)))
else none))
theorem Cs{base:Nat}{v0:Option Addr}{aB:Nat}{eO:Int}{eP:Int}{eQ:Option Addr}{fi:Nat}{eT:Option Addr}{dd:Nat}{gn:Option Addr}{fj:Nat}{v2:Int}{h:AH}{r:Value×AH}(hx:afG base v0 aB eO eP eQ fi eT dd gn fj v2 h=some r):run (Et base) 25 [(vL v0 aB),(.agg #[(vI eO),(vI eP),(vL eQ fi),(vL eT dd),(vL gn fj)]),(vI v2)] h=some r:=cZ (an:=a25) Tryz.func25 hx
abbrev agI(base:Nat)(v0:Option Addr)(v1:Int)(fB:Int)(fC:Int)(fD:Int)(fE:Int)(zh:Int)(zj:ByteArray)(zk:Option Addr)(qS:Nat)(h:AH):OV:=
cR h 58 [(vI fB),(vI fC),(vI fD),(vI fE),(vI zh),(vT zj),(vL zk qS)] λh1=>
(gI (cell h1 (ae h) 0) λn3=>
(if (n3==3)=true then
gI (cell h1 (ae h) 1) λn4=>
aL h1 (ae h) 3 λn5 n6 s7 l8=>
(run (Et base) 64 [(.pointer v0),(vI n4),(.agg #[(vI n5),(vI n6),(vT s7),(vL l8.1 l8.2)])] h1).bind λr9=>
gB (some r9.1) λGJ=>
some (.inl ([some (vP (ae h))],r9.2))
else
(if (n3==4)=true then
((v0).bind λyU=>
gL (cell h1 yU.block (yU.off+1)) λiN=>
(if decide ((iN.2:Int)>=(20:Int))=true then
some (.inl ([some (.pointer v0),some (vI v1),some (vP (ae h)),some (.bool true)],h1))
else
(v0).bind λsY=>
gI (cell h1 sY.block (sY.off+2)) λqj=>
some (.inl ([some (.pointer v0),some (vI v1),some (vP (ae h)),some (.bool (decide (qj>=90000)))],h1)))).bind λwe=>bH we λwe=>
K7 we.1 λBc nL d18 LL=>
(if LL=true then
(run (Et base) 66 [(vT (⟨#[102,117,108,108]⟩:ByteArray))] we.2).bind λsZ=>
gG (some sZ.1) 4 λlD=>
cF lD λpO qR s24 Ba=>
(run (Et base) 65 [(.pointer Bc),(vI nL),(.agg #[(vI pO),(vI qR),(vT s24),(vL Ba.1 Ba.2)])] sZ.2).bind λxO=>
(cM 0 xO.1).bind λ_=>
(some ((.bool false),xO.2)).map .inr
else
(Bc).bind λPh=>
gL (cell we.2 Ph.block (Ph.off+1)) λry=>
gI (cell we.2 d18.block (d18.off+1)) λwz=>
gI (cell we.2 d18.block (d18.off+2)) λxH=>
aL we.2 d18.block (d18.off+3) λIo PB s33 uX=>
(run (Et base) 67 [(vI wz),(vI xH),(.agg #[(vI Io),(vI PB),(vT s33),(vL uX.1 uX.2)])] we.2).bind λOv=>
gG (some Ov.1) 5 λEd=>
gm Ed λE8 Oi xM wa tD=>
(gate (bc we.2 Ov.2 (some ⟨Ph.block,(Ph.off+1),none⟩) 1)
((gate (fP (some ⟨Ph.block,(Ph.off+1),none⟩) (ae Ov.2))
(cR Ov.2 53 [(vI E8),(vI Oi),(vL xM.1 xM.2),(vL wa.1 wa.2),(vL tD.1 tD.2)] λOl=>
(app base Ol 53 5 88 ry.1 ry.2 (br Ol (some ⟨(ae Ov.2),0,none⟩) (1*5)) 1).bind λp43=>
gL (some p43.1) λLX=>
(Bc).bind λa45=>
(wr base p43.2 a45.block (a45.off+1) [(vL LX.1 LX.2)]).bind λBd=>
(Bc).bind λa47=>
gI (cell Bd a47.block (a47.off+2)) λLN=>
(Bc).bind λa49=>
(wr base Bd a49.block (a49.off+2) [(vI (ag .i64 (LN+1)))]).bind λUJ=>
(Bc).bind λa51=>
gL (cell UJ a51.block (a51.off+3)) λA8=>
gI (cell UJ d18.block (d18.off+1)) λCt=>
aL UJ d18.block (d18.off+3) λtF Om s56 l57=>
(run (Et base) 68 [(vL A8.1 A8.2),(vI 1),(vI Ct),(.agg #[(vI tF),(vI Om),(vT s56),(vL l57.1 l57.2)])] UJ).bind λr58=>
gL (some r58.1) λLb=>
(Bc).bind λa60=>
(wr base r58.2 a60.block (a60.off+3) [(vL Lb.1 Lb.2)]).bind λh61=>
some (.inl ([some (vA d18)],h61)))))))
else
(if (n3==5)=true then
(v0).bind λa62=>
gL (cell h1 a62.block (a62.off+3)) λUK=>
aL h1 (ae h) 3 λOu Pt s66 l67=>
(run (Et base) 68 [(vL UK.1 UK.2),(vI 2),(vI v1),(.agg #[(vI Ou),(vI Pt),(vT s66),(vL l67.1 l67.2)])] h1).bind λr68=>
gL (some r68.1) λUL=>
(v0).bind λa70=>
(wr base r68.2 a70.block (a70.off+3) [(vL UL.1 UL.2)]).bind λh71=>
some (.inl ([some (vP (ae h))],h71))
else
(if (n3==6)=true then
gI (cell h1 (ae h) 1) λn72=>
(run (Et base) 69 [(.pointer v0),(vI v1),(vI n72)] h1).bind λUM=>
(cM 0 UM.1).bind λ_=>
some (.inl ([some (vP (ae h))],UM.2))
else
(if (n3==7)=true then
aL h1 (ae h) 3 λPK Wz s76 Wk=>
(run (Et base) 65 [(.pointer v0),(vI v1),(.agg #[(vI PK),(vI Wz),(vT s76),(vL Wk.1 Wk.2)])] h1).bind λXe=>
(cM 0 Xe.1).bind λ_=>
(some ((.bool false),Xe.2)).map .inr
else
some (.inl ([some (vP (ae h))],h1)))))))).bind λj2=>bH j2 λj2=>
gA (ay j2.1 0) λd79=>
gI (cell j2.2 d79.block (d79.off+0)) λn80=>
some ((.bool (n80 != 2)),j2.2)
theorem xO{base:Nat}{v0:Option Addr}{v1:Int}{fB:Int}{fC:Int}{fD:Int}{fE:Int}{zh:Int}{zj:ByteArray}{zk:Option Addr}{qS:Nat}{h:AH}{r:Value×AH}(hx:agI base v0 v1 fB fC fD fE zh zj zk qS h=some r):run (Et base) 26 [(.pointer v0),(vI v1),(.agg #[(vI fB),(vI fC),(vI fD),(vI fE),(vI zh),(vT zj),(vL zk qS)])] h=some r:=cZ (an:=Pg) Tryz.func26 hx
def Mq(base:Nat):Body:=gH base R6 R8 [1,1,0,1,0,0] Tryz.f27 R7
theorem Cu(base:Nat)(v0:Option Addr)(aB:Nat)(v1:Option Addr)(gW:Nat)(v5:Int)(h:AH):Mq base [some (vL v0 aB),some (vL v1 gW),some (vI v5)] h =
((if decide (v5<(aB:Int))=true then
(if 0<=v5/\v5<(aB:Int) then
v0.bind λa1=>
dW h a1.block (a1.off+af v5*6) λn2 n3 n4 n5 n6 s7=>
(if 0<=v5/\v5<(gW:Int) then
v1.bind λa8=>
dW h a8.block (a8.off+af v5*6) λn9 fl eV fS jz E_=>
(run (Et base) 70 [(.agg #[(vI n2),(vI n3),(vI n4),(vI n5),(vI n6),(vT s7)]),(.agg #[(vI n9),(vI fl),(vI eV),(vI fS),(vI jz),(vT E_)])] h).bind λjR=>
((some jR.1).bind aO).bind λrZ=>
(if (!rZ)=true then
some (1,[some (.bool false)],jR.2)
else
some (0,[some (vL v0 aB),some (vL v1 gW),some (vI (ag .i64 (v5+1)))],jR.2))
else none)
else none)
else
some (2,[],h)):OB):=by kernel_rfl
theorem Ff{base:Nat}{v0:Option Addr}{aB:Nat}{v1:Option Addr}{gW:Nat}{h:AH}{r:Value×AH}(hx:((if ((aB:Int) != (gW:Int))=true then
some ((.bool false),h)
else
(aF (Mq base) [some (.slice v0 aB aB),some (.slice v1 gW gW),some (.int .i64 (0:Int))] h).bind λq1=>
(if q1.1=1 then
((ay q1.2.1 0).bind aO).bind λb2=>
some ((.bool b2),q1.2.2)
else
(if q1.1=2 then
some ((.bool true),q1.2.2)
else
none))))=some r):run (Et base) 27 [(vL v0 aB),(vL v1 gW)] h=some r:=cZ (an:=Ph) Tryz.func27 hx
end
end Go.Proofs.YtkdenmdijdmnjaaGreat.Am
