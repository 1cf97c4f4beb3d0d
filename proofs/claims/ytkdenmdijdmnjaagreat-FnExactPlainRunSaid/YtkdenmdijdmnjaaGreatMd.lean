/- Code, and calls.
Conditions: the tables tell the program's types; all orders are the program's. -/
import Derived.Test.YtkdenmdijdmnjaaGreatMc
import Derived.LoopN
import Derived.ChangeArms
import Derived.OpenShut
set_option linter.unusedSimpArgs false
set_option linter.unusedVariables false
namespace Go.Proofs.YtkdenmdijdmnjaaGreat.Am
open Go Go.RowKit
open _root_.Array renaming getElem?_eq_some_iff->f_,length_toList->aag
open _root_.Bool renaming and_eq_true->bz
open _root_.List renaming all_eq_true->ik,eq_nil_of_length_eq_zero->iL,ext_getElem?->io,getElem?_drop->bZ,getElem?_eq_getElem->bk,getElem?_eq_none->cE,getElem?_eq_some_iff->bY,getElem?_map->gD,getElem?_take_of_lt->bJ,length->ae,mapM_cons->O',map_drop->Pe,map_take->Pf,mem_iff_getElem->gk,mem_map->dR,mem_of_getElem?->dX,range->dM,tail_cons->O_
open _root_.Nat renaming beq->bg,ble->dC,ble_eq_true_of_le->Pc,blt->cx,blt_eq->e_,eq_of_beq_eq_true->dk,le_of_ble_eq_true->iK,le_refl->aT,mul_comm->yS,zero_add->cQ,zero_mul->yR
open _root_.Option renaming bind_some->aJ,map_some->j8
variable{h h':AH}{b:Body}{E:Env}{k:IntKind}{zs:List Int}{ops:List Oper}{args vs:List Value}{base e f i n t:Nat}{r:Nat×az×AH}{φ:Nat->Nat×Nat}{S p:Nat->Prop}{a:Option Addr}{P:Program}{v:Value}{w:World}{s:az}
def yP:Nat->Exit
 | 0=>.normal
 | 1=>.ret
 | n+2=>.exit n
theorem oD{R:Type}:∀ {sh:Shape} {s:az} {c:az->Option R} {r:R},lay sh (ax sh s) c=some r->sh.length=s.length ->
  ∃ s',c s'=some r/\s'.length=s.length/\∀ t v,ay s' t=some v->∃ x,ay s t=some x/\∀ P base φ n w u,VR P base φ n w x u->VR P base φ n w v u
 | [],s,c,r,h,hl=>by
  have:s = []:=iL (by simpa using hl.symm)
  subst this
  exact ⟨[],h,rfl,λt v ht=>by simp [ay] at ht⟩
 | k :: sh,s,c,r,h,hl=>by
  cases s with
  | nil=>simp at hl
  | cons x s=>
   have hl:sh.length=s.length:=by simpa using hl
   cases k with
   | none=>
    simp only [lay,ax,O_] at h
    obtain ⟨s',h1,h2,h3⟩:=oD h (by simpa using hl)
    refine ⟨none :: s',h1,by simp [h2],λt v ht=>?_⟩
    cases t with
    | zero=>simp [ay] at ht
    | succ t=>exact h3 t v ht
   | some k=>
    simp only [lay,ax,O_,ay] at h
    obtain ⟨y,z,hy,hc,hr⟩:=qa h
    obtain ⟨s',h1,h2,h3⟩:=oD hc (by simpa using hl)
    refine ⟨some z :: s',h1,by simp [h2],λt v ht=>?_⟩
    cases t with
    | zero=>
     simp only [ay] at ht ⊢
     injection ht with ht
     subst ht
     exact ⟨y,hy,hr⟩
    | succ t=>exact h3 t v ht
theorem xD{R:Type}{n:Nat}{l:az}{h:AH}{c:Nat->az->AH->Option R}{r:R}:∀ {es:List (Nat×Shape)},Bj es n l h c=some r->∃ sh,find es n=some sh/\lay sh l (λs'=>c n s' h)=some r
 | [],hx=>by cases hx
 | (e,sh) :: es,hx=>by
  simp only [Bj] at hx
  split at hx
  ·rename_i he
   subst he
   exact ⟨sh,by simp [find],hx⟩
  ·rename_i he
   obtain ⟨sh',h1,h2⟩:=xD hx
   refine ⟨sh',?_,h2⟩
   simp only [find]
   have:bg e n=false:=by
    cases hq:bg e n with
    | false=>rfl
    | true=>exact absurd (dk hq).symm he
   rw [this]
   exact h1
theorem EQ{s1:Shape}{es:List (Nat×Shape)}{p:Nat×az×AH}(hx:nj s1 es e s h=some p):s.length=s1.length/\p.1=e/\p.2.2=h/\(e=0->p.2.1=ax s1 s)/\(e≠0->∃ sh,find es e=some sh/\sh.length=s.length/\p.2.1=ax sh s):=by
 unfold nj at hx
 cases hb:bg s.length s1.length with
 | false=>rw [hb] at hx;cases hx
 | true=>
  rw [hb] at hx
  simp only [cond_true] at hx
  refine ⟨dk hb,?_⟩
  cases e with
  | zero=>
   simp only at hx
   injection hx with hx
   subst hx
   exact ⟨rfl,rfl,λ_=>rfl,λh=>absurd rfl h⟩
  | succ e=>
   simp only at hx
   split at hx
   ·rename_i sh hsh
    cases jx:bg s.length sh.length with
    | false=>rw [jx] at hx;cases hx
    | true=>
     rw [jx] at hx
     injection hx with hx
     subst hx
     exact ⟨rfl,rfl,λh=>by (cases h),λ_=>⟨sh,hsh,(dk jx).symm,rfl⟩⟩
   ·cases hx
theorem SR.ER{s':az}{a:Act}(h:SR P base φ n w s a)(hl:s'.length=s.length)
  (hr:∀ t v,ay s' t=some v->∃ x,ay s t=some x/\∀ P base φ n w u,VR P base φ n w x u->VR P base φ n w v u):SR P base φ n w s' a:=
 ⟨hl.trans h.len,λt v ht=>by
  obtain ⟨x,hx,hv⟩:=hr t v ht
  exact hv _ _ _ _ _ _ (h.get t x hx),h.defers⟩
section
variable {E:Env} {w0:World} {rec:Rec}
theorem yQ(hE:dq E)(iD:nr E w0 rec)(N:Nat):∀ (code:Code) (an:bL) {R:Type} (c:Nat->az->AH->Option R) (r:R) (s:az) (h:AH) (a:Act) (w:World) (φ:Nat->Nat×Nat) (Q:Exit->Act->World->Prop),
  aP E rec (dO N) an code s h c=some r->SR E.P E.base φ h.length w s a->HR E.P E.base w0 φ h w ->
  (∀ e s' h' bN a' w',c e s' h'=some r->Ext φ h w bN h' w'->HR E.P E.base w0 bN h' w'->SR E.P E.base bN h'.length w' s' a'->Q (yP e) a' w')->code.wp E.P Q a w:=by
 intro code
 induction code with
 | skip=>
  intro an R c r s h a w φ Q hx hs hh hQ
  cases an<;>exact wp_skip (hQ 0 s h φ a w hx (Ext.refl ..) hh hs)
 | region id ops d=>
  intro an R c r s h a w φ Q hx hs hh hQ
  cases d with
  | false=>
   have hx:pM E rec ops.toList ops.toList s h (c 0)=some r:=by cases an<;>exact hx
   refine wp_region ?_
   have:=oq (Q:=Q) hE iD ops (c 0) ops.toList s h a w φ hx hs hh λs' h' bN a' w' q1 q2 q3 q4=>hQ 0 s' h' bN a' w' q1 q2 q3 q4
   rw [List.range_eq_range',<- aag,wpOps_eq_wpList ops.toList 0 (by simp)]
   exact this
  | true=>
   by_cases ht:∃ c1 o1 t1,an = .qx c1 o1 t1
   ·obtain ⟨c1,o1,t1,rfl⟩:=ht
    simp only [aP] at hx
    cases hb:cx c1 s.length with
    | false=>rw [hb] at hx;cases hx
    | true=>
     rw [hb] at hx
     simp only [cond_true] at hx
     obtain ⟨ht,hx⟩:=eY hx
     obtain ⟨he,hx⟩:=eY hx
     exact EP hE iD ht (by rw [e_] at hb;exact hb) (k:=c 0) (λb=>by cases b with|true=>exact hx|false=>rw [<- he];exact hx) hs hh λs' h' bN a' w' q1 q2 q3 q4=>hQ 0 s' h' bN a' w' q1 q2 q3 q4
   have hx:cond (nU (cN an ops.toList) (ij [] (cN an ops.toList)) 0 (cN an ops.toList)) (AX E rec (cN an ops.toList) (ij [] (cN an ops.toList)) (cN an ops.toList) 0 s h [] [] [] (c 0)) none=some r:=by cases an<;>first|exact hx|exact absurd ⟨_,_,_,rfl⟩ ht
   cases g9:nU (cN an ops.toList) (ij [] (cN an ops.toList)) 0 (cN an ops.toList) with
   | false=>rw [g9] at hx;cases hx
   | true=>
    rw [g9] at hx
    simp only [cond_true] at hx
    exact H8 hE iD ops an g9 hx hs hh λs' h' bN a' w' q1 q2 q3 q4=>hQ 0 s' h' bN a' w' q1 q2 q3 q4
 | seq x y Ka Kb=>
  intro an R c r s h a w φ Q hx hs hh hQ
  cases an with
  | seq j p q=>
   cases j with
   | none=>
    simp only [aP] at hx
    refine wp_seq (Ka p _ r s h a w φ _ hx hs hh λe s' h' bN a' w' q1 q2 q3 q4=>?_)
    match e,q1 with
    | 0,q1=>exact Kb q _ r s' h' a' w' bN Q q1 q4 q3 λe2 s2 h2 vY a2 w2 z1 z2 z3 z4=>hQ e2 s2 h2 vY a2 w2 z1 (q2.trans z2) z3 z4
    | 1,q1=>exact hQ 1 s' h' bN a' w' q1 q2 q3 q4
    | e+2,q1=>exact hQ (e+2) s' h' bN a' w' q1 q2 q3 q4
   | some sh=>
    simp only [aP] at hx
    cases hp:aP E rec (dO N) p x s h (xf sh c) with
    | none=>rw [hp] at hx;cases hx
    | some pr=>
     rw [hp] at hx
     simp only [aJ] at hx
     refine wp_seq (Ka p _ pr s h a w φ _ hp hs hh λe s' h' bN a' w' q1 q2 q3 q4=>?_)
     have Rh:∀ e,(c (e+1) s' h').map Sum.inr=some pr->c (e+1) s' h'=some r:=by
      intro e he
      cases hc:c (e+1) s' h' with
      | none=>rw [hc] at he;cases he
      | some r'=>
       rw [hc] at he
       injection he with he
       subst he
       exact hx
     match e,q1 with
     | 0,q1=>
      simp only [xf] at q1
      cases hb:bg s'.length sh.length with
      | false=>rw [hb] at q1;cases q1
      | true=>
       rw [hb] at q1
       injection q1 with q1
       subst q1
       obtain ⟨s2,z1,z2,z3⟩:=oD (show lay sh (ax sh s') _=some r from hx) (dk hb).symm
       exact Kb q _ r s2 h' a' w' bN Q z1 (q4.ER z2 z3) q3 λe2 s2 h2 vY a2 w2 z1 z2 z3 z4=>hQ e2 s2 h2 vY a2 w2 z1 (q2.trans z2) z3 z4
     | 1,q1=>exact hQ 1 s' h' bN a' w' (Rh 0 q1) q2 q3 q4
     | e+2,q1=>exact hQ (e+2) s' h' bN a' w' (Rh (e+1) q1) q2 q3 q4
  | wk ks p q=>
   simp only [aP] at hx
   refine wp_seq (Ka p _ r s h a w φ _ hx hs hh λe s' h' bN a' w' q1 q2 q3 q4=>?_)
   match e,q1 with
   | 0,q1=>
    obtain ⟨g1,g2⟩:=HR.np s' ks q3
    exact Kb q _ r s' _ a' w' bN Q q1 (by rw [xC];exact q4) g1 λe2 s2 h2 vY a2 w2 z1 z2 z3 z4=>hQ e2 s2 h2 vY a2 w2 z1 ((q2.trans g2).trans z2) z3 z4
   | 1,q1=>exact hQ 1 s' h' bN a' w' q1 q2 q3 q4
   | e+2,q1=>exact hQ (e+2) s' h' bN a' w' q1 q2 q3 q4
  | leaf=>simp only [aP] at hx;cases hx
  | cond=>simp only [aP] at hx;cases hx
  | block=>simp only [aP] at hx;cases hx
  | loop=>simp only [aP] at hx;cases hx
  | perm=>simp only [aP] at hx;cases hx
  | qx=>simp only [aP] at hx;cases hx
 | cond b x y Ka Kb=>
  intro an R c r s h a w φ Q hx hs hh hQ
  cases an with
  | cond p q=>
   simp only [aP] at hx
   split at hx
   ·rename_i t hb
    have hv:=(cm hs hb).lR
    refine wp_cond hv ?_
    cases t with
    | true=>rw [if_pos rfl] at hx;exact Ka p c r s h a w φ Q hx hs hh hQ
    | false=>rw [if_neg (by decide)] at hx;exact Kb q c r s h a w φ Q hx hs hh hQ
   ·cases hx
  | leaf=>simp only [aP] at hx;cases hx
  | seq=>simp only [aP] at hx;cases hx
  | block=>simp only [aP] at hx;cases hx
  | loop=>simp only [aP] at hx;cases hx
  | perm=>simp only [aP] at hx;cases hx
  | qx=>simp only [aP] at hx;cases hx
  | wk=>simp only [aP] at hx;cases hx
 | block id x ih=>
  intro an R c r s h a w φ Q hx hs hh hQ
  cases an with
  | block p=>
   simp only [aP] at hx
   refine wp_block (ih p _ r s h a w φ _ hx hs hh λe s' h' bN a' w' q1 q2 q3 q4=>?_)
   cases hb:bg e (id+2) with
   | true=>
    have:=dk hb
    subst this
    rw [hb] at q1
    simp only [yP,Exit.inBlock,if_true]
    exact hQ 0 s' h' bN a' w' q1 q2 q3 q4
   | false=>
    rw [hb] at q1
    simp only [cond_false] at q1
    match e,q1,hb with
    | 0,q1,_=>exact hQ 0 s' h' bN a' w' q1 q2 q3 q4
    | 1,q1,_=>exact hQ 1 s' h' bN a' w' q1 q2 q3 q4
    | e+2,q1,hb=>
     have dv:e≠id:=λhe=>by
      rw [he,Nat.beq_refl] at hb;cases hb
     simp only [yP,Exit.inBlock,if_neg dv]
     exact hQ (e+2) s' h' bN a' w' q1 q2 q3 q4
  | leaf=>simp only [aP] at hx;cases hx
  | seq=>simp only [aP] at hx;cases hx
  | cond=>simp only [aP] at hx;cases hx
  | loop=>simp only [aP] at hx;cases hx
  | perm=>simp only [aP] at hx;cases hx
  | qx=>simp only [aP] at hx;cases hx
  | wk=>simp only [aP] at hx;cases hx
 | loop x ih=>
  intro an R c r s h a w φ Q hx hs hh hQ
  cases an with
  | loop s1 es p=>
   simp only [aP] at hx
   cases hb:bg s.length s1.length with
   | false=>rw [hb] at hx;cases hx
   | true=>
    rw [hb] at hx
    simp only [cond_true] at hx
    have A1:=dk hb
    generalize Gy:(λ(l:az) (h:AH)=>lay s1 l λs'=>aP E rec (dO N) p x s' h (nj s1 es))=body at hx
    cases hp:dO N body (ax s1 s) h with
    | none=>rw [hp] at hx;cases hx
    | some pr=>
     rw [hp] at hx
     simp only [aJ] at hx
     obtain ⟨shx,hfx,hlx⟩:=xD hx
     have rounds:∀ n s' h' bN a' w',dO n body (ax s1 s') h'=some pr->s'.length=s1.length->Ext φ h w bN h' w'->HR E.P E.base w0 bN h' w'->SR E.P E.base bN h'.length w' s' a'->Code.rounds E.P x Q n a' w':=by
      intro n
      induction n with
      | zero=>intro s' h' bN a' w' hl;cases hl
      | succ n ihn=>
       intro s' h' bN a' w' Gz hl q2 q3 q4
       simp only [dO] at Gz
       cases jM:body (ax s1 s') h' with
       | none=>rw [jM] at Gz;cases Gz
       | some p1=>
        rw [jM] at Gz
        simp only [aJ] at Gz
        have jx:=jM
        rw [<- Gy] at jx
        obtain ⟨s3,z1,z2,z3⟩:=oD jx (by omega)
        refine ih p _ p1 s3 h' a' w' bN _ z1 (q4.ER z2 z3) q3 λe s4 h4 Y2 a4 w4 y1 y2 y3 y4=>?_
        obtain ⟨k1,k2,k3,k4,k5⟩:=EQ y1
        obtain ⟨p11,p12,ES⟩:=p1
        simp only at k2 k3 k4 k5 Gz
        subst k2;subst k3
        have BE:p11≠0->Q (yP p11) a4 w4:=by
         intro dv
         rw [if_neg dv] at Gz
         injection Gz with Gz
         subst Gz
         obtain ⟨sh,f1,f2,f3⟩:=k5 dv
         simp only at hfx hlx
         rw [f1] at hfx
         injection hfx with hfx
         subst hfx
         rw [f3] at hlx
         obtain ⟨s5,g1,g2,g3⟩:=oD hlx f2
         exact hQ _ s5 _ Y2 a4 w4 g1 (q2.trans y2) y3 (y4.ER g2 g3)
        match p11,Gz,BE,k4 with
        | 0,Gz,_,k4=>
         rw [if_pos rfl,k4 rfl] at Gz
         exact ihn s4 ES Y2 a4 w4 Gz k1 (q2.trans y2) y3 y4
        | 1,_,BE,_=>exact BE (by decide)
        | e+2,_,BE,_=>exact BE (by omega)
     exact wp_loop_rounds N (rounds N s h φ a w hp A1 (Ext.refl ..) hh hs)
  | leaf=>simp only [aP] at hx;cases hx
  | seq=>simp only [aP] at hx;cases hx
  | cond=>simp only [aP] at hx;cases hx
  | block=>simp only [aP] at hx;cases hx
  | perm=>simp only [aP] at hx;cases hx
  | qx=>simp only [aP] at hx;cases hx
  | wk=>simp only [aP] at hx;cases hx
 | exit id=>
  intro an R c r s h a w φ Q hx hs hh hQ
  have hx:c (id+2) s h=some r:=by cases an<;>exact hx
  exact wp_exit (hQ (id+2) s h φ a w hx (Ext.refl ..) hh hs)
 | ret=>
  intro an R c r s h a w φ Q hx hs hh hQ
  have hx:c 1 s h=some r:=by cases an<;>exact hx
  exact wp_ret (hQ 1 s h φ a w hx (Ext.refl ..) hh hs)
 | _=>
  intro an R c r s h a w φ Q hx hs hh hQ
  cases an<;>(simp only [aP] at hx;cases hx)
def GA(tmps:Array Value):ResultVar->Sem Value
 | .tmp t=>pure (tmps.getD t undef)
 | .cell q t=>do loadVar t (<- asAddr (tmps.getD q undef))
theorem jQ(hE:dq E){h:AH}{s:az}{a:Act}{w:World}{φ:Nat->Nat×Nat}(hs:SR E.P E.base φ h.length w s a)(hh:HR E.P E.base w0 φ h w):∀ (rs:List ResultVar) (c:List Value->Option (Value×AH)) (r:Value×AH),jh E s h rs c=some r ->
  ∃ (vs us:List Value),c vs=some r/\vs.length=us.length/\(∀ (i:Nat) (x y:Value),vs[i]? = some x->us[i]? = some y->VR E.P E.base φ h.length w x y) /\
   (rs.mapM (GA a.tmps)).run E.P w = .ok us w
 | [],c,r,hx=>⟨[],[],hx,rfl,λi x y h _=>by simp at h,by simp⟩
 | .tmp t :: rs,c,r,hx=>by
  simp only [jh] at hx
  split at hx
  ·rename_i v hv
   obtain ⟨vs,us,h1,h2,h3,h4⟩:=jQ hE hs hh rs _ r hx
   refine ⟨v :: vs,a.tmps.getD t undef :: us,h1,by simp [h2],λi x y hx hy=>?_,?_⟩
   ·cases i with
    | zero=>simp at hx hy;subst hx;subst hy;have:=hs.get t v hv;simpa using this
    | succ i=>exact h3 i x y hx hy
   ·simp only [O',GA,Sem.run_bind,Sem.run_pure,Result.andThen_ok,h4]
  ·cases hx
 | .cell q t :: rs,c,r,hx=>by
  simp only [jh] at hx
  split at hx
  ·rename_i ad hv
   obtain ⟨v,u,hc,hr,im⟩:=uB hE hh hx
   obtain ⟨vs,us,h1,h2,h3,h4⟩:=jQ hE hs hh rs _ r hc
   obtain ⟨_,_,e⟩:=(hs.get q _ hv).pg
   refine ⟨v :: vs,u :: us,h1,by simp [h2],λi x y hx hy=>?_,?_⟩
   ·cases i with
    | zero=>simp at hx hy;subst hx;subst hy;exact hr
    | succ i=>exact h3 i x y hx hy
   ·have e2:asAddr (a.tmps.getD q undef)=pure ⟨(φ ad.block).1,(φ ad.block).2+ad.off,none⟩:=by rw [e];rfl
    simp only [O',GA,Sem.run_bind,Sem.run_pure,Result.andThen_ok,e2,im,h4]
  ·cases hx
theorem BF(hE:dq E)(iD:nr E w0 rec)(N:Nat){fn:Func}{an:bL}(hf:E.P.funcs[f]? = some fn)(hx:sS E rec (dO N) an fn args h=some (v,h')){args':List Value}
  (hh:HR E.P E.base w0 φ h w)(hl:args.length=args'.length)(hr:∀ (i:Nat) (x y:Value),args[i]? = some x->args'[i]? = some y->VR E.P E.base φ h.length w x y):
  Calls E.P f args'.toArray w λe w'=>∃ u bN,e = .returned u/\Ext φ h w bN h' w'/\HR E.P E.base w0 bN h' w'/\VR E.P E.base bN h'.length w' v u:=by
 unfold sS at hx
 cases hb:fn.body with
 | none=>rw [hb] at hx;cases hx
 | some b=>
  rw [hb] at hx
  simp only at hx
  refine calls_of_wp hf hb (yQ hE iD N b an _ _ _ h _ w φ _ hx ?_ hh ?_)
  ·refine ⟨by simp [hl],λt x ht=>?_,rfl⟩
   have sg:∀ (s:az) (t:Nat),ay s t=s[t]?.join:=by
    intro s
    induction s with
    | nil=>intro t;rfl
    | cons x r ih=>
     intro t
     cases t with
     | zero=>simp [ay]
     | succ t=>simp only [ay,List.getElem?_cons_succ];exact ih t
   rw [sg] at ht
   by_cases aS:t<args.length
   ·rw [List.getElem?_append_left (by simpa using aS)] at ht
    simp only [gD,bk aS,j8,Option.join_some] at ht
    injection ht with ht
    have dg:t<args'.length:=by omega
    have:=hr t args[t] args'[t] (bk aS) (bk dg)
    rw [ht] at this
    simp [Array.getElem?_append_left,dg]
    exact this
   ·rw [List.getElem?_append_right (by simpa using aS)] at ht
    rw [List.getElem?_replicate] at ht
    split at ht<;>simp at ht
  ·intro e s' h2 bN a' w' hc q2 q3 q4
   split at hc
   ·rename_i he
    obtain ⟨vs,us,h1,hlen,h3,h4⟩:=jQ hE q4 q3 _ _ _ hc
    injection h1 with h1
    injection h1 with h5 h6
    subst h6
    have aah:(results fn a'.tmps).run E.P w' = .ok (if h:us.length=1 then us[0] else .tuple us.toArray) w':=by
     have hre:results fn a'.tmps=(do
       let vs <- fn.results.mapM (GA a'.tmps)
       pure (if h:vs.size=1 then vs[0] else .tuple vs)):=by
      unfold results
      congr
     rw [hre]
     simp only [Array.mapM_eq_mapM_toList,Sem.run_bind]
     rw [Sem.run_map,h4]
     simp
    have hv:VR E.P E.base bN h2.length w' v (if h:us.length=1 then us[0] else .tuple us.toArray):=by
     rw [<- h5]
     by_cases h1:us.length=1
     ·rw [dif_pos h1]
      match vs,hlen.trans h1,h3 with
      | [x],_,h3=>exact h3 0 x us[0] rfl (bk (by omega))
     ·rw [dif_neg h1]
      have:Jo vs = .tuple vs.toArray:=by
       match vs,hlen with
       | [],_=>rfl
       | [x],hlen=>exact absurd hlen.symm h1
       | _ :: _ :: _,_=>rfl
      rw [this]
      exact .N6 _ _ (by simp [hlen]) λi x y hx hy=>h3 i x y (by simpa using hx) (by simpa using hy)
    match e,he with
    | 0,_=>exact ⟨q4.defers,_,aah,_,bN,rfl,q2,q3,hv⟩
    | 1,_=>exact ⟨q4.defers,_,aah,_,bN,rfl,q2,q3,hv⟩
   ·cases hc
end
theorem qP{E:Env}(hE:dq E)(w0:World):∀ k,nr E w0 (dG E k)
 | 0=>λf args h v h' hx=>by cases hx
 | k+1=>λf args h v h' hx φ w args' hh hl hr=>by
  simp only [dG] at hx
  split at hx
  ·rename_i fn an hf han
   exact BF hE (qP hE w0 k) k hf hx hh hl hr
  ·cases hx
def Ev(p:Nat->Prop):Prop:=∃ k0,∀ k,k0<=k->p k
theorem Ev.of(h:∀ k,p k):Ev p:=⟨0,λk _=>h k⟩
theorem Ev.mono{q:Nat->Prop}(h:Ev p)(Kc:∀ k,p k->q k):Ev q:=let ⟨k0,hk⟩:=h;⟨k0,λk hh=>Kc k (hk k hh)⟩
theorem Ev.and{q:Nat->Prop}(h:Ev p)(g:Ev q):Ev λk=>p k/\q k:=
 let ⟨a,ha⟩:=h;let ⟨b,hb⟩:=g;⟨max a b,λk hk=>⟨ha k (by omega),hb k (by omega)⟩⟩
theorem Ev.one(h:Ev p):∃ k,p k:=let ⟨k0,hk⟩:=h;⟨k0,hk k0 (aT _)⟩
open Classical in
noncomputable def run(E:Env):Rec:=λf args h=>if hx:∃ r,Ev λk=>dG E k f args h=some r then some hx.choose else none
open Classical in
noncomputable def aF:Body->Body:=λb s h=>if hx:∃ r,Ev λk=>dO k b s h=some r then some hx.choose else none
theorem tY{r:Value×AH}:run E f args h=some r↔Ev λk=>dG E k f args h=some r:=by
 unfold run
 split
 ·rename_i hx
  constructor
  ·intro he
   injection he with he
   have:=hx.choose_spec
   rw [he] at this
   exact this
  ·intro he
   obtain ⟨k,h1,h2⟩:=(he.and hx.choose_spec).one
   rw [h1] at h2
   exact h2.symm
 ·rename_i hx
  exact ⟨λhe=>by (cases he),λhe=>absurd ⟨r,he⟩ hx⟩
theorem pq:aF b s h=some r↔Ev λk=>dO k b s h=some r:=by
 unfold aF
 split
 ·rename_i hx
  constructor
  ·intro he
   injection he with he
   have:=hx.choose_spec
   rw [he] at this
   exact this
  ·intro he
   obtain ⟨k,h1,h2⟩:=(he.and hx.choose_spec).one
   rw [h1] at h2
   exact h2.symm
 ·rename_i hx
  exact ⟨λhe=>by (cases he),λhe=>absurd ⟨r,he⟩ hx⟩
theorem uS{b:Body}:∀ (n:Nat) (s:az) (h:AH) (r:Nat×az×AH),dO n b s h=some r->dO (n+1) b s h=some r
 | 0,_,_,_,h=>by cases h
 | n+1,s,h,r,hx=>by
  simp only [dO] at hx
  rw [dO]
  cases hb:b s h with
  | none=>rw [hb] at hx;cases hx
  | some p=>
   rw [hb] at hx
   simp only [aJ] at hx ⊢
   by_cases hp:p.1=0
   ·rw [if_pos hp] at hx ⊢;exact uS n _ _ _ hx
   ·rw [if_neg hp] at hx ⊢;exact hx
theorem BG{m:Nat}(hnm:n<=m)(hx:dO n b s h=some r):dO m b s h=some r:=by
 induction hnm with
 | refl=>exact hx
 | step _ ih=>exact uS _ _ _ _ ih
theorem Kd(hx:dO n b s h=some r):aF b s h=some r:=pq.2 ⟨n,λ_ hk=>BG hk hx⟩
theorem cg(b:Body)(s:az)(h:AH):aF b s h=(b s h).bind λp=>if p.1=0 then aF b p.2.1 p.2.2 else some p:=by
 apply Option.ext
 intro r
 rw [show (aF b s h=some r↔_) from pq]
 constructor
 ·intro hx
  obtain ⟨k0,hk⟩:=hx
  have h1:=hk (k0+1) (by omega)
  simp only [dO] at h1
  cases hb:b s h with
  | none=>rw [hb] at h1;cases h1
  | some p=>
   rw [hb] at h1
   simp only [aJ] at h1 ⊢
   by_cases hp:p.1=0
   ·rw [if_pos hp] at h1 ⊢;exact Kd h1
   ·rw [if_neg hp] at h1 ⊢;exact h1
 ·intro hx
  cases hb:b s h with
  | none=>rw [hb] at hx;cases hx
  | some p=>
   rw [hb] at hx
   simp only [aJ] at hx
   by_cases hp:p.1=0
   ·rw [if_pos hp] at hx
    obtain ⟨k0,hk⟩:=pq.1 hx
    refine ⟨k0+1,λk Y1=>?_⟩
    obtain ⟨k',rfl⟩:∃ k',k=k'+1:=⟨k-1,by omega⟩
    simp only [dO,hb,aJ]
    rw [if_pos hp]
    exact hk k' (by omega)
   ·rw [if_neg hp] at hx
    refine ⟨1,λk Y1=>?_⟩
    obtain ⟨k',rfl⟩:∃ k',k=k'+1:=⟨k-1,by omega⟩
    simp only [dO,hb,aJ]
    rw [if_neg hp]
    exact hx
section
variable {R:Type} {E:Env}
theorem tZ{o:Op}{c:Value->AH->Option R}{ck:Nat->Value->AH->Option R}{r:R}(hx:bG E (run E) o s h c=some r)(hc:∀ v h',c v h'=some r->Ev λk=>ck k v h'=some r):
  Ev λk=>bG E (dG E k) o s h (ck k)=some r:=by
 obtain ⟨v,h',h1,h2⟩:=pn hx
 have key:Ev λk=>bG E (dG E k) o s h pair=some (v,h'):=by
  by_cases xr:∃ cc,o = .call cc
  ·obtain ⟨cc,rfl⟩:=xr
   obtain ⟨callee,xs,ts⟩:=cc
   simp only [bG] at h1 ⊢
   cases he:uy s xs.toList with
   | none=>rw [he] at h1;cases h1
   | some vs=>
    rw [he] at h1
    simp only at h1 ⊢
    cases callee with
    | builtin b=>exact Ev.of λk=>h1
    | invoke _ _=>cases h1
    | value f=>
     simp only at h1 ⊢
     split at h1
     ·rename_i g p q hf
      cases hg:E.fn g with
      | none=>
       rw [hg] at h1
       simp only at h1 ⊢
       exact .of λ_=>h1
      | some rs=>
       rw [hg] at h1
       simp only at h1 ⊢
       cases hr:run E g (p.toList++vs++q.toList) h with
       | none=>rw [hr] at h1;cases h1
       | some pr=>
        rw [hr] at h1
        refine (tY.1 hr).mono λk hk=>?_
        rw [hk]
        exact h1
     ·cases h1
  ·refine Ev.of λk=>?_
   rw [<- h1]
   cases o<;>first|rfl|exact absurd ⟨_,rfl⟩ xr|(rename_i mx;cases mx<;>rfl)
 refine (key.and (hc v h' h2)).mono λk hk=>?_
 rw [kG,show (bG E (dG E k) o s h λv h=>some (v,h))=some (v,h') from hk.1]
 exact hk.2
theorem Ke{o:Oper}{c:Value->AH->Option R}{ck:Nat->Value->AH->Option R}{r:R}(hx:tT E (run E) o s h c=some r)(hc:∀ v h',c v h'=some r->Ev λk=>ck k v h'=some r):
  Ev λk=>tT E (dG E k) o s h (ck k)=some r:=by
 unfold tT at hx
 split at hx
 ·rename_i ht
  have e:∀ k,tT E (dG E k) o s h (ck k)=bG E (dG E k) o.op s h (ck k):=λk=>by unfold tT;rw [ht]
  simp only [e]
  exact tZ hx hc
 ·rename_i t xs ht
  split at hx
  ·rename_i fn p q vs rs hf vZ hrs
   have e:∀ k,tT E (dG E k) o s h (ck k)=(nl E (dG E k) fn (p.toList++vs++q.toList) h).bind λr=>fU rs r.1 λv=>ck k v r.2:=λk=>by unfold tT;rw [ht];simp only [hf,vZ,hrs]
   simp only [e]
   cases hr:nl E (run E) fn (p.toList++vs++q.toList) h with
   | none=>rw [hr] at hx;cases hx
   | some iH=>
    rw [hr] at hx
    simp only [aJ] at hx
    rw [iw] at hx
    cases hv:fU rs iH.1 some with
    | none=>rw [hv] at hx;cases hx
    | some y=>
     rw [hv] at hx
     simp only [aJ] at hx
     have key:Ev λk=>nl E (dG E k) fn (p.toList++vs++q.toList) h=some iH:=by
      unfold nl at hr
      split at hr
      ·rename_i g
       split at hr
       ·rename_i rs2 hg
        cases wl:run E g (p.toList++vs++q.toList) h with
        | none=>rw [wl] at hr;cases hr
        | some pr=>
         rw [wl] at hr
         refine (tY.1 wl).mono λk hk=>?_
         unfold nl
         simp only [hg]
         rw [hk]
         exact hr
       ·cases hr
      ·cases hr
     refine (key.and (hc _ _ hx)).mono λk hk=>?_
     rw [hk.1]
     simp only [aJ]
     rw [iw,hv]
     exact hk.2
  ·cases hx
theorem uT{o:Oper}{OM no:az->Option R}{yk nk:Nat->az->Option R}{r:R}(hx:guarded ops o s OM no=some r)(hy:∀ s,OM s=some r->Ev λk=>yk k s=some r)(hn:∀ s,no s=some r->Ev λk=>nk k s=some r):
  Ev λk=>guarded ops o s (yk k) (nk k)=some r:=by
 unfold guarded at hx ⊢
 cases hg:o.guard with
 | none=>rw [hg] at hx;exact hy s hx
 | some p=>
  obtain ⟨j,want⟩:=p
  rw [hg] at hx
  simp only at hx ⊢
  cases hd:(ops[j]?).bind (·.dst) with
  | none=>rw [hd] at hx;cases hx
  | some d=>
   rw [hd] at hx
   simp only at hx ⊢
   split at hx
   ·rename_i b hb
    cases b with
    | true=>
     rw [if_pos rfl] at hx
     cases want with
     | true=>exact (hy _ hx).mono λk hk=>by rw [if_pos rfl];exact hk
     | false=>exact (hn _ hx).mono λk hk=>by rw [if_pos rfl];exact hk
    | false=>
     rw [if_neg (by decide)] at hx
     cases want with
     | true=>exact (hn _ hx).mono λk hk=>by rw [if_neg (by decide)];exact hk
     | false=>exact (hy _ hx).mono λk hk=>by rw [if_neg (by decide)];exact hk
   ·exact hn s hx
   ·cases hx
theorem uU{ops:List Oper}{c:az->AH->Option R}{ck:Nat->az->AH->Option R}{r:R}(hc:∀ s h',c s h'=some r->Ev λk=>ck k s h'=some r):∀ (l:List Oper) (s:az) (h:AH),
  pM E (run E) ops l s h c=some r->Ev λk=>pM E (dG E k) ops l s h (ck k)=some r
 | [],s,h,hx=>hc s h hx
 | o :: l,s,h,hx=>by
  simp only [pM] at hx ⊢
  refine uT hx (λs' hy=>?_) (λs' hn=>uU hc l _ _ hn)
  exact Ke hy λv h' hv=>uU hc l _ _ hv
theorem oF{bj:Nat}{b:Option Addr}{x x':Option R}{r r':R}(j6:x'=some r'):∀ {l:List (Nat×Nat)},nV bj b l x=some r->nV bj b l x'=some r'
 | [],h=>j6
 | (k,nm) :: l,h=>by
  simp only [nV] at h ⊢
  cases hb:bj.testBit k with
  | true=>rw [hb] at h;exact oF j6 h
  | false=>
   rw [hb] at h
   obtain ⟨hp,h⟩:=eY h
   simp only [cond_false]
   unfold gate
   rw [if_pos hp]
   exact oF j6 h
theorem oG{bj n:Nat}{b:Option Addr}{h0:AH}{x x':Option R}{r r':R}(j6:x'=some r'):∀ {l:List (Nat×AH)},nW bj h0 b n l x=some r->nW bj h0 b n l x'=some r'
 | [],h=>j6
 | (k,nm) :: l,h=>by
  simp only [nW] at h ⊢
  cases hb:bj.testBit k with
  | true=>rw [hb] at h;exact oG j6 h
  | false=>
   rw [hb] at h
   obtain ⟨hp,h⟩:=eY h
   simp only [cond_false]
   unfold gate
   rw [if_pos hp]
   exact oG j6 h
theorem oH{bj:Nat}{h0 h1:AH}{x x':Option R}{r r':R}(j6:x'=some r'):∀ {l:List (Nat×Option Addr×Nat)},nX bj h0 h1 l x=some r->nX bj h0 h1 l x'=some r'
 | [],h=>j6
 | (i,b,n) :: l,h=>by
  simp only [nX] at h ⊢
  cases hb:bj.testBit i with
  | true=>rw [hb] at h;exact oH j6 h
  | false=>
   rw [hb] at h
   obtain ⟨hp,h⟩:=eY h
   simp only [cond_false]
   unfold gate
   rw [if_pos hp]
   exact oH j6 h
theorem oI{bj nm:Nat}{x x':Option R}{r r':R}(j6:x'=some r'):∀ {l:List (Nat×Option Addr×Nat)},nY bj nm l x=some r->nY bj nm l x'=some r'
 | [],h=>j6
 | (i,b,n) :: l,h=>by
  simp only [nY] at h ⊢
  cases hb:bj.testBit i with
  | true=>rw [hb] at h;exact oI j6 h
  | false=>
   rw [hb] at h
   obtain ⟨hp,h⟩:=eY h
   simp only [cond_false]
   unfold gate
   rw [if_pos hp]
   exact oI j6 h
theorem rX{ops:List Oper}{bf:List Nat}{c:az->AH->Option R}{ck:Nat->az->AH->Option R}{r:R}(hc:∀ s h',c s h'=some r->Ev λk=>ck k s h'=some r):∀ (l:List Oper) (i:Nat) (s:az) (h:AH) (hi:List (Nat×AH)) (pe:List (Nat×Option Addr×Nat)) (an:List (Nat×Nat)),
  AX E (run E) ops bf l i s h hi pe an c=some r->Ev λk=>AX E (dG E k) ops bf l i s h hi pe an (ck k)=some r
 | [],i,s,h,hi,pe,an,hx=>hc s h hx
 | o :: l,i,s,h,hi,pe,an,hx=>by
  simp only [AX] at hx ⊢
  refine uT hx (λs' hy=>?_) (λs' hn=>rX hc l _ _ _ _ _ _ hn)
  cases nI:cl o.op with
  | pure=>
   rw [nI] at hy
   exact tZ hy λv h' hv=>rX hc l _ _ _ _ _ _ hv
  | fresh=>
   rw [nI] at hy
   simp only at hy ⊢
   cases hb:((dS (bf.getD i 0) hi&&dS (bf.getD i 0) an)||Er ops bf i o.op) with
   | false=>rw [hb] at hy;cases hy
   | true=>
    rw [hb] at hy
    simp only [cond_true] at hy ⊢
    obtain ⟨h1,_⟩:=lg hy
    exact (tZ (ck:=λk v h'=>AX E (dG E k) ops bf l (i+1) (gO s' o.dst (some v)) h' hi pe ((i,h.length) :: an) (ck k)) h1 λv h' hv=>rX hc l _ _ _ _ _ _ hv).mono λk hk=>oI hk hy
  | read=>
   rw [nI] at hy
   simp only at hy ⊢
   split at hy
   ·rename_i a n hra
    obtain ⟨h1,_⟩:=kZ hy
    obtain ⟨h2,_⟩:=k_ h1
    exact (tZ (ck:=λk v h'=>AX E (dG E k) ops bf l (i+1) (gO s' o.dst (some v)) h' hi ((i,a,n) :: pe) an (ck k)) h2 λv h' hv=>rX hc l _ _ _ _ _ _ hv).mono λk hk=>oF (oG hk h1) hy
   ·cases hy
  | fZ=>
   rw [nI] at hy
   simp only at hy ⊢
   cases hb:(dS (bf.getD i 0) hi&&dS (bf.getD i 0) an) with
   | false=>rw [hb] at hy;cases hy
   | true=>
    rw [hb] at hy
    simp only [cond_true] at hy ⊢
    exact Ke hy λv h' hv=>(rX hc l _ _ _ _ _ _ (lf hv).1).mono λk hk=>oH hk hv
theorem uV{R:Type}:∀ (sh:Shape) (s:az) (c:az->Option R) (ck:Nat->az->Option R) (r:R),lay sh s c=some r->(∀ s',c s'=some r->Ev λk=>ck k s'=some r)->Ev λk=>lay sh s (ck k)=some r
 | [],s,c,ck,r,hx,hc=>hc [] hx
 | none :: sh,s,c,ck,r,hx,hc=>uV sh s _ (λk r=>ck k (none :: r)) r hx λs' V_=>hc _ V_
 | some k :: sh,s,c,ck,r,hx,hc=>by
  simp only [lay] at hx ⊢
  rw [lU] at hx
  cases hv:lO k (ay s 0) some with
  | none=>rw [hv] at hx;cases hx
  | some v=>
   rw [hv] at hx
   refine (uV sh s.tail _ (λk r=>ck k (some v :: r)) r hx λs' V_=>hc _ V_).mono λkk hk=>?_
   rw [lU,hv]
   exact hk
theorem H9:∀ (code:Code) (an:bL) {R:Type} (c:Nat->az->AH->Option R) (ck:Nat->Nat->az->AH->Option R) (r:R) (s:az) (h:AH),
  aP E (run E) aF an code s h c=some r->(∀ e s h,c e s h=some r->Ev λk=>ck k e s h=some r)->Ev λk=>aP E (dG E k) (dO k) an code s h (ck k)=some r:=by
 intro code
 induction code with
 | skip=>intro an R c ck r s h hx hc;cases an<;>exact hc 0 s h hx
 | region id ops d=>
  intro an R c ck r s h hx hc
  cases d with
  | false=>
   have hx:pM E (run E) ops.toList ops.toList s h (c 0)=some r:=by cases an<;>exact hx
   have:=uU (ck:=λk=>ck k 0) (hc 0) _ _ _ hx
   cases an<;>exact this
  | true=>
   by_cases ht:∃ c1 o1 t1,an = .qx c1 o1 t1
   ·obtain ⟨c1,o1,t1,rfl⟩:=ht
    simp only [aP] at hx
    cases hb:cx c1 s.length with
    | false=>rw [hb] at hx;cases hx
    | true=>
     rw [hb] at hx
     simp only [cond_true] at hx
     obtain ⟨ht,hx⟩:=eY hx
     obtain ⟨he,hx⟩:=eY hx
     refine ((hc 0 _ _ hx).and (hc 0 _ _ (he.symm.trans hx))).mono λk hk=>?_
     simp only [aP]
     rw [hb]
     simp only [cond_true]
     unfold gate
     rw [if_pos ht,if_pos (by rw [hk.1,hk.2])]
     exact hk.1
   have hx:cond (nU (cN an ops.toList) (ij [] (cN an ops.toList)) 0 (cN an ops.toList)) (AX E (run E) (cN an ops.toList) (ij [] (cN an ops.toList)) (cN an ops.toList) 0 s h [] [] [] (c 0)) none=some r:=by cases an<;>first|exact hx|exact absurd ⟨_,_,_,rfl⟩ ht
   cases g9:nU (cN an ops.toList) (ij [] (cN an ops.toList)) 0 (cN an ops.toList) with
   | false=>rw [g9] at hx;cases hx
   | true=>
    rw [g9] at hx
    simp only [cond_true] at hx
    have:=rX (ck:=λk=>ck k 0) (hc 0) _ _ _ _ _ _ _ hx
    refine this.mono λk hk=>?_
    cases an<;>first|(simp only [aP];rw [g9];exact hk)|exact absurd ⟨_,_,_,rfl⟩ ht
 | seq x y Ka Kb=>
  intro an R c ck r s h hx hc
  cases an with
  | seq j p q=>
   cases j with
   | none=>
    simp only [aP] at hx ⊢
    refine Ka p _ (λk e s' h'=>match e with
     | 0=>aP E (dG E k) (dO k) q y s' h' (ck k)
     | e+1=>ck k (e+1) s' h') r s h hx λe s' h' he=>?_
    match e,he with
    | 0,he=>exact Kb q c ck r s' h' he hc
    | e+1,he=>exact hc (e+1) s' h' he
   | some sh=>
    simp only [aP] at hx ⊢
    cases hp:aP E (run E) aF p x s h (xf sh c) with
    | none=>rw [hp] at hx;cases hx
    | some pr=>
     rw [hp] at hx
     simp only [aJ] at hx
     have h1:=Ka p _ (λk=>xf sh (ck k)) pr s h hp λe s' h' he=>by
       match e,he with
       | 0,he=>exact Ev.of λk=>he
       | e+1,he=>
        simp only [xf] at he ⊢
        cases Gl:c (e+1) s' h' with
        | none=>rw [Gl] at he;cases he
        | some r'=>
         rw [Gl] at he
         injection he with he
         subst he
         simp only [bH] at hx
         injection hx with hx
         subst hx
         exact (hc _ _ _ Gl).mono λk hk=>by rw [hk];rfl
     have h2:Ev λk=>bH pr (λq'=>lay sh q'.1 λs'=>aP E (dG E k) (dO k) q y s' q'.2 (ck k))=some r:=by
      cases pr with
      | inr r'=>exact Ev.of λk=>hx
      | inl q'=>exact uV _ _ _ _ _ hx λs' V_=>Kb q c ck r s' _ V_ hc
     refine (h1.and h2).mono λk hk=>?_
     rw [hk.1]
     exact hk.2
  | wk ks p q=>
   simp only [aP] at hx ⊢
   refine Ka p _ (λk e s' h'=>match e with
    | 0=>aP E (dG E k) (dO k) q y s' (np s' ks h') (ck k)
    | e+1=>ck k (e+1) s' h') r s h hx λe s' h' he=>?_
   match e,he with
   | 0,he=>exact Kb q c ck r s' _ he hc
   | e+1,he=>exact hc (e+1) s' h' he
  | leaf=>simp only [aP] at hx;cases hx
  | cond=>simp only [aP] at hx;cases hx
  | block=>simp only [aP] at hx;cases hx
  | loop=>simp only [aP] at hx;cases hx
  | perm=>simp only [aP] at hx;cases hx
  | qx=>simp only [aP] at hx;cases hx
 | cond b x y Ka Kb=>
  intro an R c ck r s h hx hc
  cases an with
  | cond p q=>
   simp only [aP] at hx ⊢
   split at hx
   ·rename_i t hb
    cases t with
    | true=>rw [if_pos rfl] at hx;exact (Ka p c ck r s h hx hc).mono λk hk=>by rw [if_pos rfl];exact hk
    | false=>rw [if_neg (by decide)] at hx;exact (Kb q c ck r s h hx hc).mono λk hk=>by rw [if_neg (by decide)];exact hk
   ·cases hx
  | leaf=>simp only [aP] at hx;cases hx
  | seq=>simp only [aP] at hx;cases hx
  | block=>simp only [aP] at hx;cases hx
  | loop=>simp only [aP] at hx;cases hx
  | perm=>simp only [aP] at hx;cases hx
  | qx=>simp only [aP] at hx;cases hx
  | wk=>simp only [aP] at hx;cases hx
 | block id x ih=>
  intro an R c ck r s h hx hc
  cases an with
  | block p=>
   simp only [aP] at hx ⊢
   refine ih p _ (λk e s' h'=>cond (bg e (id+2)) (ck k 0 s' h') (ck k e s' h')) r s h hx λe s' h' he=>?_
   cases hb:bg e (id+2) with
   | true=>rw [hb] at he;exact hc 0 s' h' he
   | false=>rw [hb] at he;exact hc e s' h' he
  | leaf=>simp only [aP] at hx;cases hx
  | seq=>simp only [aP] at hx;cases hx
  | cond=>simp only [aP] at hx;cases hx
  | loop=>simp only [aP] at hx;cases hx
  | perm=>simp only [aP] at hx;cases hx
  | qx=>simp only [aP] at hx;cases hx
  | wk=>simp only [aP] at hx;cases hx
 | loop x ih=>
  intro an R c ck r s h hx hc
  cases an with
  | loop s1 es p=>
   simp only [aP] at hx ⊢
   cases hb:bg s.length s1.length with
   | false=>rw [hb] at hx;cases hx
   | true=>
    rw [hb] at hx
    simp only [cond_true] at hx ⊢
    let body:Nat->Body:=λk l h=>lay s1 l λs'=>aP E (dG E k) (dO k) p x s' h (nj s1 es)
    let GB:Body:=λl h=>lay s1 l λs'=>aP E (run E) aF p x s' h (nj s1 es)
    have Gy:∀ s h p1,GB s h=some p1->Ev λk=>body k s h=some p1:=λs' h' p1 V'=>
     uV s1 s' _ (λk s'=>aP E (dG E k) (dO k) p x s' h' (nj s1 es)) p1 V' λs2 nJ=>
      ih p _ (λk=>nj s1 es) p1 s2 h' nJ λe s3 h3 he=>Ev.of λ_=>he
    have Pa:∀ n s h pr,dO n GB s h=some pr->Ev λk=>dO n (body k) s h=some pr:=by
     intro n
     induction n with
     | zero=>intro s h pr hx;cases hx
     | succ n ihn=>
      intro s h pr hx
      simp only [dO] at hx ⊢
      cases jM:GB s h with
      | none=>rw [jM] at hx;cases hx
      | some p1=>
       rw [jM] at hx
       simp only [aJ] at hx
       by_cases h0:p1.1=0
       ·rw [if_pos h0] at hx
        refine ((Gy s h p1 jM).and (ihn _ _ _ hx)).mono λk hk=>?_
        rw [hk.1]
        simp only [aJ]
        rw [if_pos h0]
        exact hk.2
       ·rw [if_neg h0] at hx
        refine (Gy s h p1 jM).mono λk hk=>?_
        rw [hk]
        simp only [aJ]
        rw [if_neg h0]
        exact hx
    cases hp:aF GB (ax s1 s) h with
    | none=>rw [show (aF (λl h=>lay s1 l λs'=>aP E (run E) aF p x s' h (nj s1 es)) (ax s1 s) h)=none from hp] at hx;cases hx
    | some pr=>
     rw [show (aF (λl h=>lay s1 l λs'=>aP E (run E) aF p x s' h (nj s1 es)) (ax s1 s) h)=some pr from hp] at hx
     simp only [aJ] at hx
     obtain ⟨n,hn⟩:=(pq.1 hp).one
     have h1:Ev λk=>dO k (body k) (ax s1 s) h=some pr:=by
      obtain ⟨k0,hk0⟩:=Pa n _ h pr hn
      exact ⟨max n k0,λk hk=>BG (by omega) (hk0 k (by omega))⟩
     have h2:Ev λk=>Bj es pr.1 pr.2.1 pr.2.2 (ck k)=some r:=by
      have key:∀ es:List (Nat×Shape),Bj es pr.1 pr.2.1 pr.2.2 c=some r->Ev λk=>Bj es pr.1 pr.2.1 pr.2.2 (ck k)=some r:=by
       intro es
       induction es with
       | nil=>intro hx;cases hx
       | cons p es ihe=>
        intro hx
        obtain ⟨e,sh⟩:=p
        simp only [Bj] at hx ⊢
        by_cases he:pr.1=e
        ·rw [if_pos he] at hx
         refine (uV sh _ _ (λk s'=>ck k e s' pr.2.2) r hx λs' V_=>hc _ _ _ V_).mono λk hk=>?_
         rw [if_pos he];exact hk
        ·rw [if_neg he] at hx
         exact (ihe hx).mono λk hk=>by rw [if_neg he];exact hk
      exact key es hx
     refine (h1.and h2).mono λk hk=>?_
     rw [show (dO k (λl h=>lay s1 l λs'=>aP E (dG E k) (dO k) p x s' h (nj s1 es)) (ax s1 s) h)=some pr from hk.1]
     exact hk.2
  | leaf=>simp only [aP] at hx;cases hx
  | seq=>simp only [aP] at hx;cases hx
  | cond=>simp only [aP] at hx;cases hx
  | block=>simp only [aP] at hx;cases hx
  | perm=>simp only [aP] at hx;cases hx
  | qx=>simp only [aP] at hx;cases hx
  | wk=>simp only [aP] at hx;cases hx
 | exit id=>
  intro an R c ck r s h hx hc
  have hx:c (id+2) s h=some r:=by cases an<;>exact hx
  have:=hc _ _ _ hx
  cases an<;>exact this
 | ret=>
  intro an R c ck r s h hx hc
  have hx:c 1 s h=some r:=by cases an<;>exact hx
  have:=hc _ _ _ hx
  cases an<;>exact this
 | _=>
  intro an R c ck r s h hx hc
  cases an<;>(simp only [aP] at hx;cases hx)
end
theorem H_{fn:Func}{an:bL}(hf:E.P.funcs[f]? = some fn)(ha:E.an f=some an){r:Value×AH}(hx:sS E (run E) aF an fn args h=some r):run E f args h=some r:=by
 rw [tY]
 have key:Ev λk=>sS E (dG E k) (dO k) an fn args h=some r:=by
  unfold sS at hx ⊢
  cases hb:fn.body with
  | none=>rw [hb] at hx;cases hx
  | some b=>
   rw [hb] at hx
   exact H9 b an _ (λ_ e s h'=>if e<=1 then jh E s h' fn.results.toList λvs=>some (Jo vs,h') else none) r _ _ hx λe s h he=>Ev.of λ_=>he
 obtain ⟨k0,hk⟩:=key
 refine ⟨k0+1,λk Y1=>?_⟩
 obtain ⟨k',rfl⟩:∃ k',k=k'+1:=⟨k-1,by omega⟩
 simp only [dG,hf,ha]
 exact hk k' (by omega)
theorem Ia(hE:dq E)(w0:World):nr E w0 (run E):=λf args h v h' hx=>by
 obtain ⟨k,hk⟩:=(tY.1 hx).one
 exact qP hE w0 k f args h v h' hk
theorem uW{α:Type}:∀ {l:List (Nat×α)} {t:Nat} {i:α},find l t=some i->(t,i)∈l
 | [],_,_,h=>by cases h
 | (k,j) :: r,t,i,h=>by
  simp only [find] at h
  cases hb:bg k t with
  | true=>
   rw [hb] at h
   injection h with h
   subst h
   rw [dk hb]
   exact List.mem_cons_self ..
  | false=>rw [hb] at h;exact List.mem_cons_of_mem _ (uW h)
theorem bh.of{i:TI}{z:Value}{d:TypeDesc}(h:(P.info? t).map (λf=>(f.size,f.bytes,f.zero))=some (i.ks.length,i.bytes,some z))(hz:z.cells.toList=i.zero)(hl:i.zero.length=i.ks.length)(hf:i.zero.all jU=true)
  (hu:P.underlying t=some d)(hd:uA d i)(ha:0<i.QX->P.underlying t=some (.array i.QX i.elem))(h0:mw (.int .i64) i=true->z = .int .i64 0):bh P t i where
 zi:=λhk=>by
  cases hi:P.info? t with
  | none=>rw [hi] at h;cases h
  | some f=>
   rw [hi] at h
   simp only [j8] at h
   injection h with h
   injection h with h1 h2
   injection h2 with h2 h3
   exact ⟨f,rfl,by rw [h3,h0 hk]⟩
 inf:=by
  cases hi:P.info? t with
  | none=>rw [hi] at h;cases h
  | some f=>
   rw [hi] at h
   simp only [j8] at h
   injection h with h
   injection h with h1 h2
   injection h2 with h2 h3
   exact ⟨f,z,rfl,h1,h2,h3,hz,hl,hf⟩
 Vn:=⟨d,hu,hd⟩
 YW:=ha
def BH:List Nat->Code->Code
 | [],c=>c
 | 0 :: r,.seq a _=>BH r a
 | _ :: r,.seq _ b=>BH r b
 | 0 :: r,.cond _ a _=>BH r a
 | _ :: r,.cond _ _ b=>BH r b
 | _ :: r,.block _ a=>BH r a
 | _ :: r,.loop a=>BH r a
 | _,_=>.skip
def Ri(f:Func):Code:=f.body.getD .skip
def tz(n:Nat):Value->Bool
 | .int _ _=>true
 | .bool _=>true
 | .string _=>true
 | .nilFunc=>true
 | .pointer none=>true
 | .pointer (some ad)=>cx ad.block n&&(match ad.spot with|none=>true|some _=>false)
 | .slice a m c=>cond (bg c 0) (bg m 0) (match a with
  | none=>false
  | some ad=>cx ad.block n&&(match ad.spot with|none=>true|some _=>false)&&dC m c)
 | _=>false
def told:Value->Value
 | .slice a m c=>cond (bg c 0) (.slice none 0 0) (.slice a m m)
 | v=>v
def lW(n:Nat)(v:Value):Value:=cond (tz n v) (told v) .nilIface
def h0(W:World):AH:=W.heap.toList.map λo=>match o with
 | .cells cs t _=>some ⟨cs.toList.map (lW W.heap.size),t⟩
 | _=>none
def tW:Nat->Nat×Nat:=λi=>(i,0)
theorem BI(h:tz n v=true):VR P n tW n w (told v) v:=by
 cases v<;>simp only [tz] at h<;>first|(cases h;done)|skip
 case int=>exact .int _ _
 case bool=>exact .bool _
 case string=>exact .str _
 case nilFunc=>exact .HK
 case pointer a=>
  cases a with
  | none=>exact .HJ
  | some ad=>
   obtain ⟨b,o,s⟩:=ad
   simp only [bz,e_] at h
   cases s with
   | some _=>cases h.2
   | none=>
    have:=VR.ptr (P:=P) (base:=n) (φ:=tW) (n:=n) (w:=w) b o h.1
    simpa [tW,told] using this
 case slice a m c=>
  cases hc:bg c 0 with
  | true=>
   rw [hc] at h
   have h1:=dk hc
   have h2:=dk h
   subst h1;subst h2
   exact .empty none 0 a λ_ h=>by cases h
  | false=>
   rw [hc] at h
   simp only [cond_false] at h
   cases a with
   | none=>cases h
   | some ad=>
    obtain ⟨b,o,s⟩:=ad
    simp only [bz,e_] at h
    cases s with
    | some _=>cases h.1.2
    | none=>
     have:=VR.slice (P:=P) (base:=n) (φ:=tW) (n:=n) (w:=w) b o m m c h.1.1 (iK h.2) (λhb=>absurd hb (by simp only [tW];have:=h.1.1;omega))
     simp only [told,hc,cond_false]
     simpa [tW] using this
theorem Wa{W:World}{k:df}(h:bD (h0 W) i=some k):∃ cs fr,W.heap[i]? = some (.cells cs k.ty fr)/\k.cs=cs.toList.map (lW W.heap.size):=by
 rw [rJ] at h
 simp only [h0,gD] at h
 cases ho:W.heap.toList[i]? with
 | none=>rw [ho] at h;cases h
 | some o=>
  rw [ho] at h
  simp only [j8] at h
  injection h with h
  have v_:W.heap[i]? = some o:=by simpa using ho
  cases o<;>simp only at h<;>first|(cases h;done)|skip
  rename_i cs t fr
  injection h with h
  subst h
  exact ⟨cs,fr,v_,rfl⟩
theorem Wb{W:World}{k:df}(h:bD (h0 W) i=some k):k.m=none:=by
 rw [rJ] at h
 simp only [h0,gD] at h
 cases ho:W.heap.toList[i]? with
 | none=>rw [ho] at h;cases h
 | some o=>
  rw [ho] at h
  simp only [j8] at h
  injection h with h
  cases o<;>simp only at h<;>first|(cases h;done)|skip
  injection h with h
  subst h
  rfl
theorem Wc(P:Program)(W:World):HR P W.heap.size W tW (h0 W) W where
 below:=Below.refl ..
 mp:=λi k l hi hm=>by
  have:=Wb hi
  rw [this] at hm;cases hm
 bK:=λi k hi _=>by
  obtain ⟨cs,fr,h1,h2⟩:=Wa hi
  refine ⟨cs,fr,h1,λj v hj=>?_,λhb=>?_⟩
  ·rw [h2,gD] at hj
   cases hc:cs.toList[j]? with
   | none=>rw [hc] at hj;cases hj
   | some u=>
    rw [hc] at hj
    injection hj with hj
    refine ⟨u,by simp only [tW,cQ];simpa using hc,λdv=>?_⟩
    have hlen:(h0 W).length=W.heap.size:=by simp [h0]
    rw [hlen]
    unfold lW at hj
    cases ht:tz W.heap.size u with
    | false=>rw [ht] at hj;exact absurd hj.symm dv
    | true=>
     rw [ht] at hj
     rw [<- hj]
     exact BI ht
  ·have:=(f_.1 h1).1
   omega
 inj:=λi j k l _ _ e=>e
 lo:=λi hi=>rfl
 len:=by simp [h0]
 bw:=aT _
theorem BJ(h:tz n v=true):VR P n tW n w (lW n v) v:=by
 unfold lW
 rw [h]
 exact BI h
theorem ET(hE:dq E){W:World}(hb:E.base=W.heap.size){args':Array Value}(hl:args.length=args'.size)
  (hr:∀ (i:Nat) (x y:Value),args[i]? = some x->args'[i]? = some y->VR E.P W.heap.size tW W.heap.size W x y)(hx:run E f args (h0 W)=some (.bool true,h')):
  Calls E.P f args' W λe W'=>e = .returned (.bool true)/\Below W.heap.size W W':=by
 have hlen:(h0 W).length=W.heap.size:=by simp [h0]
 have h1:=Ia hE W f args (h0 W) _ _ hx tW W args'.toList (by rw [hb];exact Wc E.P W) (by simpa using hl) (λi x y hx hy=>by rw [hb,hlen];exact hr i x y hx (by simpa using hy))
 have e:args'.toList.toArray=args':=by simp
 rw [e] at h1
 refine h1.mono λe W' he=>?_
 obtain ⟨u,bN,rfl,_,h2,h3⟩:=he
 cases h3
 refine ⟨rfl,?_⟩
 have:=h2.below
 rw [hb] at this
 exact this
def KB(S:Nat->Prop)(h h':AH):Prop:=h.length<=h'.length/\∀ b,b<h.length->¬S b->bD h' b=bD h b
abbrev bp:Nat->Prop:=λ_=>False
def bK(a:Option Addr)(b:Nat):Prop:=∃ ad,a=some ad/\ad.block=b
theorem KB.refl(S:Nat->Prop)(h:AH):KB S h h:=⟨aT _,λ_ _ _=>rfl⟩
theorem KB.trans{S' T:Nat->Prop}{a b c:AH}(x:KB S a b)(y:KB S' b c)(h1:∀ i,i<a.length->S i->T i)(h2:∀ i,i<a.length->S' i->T i):KB T a c:=
 ⟨Nat.le_trans x.1 y.1,λi hi hn=>by
  rw [y.2 i (Nat.lt_of_lt_of_le hi x.1) (λh=>hn (h2 i hi h)),x.2 i hi (λh=>hn (h1 i hi h))]⟩
theorem KB.mono{T:Nat->Prop}{a b:AH}(x:KB S a b)(h1:∀ i,i<a.length->S i->T i):KB T a b:=⟨x.1,λi hi hn=>x.2 i hi λh=>hn (h1 i hi h)⟩
theorem KB.push(S:Nat->Prop)(h:AH)(x:Option df):KB S h (h++[x]):=⟨by simp,λb hb _=>eG hb⟩
theorem KB.set{b:Nat}(x:Option df)(hb:S b):KB S h (h.set b x):=⟨by simp,λi _ hn=>dz λe=>hn (e ▸ hb)⟩
def Sl(h:AH)(a:Option Addr)(vs:List Value):Prop:=vs = []\/∃ ad k,a=some ad/\bD h ad.block=some k/\ad.off+vs.length<=k.cs.length/\∀ (i:Nat) (v:Value),vs[i]? = some v->k.cs[ad.off+i]? = some v
def bQ(base t:Nat)(h:AH)(a:Option Addr)(vs:List Value):Prop:=(a=none/\vs = [])\/∃ ad k,a=some ad/\base<=ad.block/\bD h ad.block=some k/\k.ty=t/\ad.off+vs.length<=k.cs.length/\∀ (i:Nat) (v:Value),vs[i]? = some v->k.cs[ad.off+i]? = some v
theorem bQ.sl(x:bQ base t h a vs):Sl h a vs:=by
 rcases x with ⟨_,h⟩|⟨ad,k,h1,_,h2,_,h3,h4⟩
 ·exact .inl h
 ·exact .inr ⟨ad,k,h1,h2,h3,h4⟩
theorem Sl.ax(x:Sl h a vs)(k:KB S h h')(hs:∀ b,bK a b->¬S b):Sl h' a vs:=by
 rcases x with h|⟨ad,kk,h1,h2,h3,h4⟩
 ·exact .inl h
 ·exact .inr ⟨ad,kk,h1,by rw [k.2 _ (di h2) (hs _ ⟨ad,h1,rfl⟩)];exact h2,h3,h4⟩
theorem bQ.ax(x:bQ base t h a vs)(k:KB S h h')(hs:∀ b,bK a b->¬S b):bQ base t h' a vs:=by
 rcases x with h|⟨ad,kk,h1,h0,h2,ht,h3,h4⟩
 ·exact .inl h
 ·exact .inr ⟨ad,kk,h1,h0,by rw [k.2 _ (di h2) (hs _ ⟨ad,h1,rfl⟩)];exact h2,ht,h3,h4⟩
theorem bQ.lt(x:bQ base t h a vs){b:Nat}(hb:bK a b):base<=b/\b<h.length:=by
 obtain ⟨ad,rfl,rfl⟩:=hb
 rcases x with ⟨h,_⟩|⟨rv,kk,h1,h0,h2,_⟩
 ·cases h
 ·injection h1 with h1;subst h1;exact ⟨h0,di h2⟩
theorem Sl.cell{h:AH}{a:Option Addr}{vs:List Value}(x:Sl h a vs){i:Nat}{v:Value}(hi:vs[i]? = some v):∃ ad,a=some ad/\Am.cell h ad.block (ad.off+i)=some v:=by
 rcases x with h|⟨ad,kk,h1,h2,h3,h4⟩
 ·subst h;simp at hi
 ·exact ⟨ad,h1,by simp [Am.cell,h2,h4 i v hi]⟩
theorem Sl.BK(x:Sl h a vs)(hl:vs.all leaf=true):br h a vs.length=some vs:=by
 rcases x with h|⟨ad,kk,h1,h2,h3,h4⟩
 ·subst h;rfl
 ·have e:(kk.cs.drop ad.off).take vs.length=vs:=by
   apply io
   intro i
   by_cases hi:i<vs.length
   ·rw [bJ hi,bZ,h4 i _ (bk hi),bk hi]
   ·rw [cE (by simp;omega),cE (by omega)]
  unfold br
  split
  ·rename_i h0
   rw [iL h0]
  ·subst h1
   simp only [aJ,h2]
   rw [e,if_pos ⟨h3,hl⟩]
theorem bQ.new(base t:Nat)(h:AH)(cs:List Value)(hb:base<=h.length):bQ base t (h++[some ⟨cs,t⟩]) (some ⟨h.length,0,none⟩) cs:=
 .inr ⟨⟨h.length,0,none⟩,⟨cs,t⟩,rfl,hb,dU,rfl,by simp,λi v hi=>by simpa using hi⟩
theorem qQ{b:Nat}{o:Nat}:bK (some ⟨h.length,o,none⟩) b↔b=h.length:=
 ⟨λ⟨ad,e,hb⟩=>by injection e with e;subst e;exact hb.symm,λe=>⟨_,rfl,e.symm⟩⟩
theorem bQ.wr{base t:Nat}{h:AH}{a:Option Addr}{vs:List Value}(x:bQ base t h a vs){i:Nat}{new:List Value}(hi:i+new.length<=vs.length)(h0:0<new.length):
  ∃ ad h',a=some ad/\Am.wr base h ad.block (ad.off+i) new=some h'/\bQ base t h' a (setAt vs i new)/\KB (bK a) h h'/\h'.length=h.length:=by
 rcases x with ⟨_,h⟩|⟨ad,kk,h1,hb,h2,ht,h3,h4⟩
 ·subst h;simp only [List.length_nil] at hi;omega
 ·refine ⟨ad,h.set ad.block (some ⟨setAt kk.cs (ad.off+i) new,kk.ty⟩),h1,?_,?_,KB.set _ ⟨ad,h1,rfl⟩,by simp⟩
  ·unfold Am.wr
   rw [if_pos hb,h2]
   simp only [aJ]
   rw [if_pos (by omega)]
  ·have hl:(setAt vs i new).length=vs.length:=by simp [setAt];omega
   refine .inr ⟨ad,⟨setAt kk.cs (ad.off+i) new,kk.ty⟩,h1,hb,du (di h2),ht,?_,λj v hj=>?_⟩
   ·rw [hl];simp [setAt];omega
   ·simp only
    rw [cY hi] at hj
    rw [cY (by omega)]
    split at hj
    ·rename_i Eb
     rw [if_pos (by omega),show ad.off+j-(ad.off+i)=j-i from by omega]
     exact hj
    ·rename_i Bq
     rw [if_neg (by omega)]
     exact h4 j v hj
theorem bQ.app{base t sz bytes:Nat}{h:AH}{a:Option Addr}{dp:List Value}(x:bQ base t h a dp){n m:Nat}(hn:dp.length=n*sz)(jk:0<sz){new:List Value}{src:Option (List Value)}(hs:src=some new)(hb:base<=h.length)
  (h1:(n+m)*bytes<=140737488355328)(h2:n+m<=9223372036854775807)(hm:new.length=m*sz):
  ∃ a' h',Am.app base h t sz bytes a n src m=some (.slice a' (n+m) (n+m),h')/\bQ base t h' a' (dp++new)/\KB (bK a) h h'/\((m=0/\a'=a/\h'=h)\/(∀ b,bK a' b->b=h.length)):=by
 unfold Am.app
 by_cases h0:m=0
 ·subst h0
  have:new = []:=iL (by omega)
  subst this
  rw [if_pos rfl]
  exact ⟨a,h,rfl,by simpa using x,KB.refl _ _,.inl ⟨rfl,rfl,rfl⟩⟩
 ·rw [if_neg h0]
  subst hs
  simp only [aJ]
  unfold grow
  rw [if_pos ⟨h1,h2⟩]
  rcases x with ⟨rfl,ho⟩|⟨ad,kk,rfl,H6,hk,ht,h3,h4⟩
  ·subst ho
   have:n=0:=by
    rcases Nat.eq_zero_or_pos n with h|h
    ·exact h
    ·have:=Nat.mul_pos h jk;simp at hn;omega
   subst this
   simp only [if_true]
   refine ⟨some ⟨h.length,0,none⟩,h++[some ⟨new,t⟩],by simp,by simpa using bQ.new base t h new hb,KB.push _ _ _,.inr λb cy=>qQ.1 cy⟩
  ·simp only [hk,aJ]
   have e:(kk.cs.drop ad.off).take (n*sz)=dp:=by
    rw [<- hn]
    apply io
    intro i
    by_cases hi:i<dp.length
    ·rw [bJ hi,bZ,h4 i _ (bk hi),bk hi]
    ·rw [cE (by simp;omega),cE (by omega)]
   rw [if_pos ⟨H6,ht,by omega⟩,e]
   have hlen:(h.set ad.block none).length=h.length:=by simp
   refine ⟨_,_,rfl,?_,?_,.inr λb cy=>qQ.1 cy⟩
   ·have:=bQ.new base t (h.set ad.block none) (dp++new) (by rw [hlen];exact hb)
    rw [hlen] at this
    exact this
   ·exact KB.trans (KB.set (S:=bK (some ad)) none ⟨ad,rfl,rfl⟩) (KB.push bp _ _) (λ_ _ h=>h) (λ_ _ h=>h.elim)
def iv(k:IntKind)(zs:List Int):List Value:=zs.map (Value.int k)
theorem Wd{z:Int}(h:zs[i]? = some z):(iv k zs)[i]? = some (.int k z):=by simp [iv,h]
@[simp] theorem Y3(k:IntKind)(zs:List Int):(iv k zs).length=zs.length:=by simp [iv]
theorem t_(k:IntKind)(zs:List Int):(iv k zs).all leaf=true:=by
 rw [ik]
 intro v hv
 simp only [iv,dR] at hv
 obtain ⟨z,_,rfl⟩:=hv
 rfl
theorem lX(k:IntKind)(xs ys:List Int):iv k xs++iv k ys=iv k (xs++ys):=by simp [iv]
theorem Sl.int(x:Sl h a (iv k zs))(hi:i<zs.length):∃ ad,a=some ad/\(Am.cell h ad.block (ad.off+i)).bind (au k)=some zs[i]:=by
 obtain ⟨ad,h1,h2⟩:=x.cell (Wd (bk hi))
 exact ⟨ad,h1,by rw [h2];simp [au]⟩
theorem We(W:World):(h0 W).length=W.heap.size:=by simp [h0]
theorem pt{W:World}{x:Addr}(h:W.cell? x=some v):∃ cs t fr,W.heap[x.block]? = some (.cells cs t fr)/\x.spot=none/\cs[x.off]? = some v:=by
 unfold World.cell? at h
 split at h
 ·rename_i cs t fr hb
  split at h
  ·cases h
  ·rename_i hs
   exact ⟨cs,t,fr,hb,by cases hq:x.spot with|none=>rfl|some _=>rw [hq] at hs;simp at hs,h⟩
 ·cases h
theorem Kf{W:World}{b:Nat}{cs:Array Value}{t:TypeId}{fr:Nat×Nat}(h:W.heap[b]? = some (.cells cs t fr)):bD (h0 W) b=some ⟨cs.toList.map (lW W.heap.size),t⟩:=by
 rw [rJ]
 simp only [h0,gD]
 have:W.heap.toList[b]? = some (.cells cs t fr):=by simpa using h
 rw [this]
 rfl
theorem Rj{W:World}{x:Addr}(hc:∀ (i:Nat) (v:Value),vs[i]? = some v->W.cell? (x.add i)=some v):Sl (h0 W) (some x) (vs.map (lW W.heap.size)):=by
 cases vs with
 | nil=>exact .inl rfl
 | cons v vs=>
  have h1:=hc 0 v rfl
  have e0:x.add 0=x:=rfl
  rw [e0] at h1
  obtain ⟨cs,t,fr,hb,hs,_⟩:=pt h1
  have each:∀ (i:Nat) (u:Value),(v :: vs)[i]? = some u->cs[x.off+i]? = some u:=by
   intro i u hu
   have h2:=hc i u hu
   have e:x.add i=⟨x.block,x.off+i,none⟩:=by
    obtain ⟨b,o,sp⟩:=x
    simp only at hs
    subst hs
    exact n_ b o i
   rw [e] at h2
   obtain ⟨fy,t',fr',cy,_,Pb⟩:=pt h2
   simp only at cy Pb
   rw [hb] at cy
   injection cy with cy
   injection cy with cy _ _
   subst cy
   exact Pb
  refine .inr ⟨x,_,rfl,Kf hb,?_,λi u hu=>?_⟩
  ·have aS:(v :: vs).length-1<(v :: vs).length:=by simp
   have:=each _ _ (bk aS)
   have:=(f_.1 this).1
   simp only [List.length_map,aag]
   simp at this ⊢
   omega
  ·simp only [gD] at hu ⊢
   cases hq:(v :: vs)[i]? with
   | none=>rw [hq] at hu;cases hu
   | some u'=>
    rw [hq] at hu
    have:=each i u' hq
    have:cs.toList[x.off+i]? = some u':=by simpa using this
    rw [this]
    exact hu
def Rk(k:IntKind)(w:World)(a:Option Addr)(len cap:Nat)(zs:List Int):Prop:=
 (a=none/\len=0/\cap=0/\zs = []) \/
 ∃ x,a=some x/\len<=cap/\cap<=maxLen/\zs.length=cap/\(∀ i,i<zs.length->w.cell? (x.add i)=some (.int k (zs.getD i 0)))/\∀ n∈zs,(Lit.int k n).wf=true
theorem aai(n:Nat)(k:IntKind)(m:Int):lW n (.int k m) = .int k m:=rfl
theorem Rk.open{W:World}{len cap:Nat}(h:Rk k W a len cap zs):
  tz W.heap.size (.slice a len cap)=true/\∃ a',lW W.heap.size (.slice a len cap) = .slice a' len len/\Sl (h0 W) a' (iv k (zs.take len))/\(zs.take len).length=len/\∀ n∈zs.take len,(Lit.int k n).wf=true:=by
 rcases h with ⟨rfl,rfl,rfl,rfl⟩|⟨x,rfl,hl,hm,hz,hc,hw⟩
 ·exact ⟨rfl,none,rfl,.inl rfl,rfl,λn hn=>by simp at hn⟩
 ·have hlen:(zs.take len).length=len:=by simp;omega
  by_cases h0:cap=0
  ·subst h0
   have:len=0:=by omega
   subst this
   exact ⟨rfl,none,rfl,.inl rfl,rfl,λn hn=>by simp at hn⟩
  ·have c0:=hc 0 (by omega)
   obtain ⟨cs,t,fr,hb,hs,_⟩:=pt (x:=x) c0
   have aS:x.block<W.heap.size:=(f_.1 hb).1
   have BL:bg cap 0=false:=by
    cases hq:bg cap 0 with
    | false=>rfl
    | true=>exact absurd (dk hq) h0
   have ht:tz W.heap.size (.slice (some x) len cap)=true:=by
    have h1:cx x.block W.heap.size=true:=by simpa [e_] using aS
    have h2:dC len cap=true:=Pc hl
    simp [tz,BL,hs,h1,h2]
   refine ⟨ht,some x,?_,?_,hlen,λn hn=>hw n (List.mem_of_mem_take hn)⟩
   ·unfold lW
    rw [ht]
    simp only [cond_true,told,BL,cond_false]
   ·have:=Rj (W:=W) (x:=x) (vs:=iv k (zs.take len)) (λi v hi=>by
     have jl:i<len:=by
      have:=(bY.1 hi).1
      simp at this
      omega
     have N8:i<zs.length:=by omega
     rw [hc i N8]
     simp only [iv,gD,bJ jl,bk N8,j8] at hi
     injection hi with hi
     rw [<- hi]
     simp [N8])
    have e:(iv k (zs.take len)).map (lW W.heap.size)=iv k (zs.take len):=by
     simp only [iv,List.map_map]
     rfl
    rw [e] at this
    exact this
def Rd(P:Program)(h:AH):Nat->Nat->List Value->Prop
 | 0,_,_=>False
 | f+1,t,cs=>match P.underlying t with
  | some .bool=>∃ b,cs = [.bool b]
  | some (.int k)=>∃ n,cs = [.int k n]/\(Lit.int k n).wf=true
  | some .string=>∃ s:ByteArray,cs = [.string s]/\s.size<=maxLen
  | some (.slice e)=>∃ a n vs,cs = [.slice a n n]/\n<=maxLen/\Sl h a vs/\vs.length=n*P.cellsOf e/\∀ i,i<n->Rd P h f e ((vs.drop (i*P.cellsOf e)).take (P.cellsOf e))
  | some (.struct fs)=>cs.length=P.cellsOf t/\∀ fd∈fs.toList,Rd P h f fd.type ((cs.drop fd.offset).take (P.cellsOf fd.type))
  | _=>False
def okS(P:Program)(S:List Nat):Bool:=S.all λt=>match P.underlying t with
 | some .bool=>true
 | some (.int _)=>true
 | some .string=>true
 | some (.slice e)=>S.contains e&&cx 0 (P.cellsOf e)
 | some (.struct fs)=>fs.toList.all (λf=>S.contains f.type)&&(dM (P.cellsOf t)).all λj=>fs.toList.any λf=>dC f.offset j&&cx j (f.offset+P.cellsOf f.type)
 | _=>false
theorem ke(a:Addr)(x y:Nat):(a.add x).add y=a.add (x+y):=by
 obtain ⟨b,o,s⟩:=a
 unfold Addr.add
 by_cases hx:x=0
 ·subst hx;simp
 ·by_cases hy:y=0
  ·subst hy;simp [hx]
  ·simp [hx,hy,Nat.add_assoc]
theorem mP{a:Addr}{l:List Value}(h:w.cells? base a n=some l):l.length=n/\∀ i,i<n->w.cell? (a.add i)=l[i]?:=by
 unfold World.cells? at h
 split at h
 ·have hl:=mapM_some_length h
  simp at hl
  refine ⟨hl,λi hi=>?_⟩
  have:=mapM_some_get h i i (by simp [hi])
  exact this
 ·cases h
section
variable {P:Program} {W:World} {H:Type} {enc:TypeId×Value->H} {S:List Nat}
theorem Pd(hS:okS P S=true):∀ (kX t:Nat) (cs:List Value) (x:DataW H×List MemPlace),t∈S->DataW.trod enc P W 0 (λ_=>true) true kX t cs=some x ->
  Rd P (h0 W) kX t (cs.map (lW W.heap.size))/\∀ c∈cs,tz W.heap.size c=true:=by
 intro kX
 induction kX with
 | zero=>intro t cs x _ h;simp [DataW.trod] at h
 | succ f ih=>
  intro t cs x ht h
  have g9:=ik.1 hS t ht
  have h0:=h
  unfold DataW.trod at h
  simp only [Rd]
  cases hu:P.underlying t with
  | none=>rw [hu] at g9;cases g9
  | some d=>
   rw [hu] at g9 h
   cases d<;>simp only at g9<;>first|(cases g9;done)|skip
   case bool=>
    split at h<;>first|(cases h;done)|skip
    all_goals (rename_i e1;first|(cases e1;done)|skip)
    exact ⟨⟨_,rfl⟩,λc hc=>by simp at hc;subst hc;rfl⟩
   case int k=>
    split at h<;>first|(cases h;done)|skip
    all_goals (rename_i e1;first|(cases e1;done)|skip)
    split at h
    ·rename_i hk
     injection e1 with e1
     injection e1 with e1
     subst e1
     obtain ⟨rfl,hw⟩:=hk
     exact ⟨⟨_,rfl,hw⟩,λc hc=>by simp at hc;subst hc;rfl⟩
    ·cases h
   case string=>
    split at h<;>first|(cases h;done)|skip
    all_goals (rename_i e1;first|(cases e1;done)|skip)
    split at h
    ·rename_i hk
     exact ⟨⟨_,rfl,hk⟩,λc hc=>by simp at hc;subst hc;rfl⟩
    ·cases h
   case slice e=>
    simp only [bz,e_] at g9
    obtain ⟨he,hc⟩:=g9
    have he:e∈S:=by simpa using he
    rcases DataW.trod_slice hu h0 with ⟨rfl,_⟩|⟨a,len,cap,als,rest,n,hn,rfl,_,_,hl,hm,hel,bD,JW,_⟩
    ·exact ⟨⟨none,0,[],rfl,by simp [maxLen],.inl rfl,by simp,λi hi=>by omega⟩,λc hc=>by simp at hc;subst hc;rfl⟩
    ·injection hn with hn
     subst hn
     by_cases JF:cap=0
     ·subst JF
      have:len=0:=by omega
      subst this
      exact ⟨⟨none,0,[],rfl,by simp [maxLen],.inl rfl,by simp,λi hi=>by omega⟩,λc hc=>by simp at hc;subst hc;rfl⟩
     ·have first:∃ u,W.cell? (a.add 0)=some u:=by
       by_cases hlen:len=0
       ·obtain ⟨Q7,wl⟩:=JW rfl
        have h1:=wl 0 (by omega)
        rw [hlen,cQ,yR,bk (by omega)] at h1
        cases xj:W.cells? 0 (a.add 0) (P.cellsOf e) with
        | none=>rw [xj] at h1;cases h1
        | some l=>
         obtain ⟨q1,q2⟩:=mP xj
         have:=q2 0 hc
         rw [ke] at this
         exact ⟨l[0],by rw [this,bk (by omega)]⟩
       ·have h1:=bD 0 (by omega)
        rw [yR,bk (by omega)] at h1
        cases xj:W.cells? 0 (a.add 0) (P.cellsOf e) with
        | none=>rw [xj] at h1;cases h1
        | some l=>
         obtain ⟨q1,q2⟩:=mP xj
         have:=q2 0 hc
         rw [ke] at this
         exact ⟨l[0],by rw [this,bk (by omega)]⟩
      obtain ⟨u0,hu0⟩:=first
      obtain ⟨cs0,t0,fr0,hb,hs,_⟩:=pt (x:=a) hu0
      have aS:a.block<W.heap.size:=(f_.1 hb).1
      have BL:bg cap 0=false:=by
       cases hq:bg cap 0 with
       | false=>rfl
       | true=>exact absurd (dk hq) JF
      have Rl:tz W.heap.size (.slice (some a) len cap)=true:=by
       have h1:cx a.block W.heap.size=true:=by simpa [e_] using aS
       have h2:dC len cap=true:=Pc hl
       simp [tz,BL,hs,h1,h2]
      have aaj:lW W.heap.size (.slice (some a) len cap) = .slice (some a) len len:=by
       unfold lW
       rw [Rl]
       simp only [cond_true,told,BL,cond_false]
      have each:∀ i,i<len->∃ l y,W.cells? 0 (a.add (i*P.cellsOf e)) (P.cellsOf e)=some l/\DataW.trod enc P W 0 (λ_=>true) true f e l=some y:=by
       intro i hi
       have h1:=bD i hi
       rw [bk (by omega)] at h1
       cases xj:W.cells? 0 (a.add (i*P.cellsOf e)) (P.cellsOf e) with
       | none=>rw [xj] at h1;cases h1
       | some l=>rw [xj] at h1;exact ⟨l,_,rfl,h1⟩
      let g:Nat->Value:=λj=>(W.cell? (a.add j)).getD undef
      have hg:∀ i r,i<len->r<P.cellsOf e->W.cell? (a.add (i*P.cellsOf e+r))=some (g (i*P.cellsOf e+r)):=by
       intro i r hi hr
       obtain ⟨l,y,h1,_⟩:=each i hi
       obtain ⟨q1,q2⟩:=mP h1
       have:=q2 r hr
       rw [ke,bk (by omega)] at this
       simp only [g,this,Option.getD_some]
      have ZF:∀ j,j<len*P.cellsOf e->W.cell? (a.add j)=some (g j):=by
       intro j hj
       have h1:j / P.cellsOf e<len:=Nat.div_lt_of_lt_mul (by rw [yS];exact hj)
       have h2:j % P.cellsOf e<P.cellsOf e:=Nat.mod_lt _ hc
       have h3:=hg _ _ h1 h2
       have h4:j / P.cellsOf e*P.cellsOf e+j % P.cellsOf e=j:=by rw [yS];exact Nat.div_add_mod j _
       rw [h4] at h3
       exact h3
      refine ⟨⟨some a,len,((dM (len*P.cellsOf e)).map g).map (lW W.heap.size),by rw [List.map_singleton,aaj],by omega,Rj (λi v hi=>?_),by simp,λi hi=>?_⟩,λc hc=>by simp at hc;subst hc;exact Rl⟩
      ·have jl:i<len*P.cellsOf e:=by
        have:=(bY.1 hi).1
        simpa using this
       simp [jl] at hi
       rw [ZF i jl,hi]
      ·obtain ⟨l,y,h1,h2⟩:=each i hi
       obtain ⟨q1,q2⟩:=mP h1
       have e1:(((dM (len*P.cellsOf e)).map g).drop (i*P.cellsOf e)).take (P.cellsOf e)=l:=by
        have hle:(i+1)*P.cellsOf e<=len*P.cellsOf e:=Nat.mul_le_mul_right _ (by omega)
        rw [Nat.add_mul,Nat.one_mul] at hle
        apply io
        intro r
        by_cases hr:r<P.cellsOf e
        ·rw [bJ hr,bZ,gD,List.getElem?_range (by omega)]
         simp only [j8]
         rw [<- q2 r hr,ke,hg i r hi hr]
        ·rw [cE (by simp;omega),cE (by omega)]
       rw [<- Pe,<- Pf,e1]
       exact (ih e l y he h2).1
   case struct fs=>
    simp only [bz] at g9
    obtain ⟨hf,ae8⟩:=g9
    obtain ⟨xs,n,hn,_,hlen,hxl,bD⟩:=DataW.trod_struct hu h0
    injection hn with hn
    subst hn
    have each:∀ fd∈fs.toList,∃ y,DataW.trod enc P W 0 (λ_=>true) true f fd.type ((cs.drop fd.offset).take (P.cellsOf fd.type))=some y/\fd.type∈S:=by
     intro fd Js
     obtain ⟨i,hi,rfl⟩:=gk.1 Js
     have lL:i<fs.size:=by simpa using hi
     have:=bD i fs[i] (Array.getElem?_eq_getElem lL)
     rw [bk (by omega)] at this
     have hm:=ik.1 hf _ Js
     exact ⟨_,by simpa using this,by simpa using hm⟩
    refine ⟨⟨by simpa using hlen,λfd Js=>?_⟩,λc hc=>?_⟩
    ·obtain ⟨y,h1,h2⟩:=each fd Js
     have:=(ih fd.type _ y h2 h1).1
     rw [Pf,Pe] at this
     exact this
    ·obtain ⟨j,hj,rfl⟩:=gk.1 hc
     have h1:=ik.1 ae8 j (by simp;omega)
     obtain ⟨fd,Js,h2⟩:=List.any_eq_true.1 h1
     simp only [bz,e_] at h2
     have h3:=iK h2.1
     obtain ⟨y,h4,h5⟩:=each fd Js
     refine (ih fd.type _ y h5 h4).2 cs[j] ?_
     have aS:j-fd.offset<P.cellsOf fd.type:=by omega
     have:((cs.drop fd.offset).take (P.cellsOf fd.type))[j-fd.offset]? = some cs[j]:=by
      rw [bJ aS,bZ,show fd.offset+(j-fd.offset)=j from by omega,bk hj]
     exact dX this
end
def ae9(n:Nat):Value->Value
 | .agg cs=>.agg (cs.toList.map (lW n)).toArray
 | v=>lW n v
theorem Kg(h:∀ c∈v.cells.toList,tz n c=true):VR P n tW n w (ae9 n v) v:=by
 cases v with
 | agg cs=>
  refine .agg _ _ (by simp) λi x y hx hy=>?_
  have hy':cs.toList[i]? = some y:=by simpa using hy
  have j6:x=lW n y:=by
   simp at hx
   obtain ⟨z,h1,h2⟩:=hx
   have kg:cs[i]? = some z:=h1
   have:cs[i]? = some y:=by simpa using hy
   rw [kg] at this
   injection this with this
   subst this
   exact h2.symm
  rw [j6]
  exact BJ (h y (by simp only [Value.cells];exact dX hy'))
 | _=>exact BJ (h _ (by simp [Value.cells]))
section
variable {P:Program} {h:AH} {f t:Nat} {cs:List Value}
theorem Rd.int(x:Rd P h f t cs)(hu:P.underlying t=some (.int k)):∃ n,cs = [.int k n]/\(Lit.int k n).wf=true:=by
 cases f with
 | zero=>exact x.elim
 | succ f=>simp only [Rd,hu] at x;exact x
theorem Rd.bool(x:Rd P h f t cs)(hu:P.underlying t=some .bool):∃ b,cs = [.bool b]:=by
 cases f with
 | zero=>exact x.elim
 | succ f=>simp only [Rd,hu] at x;exact x
theorem Rd.str(x:Rd P h f t cs)(hu:P.underlying t=some .string):∃ s:ByteArray,cs = [.string s]/\s.size<=maxLen:=by
 cases f with
 | zero=>exact x.elim
 | succ f=>simp only [Rd,hu] at x;exact x
theorem Rd.slice(x:Rd P h f t cs)(hu:P.underlying t=some (.slice e)):∃ g a n vs,cs = [.slice a n n]/\n<=maxLen/\Sl h a vs/\vs.length=n*P.cellsOf e/\∀ i,i<n->Rd P h g e ((vs.drop (i*P.cellsOf e)).take (P.cellsOf e)):=by
 cases f with
 | zero=>exact x.elim
 | succ f=>
  simp only [Rd,hu] at x
  obtain ⟨a,n,vs,h1⟩:=x
  exact ⟨f,a,n,vs,h1⟩
theorem Rd.struct{fs:Array Field}(x:Rd P h f t cs)(hu:P.underlying t=some (.struct fs)):cs.length=P.cellsOf t/\∃ g,∀ fd∈fs.toList,Rd P h g fd.type ((cs.drop fd.offset).take (P.cellsOf fd.type)):=by
 cases f with
 | zero=>exact x.elim
 | succ f=>
  simp only [Rd,hu] at x
  exact ⟨x.1,f,x.2⟩
theorem Rd.ints(x:Rd P h f t cs)(hu:P.underlying t=some (.slice e))(he:P.underlying e=some (.int k))(hc:P.cellsOf e=1):
  ∃ a zs,cs = [.slice a (ae zs) (ae zs)]/\zs.length<=maxLen/\Sl h a (iv k zs)/\∀ n∈zs,(Lit.int k n).wf=true:=by
 obtain ⟨g,a,n,vs,h1,h2,h3,h4,h5⟩:=x.slice hu
 rw [hc] at h4 h5
 simp only [Nat.mul_one] at h4 h5
 have each:∀ i,i<n->∃ z,vs[i]? = some (.int k z)/\(Lit.int k z).wf=true:=by
  intro i hi
  obtain ⟨z,h6,h7⟩:=(h5 i hi).int he
  have h8:((vs.drop i).take 1)[0]? = some (.int k z):=by rw [h6];rfl
  rw [bJ (by decide),bZ] at h8
  exact ⟨z,h8,h7⟩
 let z:Nat->Int:=λi=>if hi:i<n then (each i hi).choose else 0
 have hz:∀ i,i<n->vs[i]? = some (.int k (z i))/\(Lit.int k (z i)).wf=true:=by
  intro i hi
  simp only [z,hi,dite_true]
  exact (each i hi).choose_spec
 have e1:vs=iv k ((dM n).map z):=by
  apply io
  intro i
  by_cases hi:i<n
  ·rw [(hz i hi).1];simp [iv,hi]
  ·rw [cE (by omega),cE (by simp;omega)]
 refine ⟨a,(dM n).map z,by simpa using h1,by simpa using h2,e1 ▸ h3,λm hm=>?_⟩
 simp only [dR,List.mem_range] at hm
 obtain ⟨i,hi,rfl⟩:=hm
 exact (hz i hi).2
end
abbrev vI(n:Int):Value:=.int .i64 n
abbrev vL(a:Option Addr)(n:Nat):Value:=.slice a n n
abbrev vT(s:ByteArray):Value:=.string s
abbrev vP(b:Nat):Value:=.pointer (some ⟨b,0,none⟩)
abbrev vA(a:Addr):Value:=.pointer (some a)
section
variable {R:Type}
abbrev gI(x:Option Value)(f:Int->Option R):Option R:=(x.bind (au .i64)).bind f
abbrev gU(x:Option Value)(f:Int->Option R):Option R:=(x.bind (au .u8)).bind f
abbrev gL(x:Option Value)(f:Option Addr×Nat->Option R):Option R:=(x.bind aN).bind f
abbrev gT(x:Option Value)(f:ByteArray->Option R):Option R:=(x.bind aK).bind f
abbrev gB(x:Option Value)(f:Bool->Option R):Option R:=(x.bind aO).bind f
abbrev gP(x:Option Value)(f:Option Addr->Option R):Option R:=(x.bind OK).bind f
abbrev gA(x:Option Value)(f:Addr->Option R):Option R:=(x.bind HF).bind f
abbrev gG(x:Option Value)(n:Nat)(f:List Value->Option R):Option R:=(x.bind (ig n)).bind f
abbrev cR(h:AH)(t:Nat)(cs:List Value)(f:AH->Option R):Option R:=(some (h++[some ⟨cs,t⟩])).bind f
end
end Go.Proofs.YtkdenmdijdmnjaaGreat.Am
