/- Code, and calls.
Conditions: the tables tell the program's types; all orders are the program's. -/
import Derived.Test.YtkdenmdijdmnjaaMc
import Derived.LoopN
import Derived.ChangeArms
import Derived.OpenShut
set_option linter.unusedSimpArgs false
set_option linter.unusedVariables false
namespace Go.Proofs.Ytkdenmdijdmnjaa.Am
open Go Go.RowKit
def exitOf:Nat→Exit
 | 0=>.normal
 | 1=>.ret
 | n+2=>.exit n
theorem lay_keep {R:Type}:∀ {sh:Shape} {s:Slots} {c:Slots→Option R} {r:R},lay sh (keep sh s) c=some r→sh.length=s.length →
  ∃ s',c s'=some r∧s'.length=s.length∧∀ t v,sget s' t=some v→∃ x,sget s t=some x∧∀ P base φ n w u,VR P base φ n w x u→VR P base φ n w v u
 | [],s,c,r,h,hl=>by
  have:s = []:=List.eq_nil_of_length_eq_zero (by simpa using hl.symm)
  subst this
  exact ⟨[],h,rfl,fun t v ht=>by simp [sget] at ht⟩
 | k :: sh,s,c,r,h,hl=>by
  cases s with
  | nil=>simp at hl
  | cons x s=>
   have hl:sh.length=s.length:=by simpa using hl
   cases k with
   | none=>
    simp only [lay,keep,List.tail_cons] at h
    obtain ⟨s',h1,h2,h3⟩:=lay_keep h (by simpa using hl)
    refine ⟨none :: s',h1,by simp [h2],fun t v ht=>?_⟩
    cases t with
    | zero=>simp [sget] at ht
    | succ t=>exact h3 t v ht
   | some k=>
    simp only [lay,keep,List.tail_cons,sget] at h
    obtain ⟨y,z,hy,hc,hr⟩:=viewV_some h
    obtain ⟨s',h1,h2,h3⟩:=lay_keep hc (by simpa using hl)
    refine ⟨some z :: s',h1,by simp [h2],fun t v ht=>?_⟩
    cases t with
    | zero=>
     simp only [sget] at ht ⊢
     injection ht with ht
     subst ht
     exact ⟨y,hy,hr⟩
    | succ t=>exact h3 t v ht
theorem disp_some {R:Type} {n:Nat} {l:Slots} {h:AH} {c:Nat→Slots→AH→Option R} {r:R}:∀ {es:List (Nat×Shape)},disp es n l h c=some r→∃ sh,find es n=some sh∧lay sh l (fun s'=>c n s' h)=some r
 | [],hx=>by cases hx
 | (e,sh) :: es,hx=>by
  simp only [disp] at hx
  split at hx
  ·rename_i he
   subst he
   exact ⟨sh,by simp [find],hx⟩
  ·rename_i he
   obtain ⟨sh',h1,h2⟩:=disp_some hx
   refine ⟨sh',?_,h2⟩
   simp only [find]
   have:Nat.beq e n=false:=by
    cases hq:Nat.beq e n with
    | false=>rfl
    | true=>exact absurd (Nat.eq_of_beq_eq_true hq).symm he
   rw [this]
   exact h1
theorem keepK_some {s1:Shape} {es:List (Nat×Shape)} {e:Nat} {s:Slots} {h:AH} {p:Nat×Slots×AH} (hx:keepK s1 es e s h=some p):s.length=s1.length∧p.1=e∧p.2.2=h∧(e=0→p.2.1=keep s1 s)∧(e≠0→∃ sh,find es e=some sh∧sh.length=s.length∧p.2.1=keep sh s):=by
 unfold keepK at hx
 cases hb:Nat.beq s.length s1.length with
 | false=>rw [hb] at hx;cases hx
 | true=>
  rw [hb] at hx
  simp only [cond_true] at hx
  refine ⟨Nat.eq_of_beq_eq_true hb,?_⟩
  cases e with
  | zero=>
   simp only at hx
   injection hx with hx
   subst hx
   exact ⟨rfl,rfl,fun _=>rfl,fun h=>absurd rfl h⟩
  | succ e=>
   simp only at hx
   split at hx
   ·rename_i sh hsh
    cases hb2:Nat.beq s.length sh.length with
    | false=>rw [hb2] at hx;cases hx
    | true=>
     rw [hb2] at hx
     injection hx with hx
     subst hx
     exact ⟨rfl,rfl,fun h=>by (cases h),fun _=>⟨sh,hsh,(Nat.eq_of_beq_eq_true hb2).symm,rfl⟩⟩
   ·cases hx
theorem SR.retype {P:Program} {base:Nat} {φ:Nat→Nat×Nat} {n:Nat} {w:World} {s s':Slots} {a:Act} (h:SR P base φ n w s a) (hl:s'.length=s.length)
  (hr:∀ t v,sget s' t=some v→∃ x,sget s t=some x∧∀ P base φ n w u,VR P base φ n w x u→VR P base φ n w v u):SR P base φ n w s' a:=
 ⟨hl.trans h.len,fun t v ht=>by
  obtain ⟨x,hx,hv⟩:=hr t v ht
  exact hv _ _ _ _ _ _ (h.get t x hx),h.defers⟩
section
variable {E:Env} {w0:World} {rec:Rec}
theorem exCode_sound (hE:EnvOk E) (hrec:RecOk E w0 rec) (N:Nat):∀ (code:Code) (an:Ann) {R:Type} (c:Nat→Slots→AH→Option R) (r:R) (s:Slots) (h:AH) (a:Act) (w:World) (φ:Nat→Nat×Nat) (Q:Exit→Act→World→Prop),
  exCode E rec (loopF N) an code s h c=some r→SR E.P E.base φ h.length w s a→HR E.P E.base w0 φ h w →
  (∀ e s' h' φ' a' w',c e s' h'=some r→Ext φ h w φ' h' w'→HR E.P E.base w0 φ' h' w'→SR E.P E.base φ' h'.length w' s' a'→Q (exitOf e) a' w')→code.wp E.P Q a w:=by
 intro code
 induction code with
 | skip=>
  intro an R c r s h a w φ Q hx hs hh hQ
  cases an<;>exact wp_skip (hQ 0 s h φ a w hx (Ext.refl ..) hh hs)
 | region id ops d=>
  intro an R c r s h a w φ Q hx hs hh hQ
  cases d with
  | false=>
   have hx:exOps E rec ops.toList ops.toList s h (c 0)=some r:=by cases an<;>exact hx
   refine wp_region ?_
   have:=exOps_sound (Q:=Q) hE hrec ops (c 0) ops.toList s h a w φ hx hs hh fun s' h' φ' a' w' q1 q2 q3 q4=>hQ 0 s' h' φ' a' w' q1 q2 q3 q4
   rw [List.range_eq_range',← Array.length_toList,wpOps_eq_wpList ops.toList 0 (by simp)]
   exact this
  | true=>
   by_cases ht:∃ c1 o1 t1,an = .toss c1 o1 t1
   ·obtain ⟨c1,o1,t1,rfl⟩:=ht
    simp only [exCode] at hx
    cases hb:Nat.blt c1 s.length with
    | false=>rw [hb] at hx;cases hx
    | true=>
     rw [hb] at hx
     simp only [cond_true] at hx
     obtain ⟨ht,hx⟩:=gate_some hx
     obtain ⟨he,hx⟩:=gate_some hx
     exact toss_sound hE hrec ht (by rw [Nat.blt_eq] at hb;exact hb) (k:=c 0) (fun b=>by cases b with|true=>exact hx|false=>rw [← he];exact hx) hs hh fun s' h' φ' a' w' q1 q2 q3 q4=>hQ 0 s' h' φ' a' w' q1 q2 q3 q4
   have hx:cond (regOk (regOps an ops.toList) (befs [] (regOps an ops.toList)) 0 (regOps an ops.toList)) (exD E rec (regOps an ops.toList) (befs [] (regOps an ops.toList)) (regOps an ops.toList) 0 s h [] [] [] (c 0)) none=some r:=by cases an<;>first|exact hx|exact absurd ⟨_,_,_,rfl⟩ ht
   cases hok:regOk (regOps an ops.toList) (befs [] (regOps an ops.toList)) 0 (regOps an ops.toList) with
   | false=>rw [hok] at hx;cases hx
   | true=>
    rw [hok] at hx
    simp only [cond_true] at hx
    exact exD_sound hE hrec ops an hok hx hs hh fun s' h' φ' a' w' q1 q2 q3 q4=>hQ 0 s' h' φ' a' w' q1 q2 q3 q4
 | seq x y ihx ihy=>
  intro an R c r s h a w φ Q hx hs hh hQ
  cases an with
  | seq j p q=>
   cases j with
   | none=>
    simp only [exCode] at hx
    refine wp_seq (ihx p _ r s h a w φ _ hx hs hh fun e s' h' φ' a' w' q1 q2 q3 q4=>?_)
    match e,q1 with
    | 0,q1=>exact ihy q _ r s' h' a' w' φ' Q q1 q4 q3 fun e2 s2 h2 φ2 a2 w2 z1 z2 z3 z4=>hQ e2 s2 h2 φ2 a2 w2 z1 (q2.trans z2) z3 z4
    | 1,q1=>exact hQ 1 s' h' φ' a' w' q1 q2 q3 q4
    | e+2,q1=>exact hQ (e+2) s' h' φ' a' w' q1 q2 q3 q4
   | some sh=>
    simp only [exCode] at hx
    cases hp:exCode E rec (loopF N) p x s h (joinC sh c) with
    | none=>rw [hp] at hx;cases hx
    | some pr=>
     rw [hp] at hx
     simp only [Option.bind_some] at hx
     refine wp_seq (ihx p _ pr s h a w φ _ hp hs hh fun e s' h' φ' a' w' q1 q2 q3 q4=>?_)
     have exits:∀ e,(c (e+1) s' h').map Sum.inr=some pr→c (e+1) s' h'=some r:=by
      intro e he
      cases hc:c (e+1) s' h' with
      | none=>rw [hc] at he;cases he
      | some r'=>
       rw [hc] at he
       injection he with he
       subst he
       exact hx
     match e,q1 with
     | 0,q1=>
      simp only [joinC] at q1
      cases hb:Nat.beq s'.length sh.length with
      | false=>rw [hb] at q1;cases q1
      | true=>
       rw [hb] at q1
       injection q1 with q1
       subst q1
       obtain ⟨s2,z1,z2,z3⟩:=lay_keep (show lay sh (keep sh s') _=some r from hx) (Nat.eq_of_beq_eq_true hb).symm
       exact ihy q _ r s2 h' a' w' φ' Q z1 (q4.retype z2 z3) q3 fun e2 s2 h2 φ2 a2 w2 z1 z2 z3 z4=>hQ e2 s2 h2 φ2 a2 w2 z1 (q2.trans z2) z3 z4
     | 1,q1=>exact hQ 1 s' h' φ' a' w' (exits 0 q1) q2 q3 q4
     | e+2,q1=>exact hQ (e+2) s' h' φ' a' w' (exits (e+1) q1) q2 q3 q4
  | seqk ks p q=>
   simp only [exCode] at hx
   refine wp_seq (ihx p _ r s h a w φ _ hx hs hh fun e s' h' φ' a' w' q1 q2 q3 q4=>?_)
   match e,q1 with
   | 0,q1=>
    obtain ⟨g1,g2⟩:=HR.killS s' ks q3
    exact ihy q _ r s' _ a' w' φ' Q q1 (by rw [killS_len];exact q4) g1 fun e2 s2 h2 φ2 a2 w2 z1 z2 z3 z4=>hQ e2 s2 h2 φ2 a2 w2 z1 ((q2.trans g2).trans z2) z3 z4
   | 1,q1=>exact hQ 1 s' h' φ' a' w' q1 q2 q3 q4
   | e+2,q1=>exact hQ (e+2) s' h' φ' a' w' q1 q2 q3 q4
  | leaf=>simp only [exCode] at hx;cases hx
  | cond=>simp only [exCode] at hx;cases hx
  | block=>simp only [exCode] at hx;cases hx
  | loop=>simp only [exCode] at hx;cases hx
  | perm=>simp only [exCode] at hx;cases hx
  | toss=>simp only [exCode] at hx;cases hx
 | cond b x y ihx ihy=>
  intro an R c r s h a w φ Q hx hs hh hQ
  cases an with
  | cond p q=>
   simp only [exCode] at hx
   split at hx
   ·rename_i t hb
    have hv:=(ev_rel hs hb).bool_inv
    refine wp_cond hv ?_
    cases t with
    | true=>rw [if_pos rfl] at hx;exact ihx p c r s h a w φ Q hx hs hh hQ
    | false=>rw [if_neg (by decide)] at hx;exact ihy q c r s h a w φ Q hx hs hh hQ
   ·cases hx
  | leaf=>simp only [exCode] at hx;cases hx
  | seq=>simp only [exCode] at hx;cases hx
  | block=>simp only [exCode] at hx;cases hx
  | loop=>simp only [exCode] at hx;cases hx
  | perm=>simp only [exCode] at hx;cases hx
  | toss=>simp only [exCode] at hx;cases hx
  | seqk=>simp only [exCode] at hx;cases hx
 | block id x ih=>
  intro an R c r s h a w φ Q hx hs hh hQ
  cases an with
  | block p=>
   simp only [exCode] at hx
   refine wp_block (ih p _ r s h a w φ _ hx hs hh fun e s' h' φ' a' w' q1 q2 q3 q4=>?_)
   cases hb:Nat.beq e (id+2) with
   | true=>
    have:=Nat.eq_of_beq_eq_true hb
    subst this
    rw [hb] at q1
    simp only [exitOf,Exit.inBlock,if_true]
    exact hQ 0 s' h' φ' a' w' q1 q2 q3 q4
   | false=>
    rw [hb] at q1
    simp only [cond_false] at q1
    match e,q1,hb with
    | 0,q1,_=>exact hQ 0 s' h' φ' a' w' q1 q2 q3 q4
    | 1,q1,_=>exact hQ 1 s' h' φ' a' w' q1 q2 q3 q4
    | e+2,q1,hb=>
     have hne:e≠id:=fun he=>by
      rw [he,Nat.beq_refl] at hb;cases hb
     simp only [exitOf,Exit.inBlock,if_neg hne]
     exact hQ (e+2) s' h' φ' a' w' q1 q2 q3 q4
  | leaf=>simp only [exCode] at hx;cases hx
  | seq=>simp only [exCode] at hx;cases hx
  | cond=>simp only [exCode] at hx;cases hx
  | loop=>simp only [exCode] at hx;cases hx
  | perm=>simp only [exCode] at hx;cases hx
  | toss=>simp only [exCode] at hx;cases hx
  | seqk=>simp only [exCode] at hx;cases hx
 | loop x ih=>
  intro an R c r s h a w φ Q hx hs hh hQ
  cases an with
  | loop s1 es p=>
   simp only [exCode] at hx
   cases hb:Nat.beq s.length s1.length with
   | false=>rw [hb] at hx;cases hx
   | true=>
    rw [hb] at hx
    simp only [cond_true] at hx
    have hl1:=Nat.eq_of_beq_eq_true hb
    generalize hbody:(fun (l:Slots) (h:AH)=>lay s1 l fun s'=>exCode E rec (loopF N) p x s' h (keepK s1 es))=body at hx
    cases hp:loopF N body (keep s1 s) h with
    | none=>rw [hp] at hx;cases hx
    | some pr=>
     rw [hp] at hx
     simp only [Option.bind_some] at hx
     obtain ⟨shx,hfx,hlx⟩:=disp_some hx
     have rounds:∀ n s' h' φ' a' w',loopF n body (keep s1 s') h'=some pr→s'.length=s1.length→Ext φ h w φ' h' w'→HR E.P E.base w0 φ' h' w'→SR E.P E.base φ' h'.length w' s' a'→Code.rounds E.P x Q n a' w':=by
      intro n
      induction n with
      | zero=>intro s' h' φ' a' w' hl;cases hl
      | succ n ihn=>
       intro s' h' φ' a' w' hlp hl q2 q3 q4
       simp only [loopF] at hlp
       cases hb1:body (keep s1 s') h' with
       | none=>rw [hb1] at hlp;cases hlp
       | some p1=>
        rw [hb1] at hlp
        simp only [Option.bind_some] at hlp
        have hb2:=hb1
        rw [← hbody] at hb2
        obtain ⟨s3,z1,z2,z3⟩:=lay_keep hb2 (by omega)
        refine ih p _ p1 s3 h' a' w' φ' _ z1 (q4.retype z2 z3) q3 fun e s4 h4 φ4 a4 w4 y1 y2 y3 y4=>?_
        obtain ⟨k1,k2,k3,k4,k5⟩:=keepK_some y1
        obtain ⟨p11,p12,p13⟩:=p1
        simp only at k2 k3 k4 k5 hlp
        subst k2;subst k3
        have leave:p11≠0→Q (exitOf p11) a4 w4:=by
         intro hne
         rw [if_neg hne] at hlp
         injection hlp with hlp
         subst hlp
         obtain ⟨sh,f1,f2,f3⟩:=k5 hne
         simp only at hfx hlx
         rw [f1] at hfx
         injection hfx with hfx
         subst hfx
         rw [f3] at hlx
         obtain ⟨s5,g1,g2,g3⟩:=lay_keep hlx f2
         exact hQ _ s5 _ φ4 a4 w4 g1 (q2.trans y2) y3 (y4.retype g2 g3)
        match p11,hlp,leave,k4 with
        | 0,hlp,_,k4=>
         rw [if_pos rfl,k4 rfl] at hlp
         exact ihn s4 p13 φ4 a4 w4 hlp k1 (q2.trans y2) y3 y4
        | 1,_,leave,_=>exact leave (by decide)
        | e+2,_,leave,_=>exact leave (by omega)
     exact wp_loop_rounds N (rounds N s h φ a w hp hl1 (Ext.refl ..) hh hs)
  | leaf=>simp only [exCode] at hx;cases hx
  | seq=>simp only [exCode] at hx;cases hx
  | cond=>simp only [exCode] at hx;cases hx
  | block=>simp only [exCode] at hx;cases hx
  | perm=>simp only [exCode] at hx;cases hx
  | toss=>simp only [exCode] at hx;cases hx
  | seqk=>simp only [exCode] at hx;cases hx
 | exit id=>
  intro an R c r s h a w φ Q hx hs hh hQ
  have hx:c (id+2) s h=some r:=by cases an<;>exact hx
  exact wp_exit (hQ (id+2) s h φ a w hx (Ext.refl ..) hh hs)
 | ret=>
  intro an R c r s h a w φ Q hx hs hh hQ
  have hx:c 1 s h=some r:=by cases an<;>exact hx
  exact wp_ret (hQ 1 s h φ a w hx (Ext.refl ..) hh hs)
 | _=>
  intro an R c r s h a w φ Q hx hs hh hQ
  cases an<;>(simp only [exCode] at hx;cases hx)
def resOf (tmps:Array Value):ResultVar→Sem Value
 | .tmp t=>pure (tmps.getD t undef)
 | .cell q t=>do loadVar t (← asAddr (tmps.getD q undef))
theorem exResults_sound (hE:EnvOk E) {h:AH} {s:Slots} {a:Act} {w:World} {φ:Nat→Nat×Nat} (hs:SR E.P E.base φ h.length w s a) (hh:HR E.P E.base w0 φ h w):∀ (rs:List ResultVar) (c:List Value→Option (Value×AH)) (r:Value×AH),exResults E s h rs c=some r →
  ∃ (vs us:List Value),c vs=some r∧vs.length=us.length∧(∀ (i:Nat) (x y:Value),vs[i]? = some x→us[i]? = some y→VR E.P E.base φ h.length w x y) ∧
   (rs.mapM (resOf a.tmps)).run E.P w = .ok us w
 | [],c,r,hx=>⟨[],[],hx,rfl,fun i x y h _=>by simp at h,by simp⟩
 | .tmp t :: rs,c,r,hx=>by
  simp only [exResults] at hx
  split at hx
  ·rename_i v hv
   obtain ⟨vs,us,h1,h2,h3,h4⟩:=exResults_sound hE hs hh rs _ r hx
   refine ⟨v :: vs,a.tmps.getD t undef :: us,h1,by simp [h2],fun i x y hx hy=>?_,?_⟩
   ·cases i with
    | zero=>simp at hx hy;subst hx;subst hy;have:=hs.get t v hv;simpa using this
    | succ i=>exact h3 i x y hx hy
   ·simp only [List.mapM_cons,resOf,Sem.run_bind,Sem.run_pure,Result.andThen_ok,h4]
  ·cases hx
 | .cell q t :: rs,c,r,hx=>by
  simp only [exResults] at hx
  split at hx
  ·rename_i ad hv
   obtain ⟨v,u,hc,hr,hrun⟩:=load_sound hE hh hx
   obtain ⟨vs,us,h1,h2,h3,h4⟩:=exResults_sound hE hs hh rs _ r hc
   obtain ⟨_,_,e⟩:=(hs.get q _ hv).ptr_inv
   refine ⟨v :: vs,u :: us,h1,by simp [h2],fun i x y hx hy=>?_,?_⟩
   ·cases i with
    | zero=>simp at hx hy;subst hx;subst hy;exact hr
    | succ i=>exact h3 i x y hx hy
   ·have e2:asAddr (a.tmps.getD q undef)=pure ⟨(φ ad.block).1,(φ ad.block).2+ad.off,none⟩:=by rw [e];rfl
    simp only [List.mapM_cons,resOf,Sem.run_bind,Sem.run_pure,Result.andThen_ok,e2,hrun,h4]
  ·cases hx
theorem exFun_sound (hE:EnvOk E) (hrec:RecOk E w0 rec) (N:Nat) {f:Nat} {fn:Func} {an:Ann} (hf:E.P.funcs[f]? = some fn) {args:List Value} {h h':AH} {v:Value} (hx:exFun E rec (loopF N) an fn args h=some (v,h')) {φ:Nat→Nat×Nat} {w:World} {args':List Value}
  (hh:HR E.P E.base w0 φ h w) (hl:args.length=args'.length) (hr:∀ (i:Nat) (x y:Value),args[i]? = some x→args'[i]? = some y→VR E.P E.base φ h.length w x y) :
  Calls E.P f args'.toArray w fun e w'=>∃ u φ',e = .returned u∧Ext φ h w φ' h' w'∧HR E.P E.base w0 φ' h' w'∧VR E.P E.base φ' h'.length w' v u:=by
 unfold exFun at hx
 cases hb:fn.body with
 | none=>rw [hb] at hx;cases hx
 | some b=>
  rw [hb] at hx
  simp only at hx
  refine calls_of_wp hf hb (exCode_sound hE hrec N b an _ _ _ h _ w φ _ hx ?_ hh ?_)
  ·refine ⟨by simp [hl],fun t x ht=>?_,rfl⟩
   have sg:∀ (s:Slots) (t:Nat),sget s t=s[t]?.join:=by
    intro s
    induction s with
    | nil=>intro t;rfl
    | cons x r ih=>
     intro t
     cases t with
     | zero=>simp [sget]
     | succ t=>simp only [sget,List.getElem?_cons_succ];exact ih t
   rw [sg] at ht
   by_cases hlt:t<args.length
   ·rw [List.getElem?_append_left (by simpa using hlt)] at ht
    simp only [List.getElem?_map,List.getElem?_eq_getElem hlt,Option.map_some,Option.join_some] at ht
    injection ht with ht
    have hlt':t<args'.length:=by omega
    have:=hr t args[t] args'[t] (List.getElem?_eq_getElem hlt) (List.getElem?_eq_getElem hlt')
    rw [ht] at this
    simp [Array.getElem?_append_left,hlt']
    exact this
   ·rw [List.getElem?_append_right (by simpa using hlt)] at ht
    rw [List.getElem?_replicate] at ht
    split at ht<;>simp at ht
  ·intro e s' h2 φ' a' w' hc q2 q3 q4
   split at hc
   ·rename_i he
    obtain ⟨vs,us,h1,hlen,h3,h4⟩:=exResults_sound hE q4 q3 _ _ _ hc
    injection h1 with h1
    injection h1 with h5 h6
    subst h6
    have hres:(results fn a'.tmps).run E.P w' = .ok (if h:us.length=1 then us[0] else .tuple us.toArray) w':=by
     have hre:results fn a'.tmps=(do
       let vs ← fn.results.mapM (resOf a'.tmps)
       pure (if h:vs.size=1 then vs[0] else .tuple vs)):=by
      unfold results
      congr
     rw [hre]
     simp only [Array.mapM_eq_mapM_toList,Sem.run_bind]
     rw [Sem.run_map,h4]
     simp
    have hv:VR E.P E.base φ' h2.length w' v (if h:us.length=1 then us[0] else .tuple us.toArray):=by
     rw [← h5]
     by_cases h1:us.length=1
     ·rw [dif_pos h1]
      match vs,hlen.trans h1,h3 with
      | [x],_,h3=>exact h3 0 x us[0] rfl (List.getElem?_eq_getElem (by omega))
     ·rw [dif_neg h1]
      have:mkRes vs = .tuple vs.toArray:=by
       match vs,hlen with
       | [],_=>rfl
       | [x],hlen=>exact absurd hlen.symm h1
       | _ :: _ :: _,_=>rfl
      rw [this]
      exact .tup _ _ (by simp [hlen]) fun i x y hx hy=>h3 i x y (by simpa using hx) (by simpa using hy)
    match e,he with
    | 0,_=>exact ⟨q4.defers,_,hres,_,φ',rfl,q2,q3,hv⟩
    | 1,_=>exact ⟨q4.defers,_,hres,_,φ',rfl,q2,q3,hv⟩
   ·cases hc
end
theorem exCall_sound {E:Env} (hE:EnvOk E) (w0:World):∀ k,RecOk E w0 (exCall E k)
 | 0=>fun f args h v h' hx=>by cases hx
 | k+1=>fun f args h v h' hx φ w args' hh hl hr=>by
  simp only [exCall] at hx
  split at hx
  ·rename_i fn an hf han
   exact exFun_sound hE (exCall_sound hE w0 k) k hf hx hh hl hr
  ·cases hx
end Go.Proofs.Ytkdenmdijdmnjaa.Am
set_option linter.unusedSimpArgs false
set_option linter.unusedVariables false
namespace Go.Proofs.Ytkdenmdijdmnjaa.Am
open Go Go.RowKit
def Ev (p:Nat→Prop):Prop:=∃ k0,∀ k,k0≤k→p k
theorem Ev.of {p:Nat→Prop} (h:∀ k,p k):Ev p:=⟨0,fun k _=>h k⟩
theorem Ev.mono {p q:Nat→Prop} (h:Ev p) (hpq:∀ k,p k→q k):Ev q:=let ⟨k0,hk⟩:=h;⟨k0,fun k hh=>hpq k (hk k hh)⟩
theorem Ev.and {p q:Nat→Prop} (h:Ev p) (g:Ev q):Ev fun k=>p k∧q k:=
 let ⟨a,ha⟩:=h;let ⟨b,hb⟩:=g;⟨max a b,fun k hk=>⟨ha k (by omega),hb k (by omega)⟩⟩
theorem Ev.one {p:Nat→Prop} (h:Ev p):∃ k,p k:=let ⟨k0,hk⟩:=h;⟨k0,hk k0 (Nat.le_refl _)⟩
open Classical in
noncomputable def run (E:Env):Rec:=fun f args h=>if hx:∃ r,Ev fun k=>exCall E k f args h=some r then some hx.choose else none
open Classical in
noncomputable def loopL:Body→Body:=fun b s h=>if hx:∃ r,Ev fun k=>loopF k b s h=some r then some hx.choose else none
theorem run_iff {E:Env} {f:Nat} {args:List Value} {h:AH} {r:Value×AH}:run E f args h=some r↔Ev fun k=>exCall E k f args h=some r:=by
 unfold run
 split
 ·rename_i hx
  constructor
  ·intro he
   injection he with he
   have:=hx.choose_spec
   rw [he] at this
   exact this
  ·intro he
   obtain ⟨k,h1,h2⟩:=(he.and hx.choose_spec).one
   rw [h1] at h2
   exact h2.symm
 ·rename_i hx
  exact ⟨fun he=>by (cases he),fun he=>absurd ⟨r,he⟩ hx⟩
theorem loopL_iff {b:Body} {s:Slots} {h:AH} {r:Nat×Slots×AH}:loopL b s h=some r↔Ev fun k=>loopF k b s h=some r:=by
 unfold loopL
 split
 ·rename_i hx
  constructor
  ·intro he
   injection he with he
   have:=hx.choose_spec
   rw [he] at this
   exact this
  ·intro he
   obtain ⟨k,h1,h2⟩:=(he.and hx.choose_spec).one
   rw [h1] at h2
   exact h2.symm
 ·rename_i hx
  exact ⟨fun he=>by (cases he),fun he=>absurd ⟨r,he⟩ hx⟩
theorem loopF_succ {b:Body}:∀ (n:Nat) (s:Slots) (h:AH) (r:Nat×Slots×AH),loopF n b s h=some r→loopF (n+1) b s h=some r
 | 0,_,_,_,h=>by cases h
 | n+1,s,h,r,hx=>by
  simp only [loopF] at hx
  rw [loopF]
  cases hb:b s h with
  | none=>rw [hb] at hx;cases hx
  | some p=>
   rw [hb] at hx
   simp only [Option.bind_some] at hx ⊢
   by_cases hp:p.1=0
   ·rw [if_pos hp] at hx ⊢;exact loopF_succ n _ _ _ hx
   ·rw [if_neg hp] at hx ⊢;exact hx
theorem loopF_le {b:Body} {n m:Nat} (hnm:n≤m) {s:Slots} {h:AH} {r:Nat×Slots×AH} (hx:loopF n b s h=some r):loopF m b s h=some r:=by
 induction hnm with
 | refl=>exact hx
 | step _ ih=>exact loopF_succ _ _ _ _ ih
theorem loopL_of {b:Body} {n:Nat} {s:Slots} {h:AH} {r:Nat×Slots×AH} (hx:loopF n b s h=some r):loopL b s h=some r:=loopL_iff.2 ⟨n,fun _ hk=>loopF_le hk hx⟩
theorem loopL_eq (b:Body) (s:Slots) (h:AH):loopL b s h=(b s h).bind fun p=>if p.1=0 then loopL b p.2.1 p.2.2 else some p:=by
 apply Option.ext
 intro r
 rw [show (loopL b s h=some r↔_) from loopL_iff]
 constructor
 ·intro hx
  obtain ⟨k0,hk⟩:=hx
  have h1:=hk (k0+1) (by omega)
  simp only [loopF] at h1
  cases hb:b s h with
  | none=>rw [hb] at h1;cases h1
  | some p=>
   rw [hb] at h1
   simp only [Option.bind_some] at h1 ⊢
   by_cases hp:p.1=0
   ·rw [if_pos hp] at h1 ⊢;exact loopL_of h1
   ·rw [if_neg hp] at h1 ⊢;exact h1
 ·intro hx
  cases hb:b s h with
  | none=>rw [hb] at hx;cases hx
  | some p=>
   rw [hb] at hx
   simp only [Option.bind_some] at hx
   by_cases hp:p.1=0
   ·rw [if_pos hp] at hx
    obtain ⟨k0,hk⟩:=loopL_iff.1 hx
    refine ⟨k0+1,fun k hkk=>?_⟩
    obtain ⟨k',rfl⟩:∃ k',k=k'+1:=⟨k-1,by omega⟩
    simp only [loopF,hb,Option.bind_some]
    rw [if_pos hp]
    exact hk k' (by omega)
   ·rw [if_neg hp] at hx
    refine ⟨1,fun k hkk=>?_⟩
    obtain ⟨k',rfl⟩:∃ k',k=k'+1:=⟨k-1,by omega⟩
    simp only [loopF,hb,Option.bind_some]
    rw [if_neg hp]
    exact hx
section
variable {R:Type} {E:Env}
theorem exOp_ev {o:Op} {s:Slots} {h:AH} {c:Value→AH→Option R} {ck:Nat→Value→AH→Option R} {r:R} (hx:exOp E (run E) o s h c=some r) (hc:∀ v h',c v h'=some r→Ev fun k=>ck k v h'=some r) :
  Ev fun k=>exOp E (exCall E k) o s h (ck k)=some r:=by
 obtain ⟨v,h',h1,h2⟩:=exOp_pair hx
 have key:Ev fun k=>exOp E (exCall E k) o s h pair=some (v,h'):=by
  by_cases hcall:∃ cc,o = .call cc
  ·obtain ⟨cc,rfl⟩:=hcall
   obtain ⟨callee,xs,ts⟩:=cc
   simp only [exOp] at h1 ⊢
   cases he:evs s xs.toList with
   | none=>rw [he] at h1;cases h1
   | some vs=>
    rw [he] at h1
    simp only at h1 ⊢
    cases callee with
    | builtin b=>exact Ev.of fun k=>h1
    | invoke _ _=>cases h1
    | value f=>
     simp only at h1 ⊢
     split at h1
     ·rename_i g p q hf
      cases hg:E.fn g with
      | none=>
       rw [hg] at h1
       simp only at h1 ⊢
       exact .of fun _=>h1
      | some rs=>
       rw [hg] at h1
       simp only at h1 ⊢
       cases hr:run E g (p.toList++vs++q.toList) h with
       | none=>rw [hr] at h1;cases h1
       | some pr=>
        rw [hr] at h1
        refine (run_iff.1 hr).mono fun k hk=>?_
        rw [hk]
        exact h1
     ·cases h1
  ·refine Ev.of fun k=>?_
   rw [← h1]
   cases o<;>first|rfl|exact absurd ⟨_,rfl⟩ hcall|(rename_i mx;cases mx<;>rfl)
 refine (key.and (hc v h' h2)).mono fun k hk=>?_
 rw [exOp_nat,show (exOp E (exCall E k) o s h fun v h=>some (v,h))=some (v,h') from hk.1]
 exact hk.2
theorem exO_ev {o:Oper} {s:Slots} {h:AH} {c:Value→AH→Option R} {ck:Nat→Value→AH→Option R} {r:R} (hx:exO E (run E) o s h c=some r) (hc:∀ v h',c v h'=some r→Ev fun k=>ck k v h'=some r) :
  Ev fun k=>exO E (exCall E k) o s h (ck k)=some r:=by
 unfold exO at hx
 split at hx
 ·rename_i ht
  have e:∀ k,exO E (exCall E k) o s h (ck k)=exOp E (exCall E k) o.op s h (ck k):=fun k=>by unfold exO;rw [ht]
  simp only [e]
  exact exOp_ev hx hc
 ·rename_i t xs ht
  split at hx
  ·rename_i fn p q vs rs hf hev hrs
   have e:∀ k,exO E (exCall E k) o s h (ck k)=(callU E (exCall E k) fn (p.toList++vs++q.toList) h).bind fun r=>viewRes rs r.1 fun v=>ck k v r.2:=fun k=>by unfold exO;rw [ht];simp only [hf,hev,hrs]
   simp only [e]
   cases hr:callU E (run E) fn (p.toList++vs++q.toList) h with
   | none=>rw [hr] at hx;cases hx
   | some res=>
    rw [hr] at hx
    simp only [Option.bind_some] at hx
    rw [viewRes_nat] at hx
    cases hv:viewRes rs res.1 some with
    | none=>rw [hv] at hx;cases hx
    | some y=>
     rw [hv] at hx
     simp only [Option.bind_some] at hx
     have key:Ev fun k=>callU E (exCall E k) fn (p.toList++vs++q.toList) h=some res:=by
      unfold callU at hr
      split at hr
      ·rename_i g
       split at hr
       ·rename_i rs2 hg
        cases hr2:run E g (p.toList++vs++q.toList) h with
        | none=>rw [hr2] at hr;cases hr
        | some pr=>
         rw [hr2] at hr
         refine (run_iff.1 hr2).mono fun k hk=>?_
         unfold callU
         simp only [hg]
         rw [hk]
         exact hr
       ·cases hr
      ·cases hr
     refine (key.and (hc _ _ hx)).mono fun k hk=>?_
     rw [hk.1]
     simp only [Option.bind_some]
     rw [viewRes_nat,hv]
     exact hk.2
  ·cases hx
theorem guarded_ev {ops:List Oper} {o:Oper} {s:Slots} {yes no:Slots→Option R} {yk nk:Nat→Slots→Option R} {r:R} (hx:guarded ops o s yes no=some r) (hy:∀ s,yes s=some r→Ev fun k=>yk k s=some r) (hn:∀ s,no s=some r→Ev fun k=>nk k s=some r) :
  Ev fun k=>guarded ops o s (yk k) (nk k)=some r:=by
 unfold guarded at hx ⊢
 cases hg:o.guard with
 | none=>rw [hg] at hx;exact hy s hx
 | some p=>
  obtain ⟨j,want⟩:=p
  rw [hg] at hx
  simp only at hx ⊢
  cases hd:(ops[j]?).bind (·.dst) with
  | none=>rw [hd] at hx;cases hx
  | some d=>
   rw [hd] at hx
   simp only at hx ⊢
   split at hx
   ·rename_i b hb
    cases b with
    | true=>
     rw [if_pos rfl] at hx
     cases want with
     | true=>exact (hy _ hx).mono fun k hk=>by rw [if_pos rfl];exact hk
     | false=>exact (hn _ hx).mono fun k hk=>by rw [if_pos rfl];exact hk
    | false=>
     rw [if_neg (by decide)] at hx
     cases want with
     | true=>exact (hn _ hx).mono fun k hk=>by rw [if_neg (by decide)];exact hk
     | false=>exact (hy _ hx).mono fun k hk=>by rw [if_neg (by decide)];exact hk
   ·exact hn s hx
   ·cases hx
theorem exOps_ev {ops:List Oper} {c:Slots→AH→Option R} {ck:Nat→Slots→AH→Option R} {r:R} (hc:∀ s h',c s h'=some r→Ev fun k=>ck k s h'=some r):∀ (l:List Oper) (s:Slots) (h:AH),
  exOps E (run E) ops l s h c=some r→Ev fun k=>exOps E (exCall E k) ops l s h (ck k)=some r
 | [],s,h,hx=>hc s h hx
 | o :: l,s,h,hx=>by
  simp only [exOps] at hx ⊢
  refine guarded_ev hx (fun s' hy=>?_) (fun s' hn=>exOps_ev hc l _ _ hn)
  exact exO_ev hy fun v h' hv=>exOps_ev hc l _ _ hv
theorem gatesA_swap {bj:Nat} {b:Option Addr} {x x':Option R} {r r':R} (hx':x'=some r'):∀ {l:List (Nat×Nat)},gatesA bj b l x=some r→gatesA bj b l x'=some r'
 | [],h=>hx'
 | (k,nm) :: l,h=>by
  simp only [gatesA] at h ⊢
  cases hb:bj.testBit k with
  | true=>rw [hb] at h;exact gatesA_swap hx' h
  | false=>
   rw [hb] at h
   obtain ⟨hp,h⟩:=gate_some h
   simp only [cond_false]
   unfold gate
   rw [if_pos hp]
   exact gatesA_swap hx' h
theorem gatesH_swap {bj n:Nat} {b:Option Addr} {h0:AH} {x x':Option R} {r r':R} (hx':x'=some r'):∀ {l:List (Nat×AH)},gatesH bj h0 b n l x=some r→gatesH bj h0 b n l x'=some r'
 | [],h=>hx'
 | (k,nm) :: l,h=>by
  simp only [gatesH] at h ⊢
  cases hb:bj.testBit k with
  | true=>rw [hb] at h;exact gatesH_swap hx' h
  | false=>
   rw [hb] at h
   obtain ⟨hp,h⟩:=gate_some h
   simp only [cond_false]
   unfold gate
   rw [if_pos hp]
   exact gatesH_swap hx' h
theorem gatesP_swap {bj:Nat} {h0 h1:AH} {x x':Option R} {r r':R} (hx':x'=some r'):∀ {l:List (Nat×Option Addr×Nat)},gatesP bj h0 h1 l x=some r→gatesP bj h0 h1 l x'=some r'
 | [],h=>hx'
 | (i,b,n) :: l,h=>by
  simp only [gatesP] at h ⊢
  cases hb:bj.testBit i with
  | true=>rw [hb] at h;exact gatesP_swap hx' h
  | false=>
   rw [hb] at h
   obtain ⟨hp,h⟩:=gate_some h
   simp only [cond_false]
   unfold gate
   rw [if_pos hp]
   exact gatesP_swap hx' h
theorem gatesF_swap {bj nm:Nat} {x x':Option R} {r r':R} (hx':x'=some r'):∀ {l:List (Nat×Option Addr×Nat)},gatesF bj nm l x=some r→gatesF bj nm l x'=some r'
 | [],h=>hx'
 | (i,b,n) :: l,h=>by
  simp only [gatesF] at h ⊢
  cases hb:bj.testBit i with
  | true=>rw [hb] at h;exact gatesF_swap hx' h
  | false=>
   rw [hb] at h
   obtain ⟨hp,h⟩:=gate_some h
   simp only [cond_false]
   unfold gate
   rw [if_pos hp]
   exact gatesF_swap hx' h
theorem exD_ev {ops:List Oper} {bf:List Nat} {c:Slots→AH→Option R} {ck:Nat→Slots→AH→Option R} {r:R} (hc:∀ s h',c s h'=some r→Ev fun k=>ck k s h'=some r):∀ (l:List Oper) (i:Nat) (s:Slots) (h:AH) (hi:List (Nat×AH)) (pe:List (Nat×Option Addr×Nat)) (an:List (Nat×Nat)),
  exD E (run E) ops bf l i s h hi pe an c=some r→Ev fun k=>exD E (exCall E k) ops bf l i s h hi pe an (ck k)=some r
 | [],i,s,h,hi,pe,an,hx=>hc s h hx
 | o :: l,i,s,h,hi,pe,an,hx=>by
  simp only [exD] at hx ⊢
  refine guarded_ev hx (fun s' hy=>?_) (fun s' hn=>exD_ev hc l _ _ _ _ _ _ hn)
  cases hcl:cl o.op with
  | pure=>
   rw [hcl] at hy
   exact exOp_ev hy fun v h' hv=>exD_ev hc l _ _ _ _ _ _ hv
  | fresh=>
   rw [hcl] at hy
   simp only at hy ⊢
   cases hb:((allBef (bf.getD i 0) hi&&allBef (bf.getD i 0) an)||lzOk ops bf i o.op) with
   | false=>rw [hb] at hy;cases hy
   | true=>
    rw [hb] at hy
    simp only [cond_true] at hy ⊢
    obtain ⟨h1,_⟩:=gatesF_some hy
    exact (exOp_ev (ck:=fun k v h'=>exD E (exCall E k) ops bf l (i+1) (sput s' o.dst (some v)) h' hi pe ((i,h.length) :: an) (ck k)) h1 fun v h' hv=>exD_ev hc l _ _ _ _ _ _ hv).mono fun k hk=>gatesF_swap hk hy
  | read=>
   rw [hcl] at hy
   simp only at hy ⊢
   split at hy
   ·rename_i a n hra
    obtain ⟨h1,_⟩:=gatesA_some hy
    obtain ⟨h2,_⟩:=gatesH_some h1
    exact (exOp_ev (ck:=fun k v h'=>exD E (exCall E k) ops bf l (i+1) (sput s' o.dst (some v)) h' hi ((i,a,n) :: pe) an (ck k)) h2 fun v h' hv=>exD_ev hc l _ _ _ _ _ _ hv).mono fun k hk=>gatesA_swap (gatesH_swap hk h1) hy
   ·cases hy
  | heavy=>
   rw [hcl] at hy
   simp only at hy ⊢
   cases hb:(allBef (bf.getD i 0) hi&&allBef (bf.getD i 0) an) with
   | false=>rw [hb] at hy;cases hy
   | true=>
    rw [hb] at hy
    simp only [cond_true] at hy ⊢
    exact exO_ev hy fun v h' hv=>(exD_ev hc l _ _ _ _ _ _ (gatesP_some hv).1).mono fun k hk=>gatesP_swap hk hv
theorem lay_ev {R:Type}:∀ (sh:Shape) (s:Slots) (c:Slots→Option R) (ck:Nat→Slots→Option R) (r:R),lay sh s c=some r→(∀ s',c s'=some r→Ev fun k=>ck k s'=some r)→Ev fun k=>lay sh s (ck k)=some r
 | [],s,c,ck,r,hx,hc=>hc [] hx
 | none :: sh,s,c,ck,r,hx,hc=>lay_ev sh s _ (fun k r=>ck k (none :: r)) r hx fun s' hs'=>hc _ hs'
 | some k :: sh,s,c,ck,r,hx,hc=>by
  simp only [lay] at hx ⊢
  rw [viewV_nat] at hx
  cases hv:viewV k (sget s 0) some with
  | none=>rw [hv] at hx;cases hx
  | some v=>
   rw [hv] at hx
   refine (lay_ev sh s.tail _ (fun k r=>ck k (some v :: r)) r hx fun s' hs'=>hc _ hs').mono fun kk hk=>?_
   rw [viewV_nat,hv]
   exact hk
theorem exCode_ev:∀ (code:Code) (an:Ann) {R:Type} (c:Nat→Slots→AH→Option R) (ck:Nat→Nat→Slots→AH→Option R) (r:R) (s:Slots) (h:AH),
  exCode E (run E) loopL an code s h c=some r→(∀ e s h,c e s h=some r→Ev fun k=>ck k e s h=some r)→Ev fun k=>exCode E (exCall E k) (loopF k) an code s h (ck k)=some r:=by
 intro code
 induction code with
 | skip=>intro an R c ck r s h hx hc;cases an<;>exact hc 0 s h hx
 | region id ops d=>
  intro an R c ck r s h hx hc
  cases d with
  | false=>
   have hx:exOps E (run E) ops.toList ops.toList s h (c 0)=some r:=by cases an<;>exact hx
   have:=exOps_ev (ck:=fun k=>ck k 0) (hc 0) _ _ _ hx
   cases an<;>exact this
  | true=>
   by_cases ht:∃ c1 o1 t1,an = .toss c1 o1 t1
   ·obtain ⟨c1,o1,t1,rfl⟩:=ht
    simp only [exCode] at hx
    cases hb:Nat.blt c1 s.length with
    | false=>rw [hb] at hx;cases hx
    | true=>
     rw [hb] at hx
     simp only [cond_true] at hx
     obtain ⟨ht,hx⟩:=gate_some hx
     obtain ⟨he,hx⟩:=gate_some hx
     refine ((hc 0 _ _ hx).and (hc 0 _ _ (he.symm.trans hx))).mono fun k hk=>?_
     simp only [exCode]
     rw [hb]
     simp only [cond_true]
     unfold gate
     rw [if_pos ht,if_pos (by rw [hk.1,hk.2])]
     exact hk.1
   have hx:cond (regOk (regOps an ops.toList) (befs [] (regOps an ops.toList)) 0 (regOps an ops.toList)) (exD E (run E) (regOps an ops.toList) (befs [] (regOps an ops.toList)) (regOps an ops.toList) 0 s h [] [] [] (c 0)) none=some r:=by cases an<;>first|exact hx|exact absurd ⟨_,_,_,rfl⟩ ht
   cases hok:regOk (regOps an ops.toList) (befs [] (regOps an ops.toList)) 0 (regOps an ops.toList) with
   | false=>rw [hok] at hx;cases hx
   | true=>
    rw [hok] at hx
    simp only [cond_true] at hx
    have:=exD_ev (ck:=fun k=>ck k 0) (hc 0) _ _ _ _ _ _ _ hx
    refine this.mono fun k hk=>?_
    cases an<;>first|(simp only [exCode];rw [hok];exact hk)|exact absurd ⟨_,_,_,rfl⟩ ht
 | seq x y ihx ihy=>
  intro an R c ck r s h hx hc
  cases an with
  | seq j p q=>
   cases j with
   | none=>
    simp only [exCode] at hx ⊢
    refine ihx p _ (fun k e s' h'=>match e with
     | 0=>exCode E (exCall E k) (loopF k) q y s' h' (ck k)
     | e+1=>ck k (e+1) s' h') r s h hx fun e s' h' he=>?_
    match e,he with
    | 0,he=>exact ihy q c ck r s' h' he hc
    | e+1,he=>exact hc (e+1) s' h' he
   | some sh=>
    simp only [exCode] at hx ⊢
    cases hp:exCode E (run E) loopL p x s h (joinC sh c) with
    | none=>rw [hp] at hx;cases hx
    | some pr=>
     rw [hp] at hx
     simp only [Option.bind_some] at hx
     have h1:=ihx p _ (fun k=>joinC sh (ck k)) pr s h hp fun e s' h' he=>by
       match e,he with
       | 0,he=>exact Ev.of fun k=>he
       | e+1,he=>
        simp only [joinC] at he ⊢
        cases hc1:c (e+1) s' h' with
        | none=>rw [hc1] at he;cases he
        | some r'=>
         rw [hc1] at he
         injection he with he
         subst he
         simp only [joinK] at hx
         injection hx with hx
         subst hx
         exact (hc _ _ _ hc1).mono fun k hk=>by rw [hk];rfl
     have h2:Ev fun k=>joinK pr (fun q'=>lay sh q'.1 fun s'=>exCode E (exCall E k) (loopF k) q y s' q'.2 (ck k))=some r:=by
      cases pr with
      | inr r'=>exact Ev.of fun k=>hx
      | inl q'=>exact lay_ev _ _ _ _ _ hx fun s' hs'=>ihy q c ck r s' _ hs' hc
     refine (h1.and h2).mono fun k hk=>?_
     rw [hk.1]
     exact hk.2
  | seqk ks p q=>
   simp only [exCode] at hx ⊢
   refine ihx p _ (fun k e s' h'=>match e with
    | 0=>exCode E (exCall E k) (loopF k) q y s' (killS s' ks h') (ck k)
    | e+1=>ck k (e+1) s' h') r s h hx fun e s' h' he=>?_
   match e,he with
   | 0,he=>exact ihy q c ck r s' _ he hc
   | e+1,he=>exact hc (e+1) s' h' he
  | leaf=>simp only [exCode] at hx;cases hx
  | cond=>simp only [exCode] at hx;cases hx
  | block=>simp only [exCode] at hx;cases hx
  | loop=>simp only [exCode] at hx;cases hx
  | perm=>simp only [exCode] at hx;cases hx
  | toss=>simp only [exCode] at hx;cases hx
 | cond b x y ihx ihy=>
  intro an R c ck r s h hx hc
  cases an with
  | cond p q=>
   simp only [exCode] at hx ⊢
   split at hx
   ·rename_i t hb
    cases t with
    | true=>rw [if_pos rfl] at hx;exact (ihx p c ck r s h hx hc).mono fun k hk=>by rw [if_pos rfl];exact hk
    | false=>rw [if_neg (by decide)] at hx;exact (ihy q c ck r s h hx hc).mono fun k hk=>by rw [if_neg (by decide)];exact hk
   ·cases hx
  | leaf=>simp only [exCode] at hx;cases hx
  | seq=>simp only [exCode] at hx;cases hx
  | block=>simp only [exCode] at hx;cases hx
  | loop=>simp only [exCode] at hx;cases hx
  | perm=>simp only [exCode] at hx;cases hx
  | toss=>simp only [exCode] at hx;cases hx
  | seqk=>simp only [exCode] at hx;cases hx
 | block id x ih=>
  intro an R c ck r s h hx hc
  cases an with
  | block p=>
   simp only [exCode] at hx ⊢
   refine ih p _ (fun k e s' h'=>cond (Nat.beq e (id+2)) (ck k 0 s' h') (ck k e s' h')) r s h hx fun e s' h' he=>?_
   cases hb:Nat.beq e (id+2) with
   | true=>rw [hb] at he;exact hc 0 s' h' he
   | false=>rw [hb] at he;exact hc e s' h' he
  | leaf=>simp only [exCode] at hx;cases hx
  | seq=>simp only [exCode] at hx;cases hx
  | cond=>simp only [exCode] at hx;cases hx
  | loop=>simp only [exCode] at hx;cases hx
  | perm=>simp only [exCode] at hx;cases hx
  | toss=>simp only [exCode] at hx;cases hx
  | seqk=>simp only [exCode] at hx;cases hx
 | loop x ih=>
  intro an R c ck r s h hx hc
  cases an with
  | loop s1 es p=>
   simp only [exCode] at hx ⊢
   cases hb:Nat.beq s.length s1.length with
   | false=>rw [hb] at hx;cases hx
   | true=>
    rw [hb] at hx
    simp only [cond_true] at hx ⊢
    let body:Nat→Body:=fun k l h=>lay s1 l fun s'=>exCode E (exCall E k) (loopF k) p x s' h (keepK s1 es)
    let bodyL:Body:=fun l h=>lay s1 l fun s'=>exCode E (run E) loopL p x s' h (keepK s1 es)
    have hbody:∀ s h p1,bodyL s h=some p1→Ev fun k=>body k s h=some p1:=fun s' h' p1 hp1=>
     lay_ev s1 s' _ (fun k s'=>exCode E (exCall E k) (loopF k) p x s' h' (keepK s1 es)) p1 hp1 fun s2 hs2=>
      ih p _ (fun k=>keepK s1 es) p1 s2 h' hs2 fun e s3 h3 he=>Ev.of fun _=>he
    have hrounds:∀ n s h pr,loopF n bodyL s h=some pr→Ev fun k=>loopF n (body k) s h=some pr:=by
     intro n
     induction n with
     | zero=>intro s h pr hx;cases hx
     | succ n ihn=>
      intro s h pr hx
      simp only [loopF] at hx ⊢
      cases hb1:bodyL s h with
      | none=>rw [hb1] at hx;cases hx
      | some p1=>
       rw [hb1] at hx
       simp only [Option.bind_some] at hx
       by_cases h0:p1.1=0
       ·rw [if_pos h0] at hx
        refine ((hbody s h p1 hb1).and (ihn _ _ _ hx)).mono fun k hk=>?_
        rw [hk.1]
        simp only [Option.bind_some]
        rw [if_pos h0]
        exact hk.2
       ·rw [if_neg h0] at hx
        refine (hbody s h p1 hb1).mono fun k hk=>?_
        rw [hk]
        simp only [Option.bind_some]
        rw [if_neg h0]
        exact hx
    cases hp:loopL bodyL (keep s1 s) h with
    | none=>rw [show (loopL (fun l h=>lay s1 l fun s'=>exCode E (run E) loopL p x s' h (keepK s1 es)) (keep s1 s) h)=none from hp] at hx;cases hx
    | some pr=>
     rw [show (loopL (fun l h=>lay s1 l fun s'=>exCode E (run E) loopL p x s' h (keepK s1 es)) (keep s1 s) h)=some pr from hp] at hx
     simp only [Option.bind_some] at hx
     obtain ⟨n,hn⟩:=(loopL_iff.1 hp).one
     have h1:Ev fun k=>loopF k (body k) (keep s1 s) h=some pr:=by
      obtain ⟨k0,hk0⟩:=hrounds n _ h pr hn
      exact ⟨max n k0,fun k hk=>loopF_le (by omega) (hk0 k (by omega))⟩
     have h2:Ev fun k=>disp es pr.1 pr.2.1 pr.2.2 (ck k)=some r:=by
      have key:∀ es:List (Nat×Shape),disp es pr.1 pr.2.1 pr.2.2 c=some r→Ev fun k=>disp es pr.1 pr.2.1 pr.2.2 (ck k)=some r:=by
       intro es
       induction es with
       | nil=>intro hx;cases hx
       | cons p es ihe=>
        intro hx
        obtain ⟨e,sh⟩:=p
        simp only [disp] at hx ⊢
        by_cases he:pr.1=e
        ·rw [if_pos he] at hx
         refine (lay_ev sh _ _ (fun k s'=>ck k e s' pr.2.2) r hx fun s' hs'=>hc _ _ _ hs').mono fun k hk=>?_
         rw [if_pos he];exact hk
        ·rw [if_neg he] at hx
         exact (ihe hx).mono fun k hk=>by rw [if_neg he];exact hk
      exact key es hx
     refine (h1.and h2).mono fun k hk=>?_
     rw [show (loopF k (fun l h=>lay s1 l fun s'=>exCode E (exCall E k) (loopF k) p x s' h (keepK s1 es)) (keep s1 s) h)=some pr from hk.1]
     exact hk.2
  | leaf=>simp only [exCode] at hx;cases hx
  | seq=>simp only [exCode] at hx;cases hx
  | cond=>simp only [exCode] at hx;cases hx
  | block=>simp only [exCode] at hx;cases hx
  | perm=>simp only [exCode] at hx;cases hx
  | toss=>simp only [exCode] at hx;cases hx
  | seqk=>simp only [exCode] at hx;cases hx
 | exit id=>
  intro an R c ck r s h hx hc
  have hx:c (id+2) s h=some r:=by cases an<;>exact hx
  have:=hc _ _ _ hx
  cases an<;>exact this
 | ret=>
  intro an R c ck r s h hx hc
  have hx:c 1 s h=some r:=by cases an<;>exact hx
  have:=hc _ _ _ hx
  cases an<;>exact this
 | _=>
  intro an R c ck r s h hx hc
  cases an<;>(simp only [exCode] at hx;cases hx)
end
theorem run_intro {E:Env} {f:Nat} {fn:Func} {an:Ann} (hf:E.P.funcs[f]? = some fn) (ha:E.an f=some an) {args:List Value} {h:AH} {r:Value×AH} (hx:exFun E (run E) loopL an fn args h=some r):run E f args h=some r:=by
 rw [run_iff]
 have key:Ev fun k=>exFun E (exCall E k) (loopF k) an fn args h=some r:=by
  unfold exFun at hx ⊢
  cases hb:fn.body with
  | none=>rw [hb] at hx;cases hx
  | some b=>
   rw [hb] at hx
   exact exCode_ev b an _ (fun _ e s h'=>if e≤1 then exResults E s h' fn.results.toList fun vs=>some (mkRes vs,h') else none) r _ _ hx fun e s h he=>Ev.of fun _=>he
 obtain ⟨k0,hk⟩:=key
 refine ⟨k0+1,fun k hkk=>?_⟩
 obtain ⟨k',rfl⟩:∃ k',k=k'+1:=⟨k-1,by omega⟩
 simp only [exCall,hf,ha]
 exact hk k' (by omega)
theorem run_sound {E:Env} (hE:EnvOk E) (w0:World):RecOk E w0 (run E):=fun f args h v h' hx=>by
 obtain ⟨k,hk⟩:=(run_iff.1 hx).one
 exact exCall_sound hE w0 k f args h v h' hk
end Go.Proofs.Ytkdenmdijdmnjaa.Am
set_option linter.unusedSimpArgs false
set_option linter.unusedVariables false
namespace Go.Proofs.Ytkdenmdijdmnjaa.Am
open Go Go.RowKit
theorem find_mem {α:Type}:∀ {l:List (Nat×α)} {t:Nat} {i:α},find l t=some i→(t,i)∈l
 | [],_,_,h=>by cases h
 | (k,j) :: r,t,i,h=>by
  simp only [find] at h
  cases hb:Nat.beq k t with
  | true=>
   rw [hb] at h
   injection h with h
   subst h
   rw [Nat.eq_of_beq_eq_true hb]
   exact List.mem_cons_self ..
  | false=>rw [hb] at h;exact List.mem_cons_of_mem _ (find_mem h)
theorem TFact.of {P:Program} {t:Nat} {i:TI} {z:Value} {d:TypeDesc} (h:(P.info? t).map (fun f=>(f.size,f.bytes,f.zero))=some (i.ks.length,i.bytes,some z)) (hz:z.cells.toList=i.zero) (hl:i.zero.length=i.ks.length) (hf:i.zero.all flatZ=true)
  (hu:P.underlying t=some d) (hd:UFact d i) (ha:0<i.cnt→P.underlying t=some (.array i.cnt i.elem)) (h0:isK (.int .i64) i=true→z = .int .i64 0):TFact P t i where
 zi:=fun hk=>by
  cases hi:P.info? t with
  | none=>rw [hi] at h;cases h
  | some f=>
   rw [hi] at h
   simp only [Option.map_some] at h
   injection h with h
   injection h with h1 h2
   injection h2 with h2 h3
   exact ⟨f,rfl,by rw [h3,h0 hk]⟩
 inf:=by
  cases hi:P.info? t with
  | none=>rw [hi] at h;cases h
  | some f=>
   rw [hi] at h
   simp only [Option.map_some] at h
   injection h with h
   injection h with h1 h2
   injection h2 with h2 h3
   exact ⟨f,z,rfl,h1,h2,h3,hz,hl,hf⟩
 und:=⟨d,hu,hd⟩
 arr:=ha
def subC:List Nat→Code→Code
 | [],c=>c
 | 0 :: r,.seq a _=>subC r a
 | _ :: r,.seq _ b=>subC r b
 | 0 :: r,.cond _ a _=>subC r a
 | _ :: r,.cond _ _ b=>subC r b
 | _ :: r,.block _ a=>subC r a
 | _ :: r,.loop a=>subC r a
 | _,_=>.skip
def bodyC (f:Func):Code:=f.body.getD .skip
def tame (n:Nat):Value→Bool
 | .int _ _=>true
 | .bool _=>true
 | .string _=>true
 | .nilFunc=>true
 | .pointer none=>true
 | .pointer (some ad)=>Nat.blt ad.block n&&(match ad.spot with|none=>true|some _=>false)
 | .slice a m c=>cond (Nat.beq c 0) (Nat.beq m 0) (match a with
  | none=>false
  | some ad=>Nat.blt ad.block n&&(match ad.spot with|none=>true|some _=>false)&&Nat.ble m c)
 | _=>false
def told:Value→Value
 | .slice a m c=>cond (Nat.beq c 0) (.slice none 0 0) (.slice a m m)
 | v=>v
def tell (n:Nat) (v:Value):Value:=cond (tame n v) (told v) .nilIface
def h0 (W:World):AH:=W.heap.toList.map fun o=>match o with
 | .cells cs t _=>some ⟨cs.toList.map (tell W.heap.size),t⟩
 | _=>none
def φ0:Nat→Nat×Nat:=fun i=>(i,0)
theorem tame_rel {P:Program} {n:Nat} {w:World} {v:Value} (h:tame n v=true):VR P n φ0 n w (told v) v:=by
 cases v<;>simp only [tame] at h<;>first|(cases h;done)|skip
 case int=>exact .int _ _
 case bool=>exact .bool _
 case string=>exact .str _
 case nilFunc=>exact .nilF
 case pointer a=>
  cases a with
  | none=>exact .nilp
  | some ad=>
   obtain ⟨b,o,s⟩:=ad
   simp only [Bool.and_eq_true,Nat.blt_eq] at h
   cases s with
   | some _=>cases h.2
   | none=>
    have:=VR.ptr (P:=P) (base:=n) (φ:=φ0) (n:=n) (w:=w) b o h.1
    simpa [φ0,told] using this
 case slice a m c=>
  cases hc:Nat.beq c 0 with
  | true=>
   rw [hc] at h
   have h1:=Nat.eq_of_beq_eq_true hc
   have h2:=Nat.eq_of_beq_eq_true h
   subst h1;subst h2
   exact .empty none 0 a fun _ h=>by cases h
  | false=>
   rw [hc] at h
   simp only [cond_false] at h
   cases a with
   | none=>cases h
   | some ad=>
    obtain ⟨b,o,s⟩:=ad
    simp only [Bool.and_eq_true,Nat.blt_eq] at h
    cases s with
    | some _=>cases h.1.2
    | none=>
     have:=VR.slice (P:=P) (base:=n) (φ:=φ0) (n:=n) (w:=w) b o m m c h.1.1 (Nat.le_of_ble_eq_true h.2) (fun hb=>absurd hb (by simp only [φ0];have:=h.1.1;omega))
     simp only [told,hc,cond_false]
     simpa [φ0] using this
theorem h0_get {W:World} {i:Nat} {k:Blk} (h:hget (h0 W) i=some k):∃ cs fr,W.heap[i]? = some (.cells cs k.ty fr)∧k.cs=cs.toList.map (tell W.heap.size):=by
 rw [hget_some] at h
 simp only [h0,List.getElem?_map] at h
 cases ho:W.heap.toList[i]? with
 | none=>rw [ho] at h;cases h
 | some o=>
  rw [ho] at h
  simp only [Option.map_some] at h
  injection h with h
  have ho':W.heap[i]? = some o:=by simpa using ho
  cases o<;>simp only at h<;>first|(cases h;done)|skip
  rename_i cs t fr
  injection h with h
  subst h
  exact ⟨cs,fr,ho',rfl⟩
theorem h0_nom {W:World} {i:Nat} {k:Blk} (h:hget (h0 W) i=some k):k.m=none:=by
 rw [hget_some] at h
 simp only [h0,List.getElem?_map] at h
 cases ho:W.heap.toList[i]? with
 | none=>rw [ho] at h;cases h
 | some o=>
  rw [ho] at h
  simp only [Option.map_some] at h
  injection h with h
  cases o<;>simp only at h<;>first|(cases h;done)|skip
  injection h with h
  subst h
  rfl
theorem h0_rel (P:Program) (W:World):HR P W.heap.size W φ0 (h0 W) W where
 below:=Below.refl ..
 mp:=fun i k l hi hm=>by
  have:=h0_nom hi
  rw [this] at hm;cases hm
 blk:=fun i k hi _=>by
  obtain ⟨cs,fr,h1,h2⟩:=h0_get hi
  refine ⟨cs,fr,h1,fun j v hj=>?_,fun hb=>?_⟩
  ·rw [h2,List.getElem?_map] at hj
   cases hc:cs.toList[j]? with
   | none=>rw [hc] at hj;cases hj
   | some u=>
    rw [hc] at hj
    injection hj with hj
    refine ⟨u,by simp only [φ0,Nat.zero_add];simpa using hc,fun hne=>?_⟩
    have hlen:(h0 W).length=W.heap.size:=by simp [h0]
    rw [hlen]
    unfold tell at hj
    cases ht:tame W.heap.size u with
    | false=>rw [ht] at hj;exact absurd hj.symm hne
    | true=>
     rw [ht] at hj
     rw [← hj]
     exact tame_rel ht
  ·have:=(Array.getElem?_eq_some_iff.1 h1).1
   omega
 inj:=fun i j k l _ _ e=>e
 lo:=fun i hi=>rfl
 len:=by simp [h0]
 bw:=Nat.le_refl _
theorem tell_rel {P:Program} {n:Nat} {w:World} {v:Value} (h:tame n v=true):VR P n φ0 n w (tell n v) v:=by
 unfold tell
 rw [h]
 exact tame_rel h
theorem law_of_run {E:Env} (hE:EnvOk E) {W:World} (hb:E.base=W.heap.size) {f:Nat} {args:List Value} {args':Array Value} {h':AH} (hl:args.length=args'.size)
  (hr:∀ (i:Nat) (x y:Value),args[i]? = some x→args'[i]? = some y→VR E.P W.heap.size φ0 W.heap.size W x y) (hx:run E f args (h0 W)=some (.bool true,h')) :
  Calls E.P f args' W fun e W'=>e = .returned (.bool true)∧Below W.heap.size W W':=by
 have hlen:(h0 W).length=W.heap.size:=by simp [h0]
 have h1:=run_sound hE W f args (h0 W) _ _ hx φ0 W args'.toList (by rw [hb];exact h0_rel E.P W) (by simpa using hl) (fun i x y hx hy=>by rw [hb,hlen];exact hr i x y hx (by simpa using hy))
 have e:args'.toList.toArray=args':=by simp
 rw [e] at h1
 refine h1.mono fun e W' he=>?_
 obtain ⟨u,φ',rfl,_,h2,h3⟩:=he
 cases h3
 refine ⟨rfl,?_⟩
 have:=h2.below
 rw [hb] at this
 exact this
end Go.Proofs.Ytkdenmdijdmnjaa.Am
set_option linter.unusedSimpArgs false
set_option linter.unusedVariables false
namespace Go.Proofs.Ytkdenmdijdmnjaa.Am
open Go Go.RowKit
def KB (S:Nat→Prop) (h h':AH):Prop:=h.length≤h'.length∧∀ b,b<h.length→¬S b→hget h' b=hget h b
abbrev NoB:Nat→Prop:=fun _=>False
def blk (a:Option Addr) (b:Nat):Prop:=∃ ad,a=some ad∧ad.block=b
theorem KB.refl (S:Nat→Prop) (h:AH):KB S h h:=⟨Nat.le_refl _,fun _ _ _=>rfl⟩
theorem KB.trans {S S' T:Nat→Prop} {a b c:AH} (x:KB S a b) (y:KB S' b c) (h1:∀ i,i<a.length→S i→T i) (h2:∀ i,i<a.length→S' i→T i):KB T a c:=
 ⟨Nat.le_trans x.1 y.1,fun i hi hn=>by
  rw [y.2 i (Nat.lt_of_lt_of_le hi x.1) (fun h=>hn (h2 i hi h)),x.2 i hi (fun h=>hn (h1 i hi h))]⟩
theorem KB.mono {S T:Nat→Prop} {a b:AH} (x:KB S a b) (h1:∀ i,i<a.length→S i→T i):KB T a b:=⟨x.1,fun i hi hn=>x.2 i hi fun h=>hn (h1 i hi h)⟩
theorem KB.push (S:Nat→Prop) (h:AH) (x:Option Blk):KB S h (h++[x]):=⟨by simp,fun b hb _=>hget_append_lt hb⟩
theorem KB.set {S:Nat→Prop} {h:AH} {b:Nat} (x:Option Blk) (hb:S b):KB S h (h.set b x):=⟨by simp,fun i _ hn=>hget_set_ne fun e=>hn (e ▸ hb)⟩
def Sl (h:AH) (a:Option Addr) (vs:List Value):Prop:=vs = []∨∃ ad k,a=some ad∧hget h ad.block=some k∧ad.off+vs.length≤k.cs.length∧∀ (i:Nat) (v:Value),vs[i]? = some v→k.cs[ad.off+i]? = some v
def Own (base t:Nat) (h:AH) (a:Option Addr) (vs:List Value):Prop:=(a=none∧vs = [])∨∃ ad k,a=some ad∧base≤ad.block∧hget h ad.block=some k∧k.ty=t∧ad.off+vs.length≤k.cs.length∧∀ (i:Nat) (v:Value),vs[i]? = some v→k.cs[ad.off+i]? = some v
theorem Own.sl {base t:Nat} {h:AH} {a:Option Addr} {vs:List Value} (x:Own base t h a vs):Sl h a vs:=by
 rcases x with ⟨_,h⟩|⟨ad,k,h1,_,h2,_,h3,h4⟩
 ·exact .inl h
 ·exact .inr ⟨ad,k,h1,h2,h3,h4⟩
theorem Sl.keep {S:Nat→Prop} {h h':AH} {a:Option Addr} {vs:List Value} (x:Sl h a vs) (k:KB S h h') (hs:∀ b,blk a b→¬S b):Sl h' a vs:=by
 rcases x with h|⟨ad,kk,h1,h2,h3,h4⟩
 ·exact .inl h
 ·exact .inr ⟨ad,kk,h1,by rw [k.2 _ (hget_lt h2) (hs _ ⟨ad,h1,rfl⟩)];exact h2,h3,h4⟩
theorem Own.keep {base t:Nat} {S:Nat→Prop} {h h':AH} {a:Option Addr} {vs:List Value} (x:Own base t h a vs) (k:KB S h h') (hs:∀ b,blk a b→¬S b):Own base t h' a vs:=by
 rcases x with h|⟨ad,kk,h1,h0,h2,ht,h3,h4⟩
 ·exact .inl h
 ·exact .inr ⟨ad,kk,h1,h0,by rw [k.2 _ (hget_lt h2) (hs _ ⟨ad,h1,rfl⟩)];exact h2,ht,h3,h4⟩
theorem Own.lt {base t:Nat} {h:AH} {a:Option Addr} {vs:List Value} (x:Own base t h a vs) {b:Nat} (hb:blk a b):base≤b∧b<h.length:=by
 obtain ⟨ad,rfl,rfl⟩:=hb
 rcases x with ⟨h,_⟩|⟨ad',kk,h1,h0,h2,_⟩
 ·cases h
 ·injection h1 with h1;subst h1;exact ⟨h0,hget_lt h2⟩
theorem Sl.cell {h:AH} {a:Option Addr} {vs:List Value} (x:Sl h a vs) {i:Nat} {v:Value} (hi:vs[i]? = some v):∃ ad,a=some ad∧Am.cell h ad.block (ad.off+i)=some v:=by
 rcases x with h|⟨ad,kk,h1,h2,h3,h4⟩
 ·subst h;simp at hi
 ·exact ⟨ad,h1,by simp [Am.cell,h2,h4 i v hi]⟩
theorem Sl.raw {h:AH} {a:Option Addr} {vs:List Value} (x:Sl h a vs) (hl:vs.all leaf=true):rawAt h a vs.length=some vs:=by
 rcases x with h|⟨ad,kk,h1,h2,h3,h4⟩
 ·subst h;rfl
 ·have e:(kk.cs.drop ad.off).take vs.length=vs:=by
   apply List.ext_getElem?
   intro i
   by_cases hi:i<vs.length
   ·rw [List.getElem?_take_of_lt hi,List.getElem?_drop,h4 i _ (List.getElem?_eq_getElem hi),List.getElem?_eq_getElem hi]
   ·rw [List.getElem?_eq_none (by simp;omega),List.getElem?_eq_none (by omega)]
  unfold rawAt
  split
  ·rename_i h0
   rw [List.eq_nil_of_length_eq_zero h0]
  ·subst h1
   simp only [Option.bind_some,h2]
   rw [e,if_pos ⟨h3,hl⟩]
theorem Own.new (base t:Nat) (h:AH) (cs:List Value) (hb:base≤h.length):Own base t (h++[some ⟨cs,t⟩]) (some ⟨h.length,0,none⟩) cs:=
 .inr ⟨⟨h.length,0,none⟩,⟨cs,t⟩,rfl,hb,hget_append_new,rfl,by simp,fun i v hi=>by simpa using hi⟩
theorem blk_new {h:AH} {b:Nat} {o:Nat}:blk (some ⟨h.length,o,none⟩) b↔b=h.length:=
 ⟨fun ⟨ad,e,hb⟩=>by injection e with e;subst e;exact hb.symm,fun e=>⟨_,rfl,e.symm⟩⟩
theorem Own.wr {base t:Nat} {h:AH} {a:Option Addr} {vs:List Value} (x:Own base t h a vs) {i:Nat} {new:List Value} (hi:i+new.length≤vs.length) (h0:0<new.length) :
  ∃ ad h',a=some ad∧Am.wr base h ad.block (ad.off+i) new=some h'∧Own base t h' a (setAt vs i new)∧KB (blk a) h h'∧h'.length=h.length:=by
 rcases x with ⟨_,h⟩|⟨ad,kk,h1,hb,h2,ht,h3,h4⟩
 ·subst h;simp only [List.length_nil] at hi;omega
 ·refine ⟨ad,h.set ad.block (some ⟨setAt kk.cs (ad.off+i) new,kk.ty⟩),h1,?_,?_,KB.set _ ⟨ad,h1,rfl⟩,by simp⟩
  ·unfold Am.wr
   rw [if_pos hb,h2]
   simp only [Option.bind_some]
   rw [if_pos (by omega)]
  ·have hl:(setAt vs i new).length=vs.length:=by simp [setAt];omega
   refine .inr ⟨ad,⟨setAt kk.cs (ad.off+i) new,kk.ty⟩,h1,hb,hget_set_self (hget_lt h2),ht,?_,fun j v hj=>?_⟩
   ·rw [hl];simp [setAt];omega
   ·simp only
    rw [setAt_get hi] at hj
    rw [setAt_get (by omega)]
    split at hj
    ·rename_i hin
     rw [if_pos (by omega),show ad.off+j-(ad.off+i)=j-i from by omega]
     exact hj
    ·rename_i hout
     rw [if_neg (by omega)]
     exact h4 j v hj
theorem Own.app {base t sz bytes:Nat} {h:AH} {a:Option Addr} {olds:List Value} (x:Own base t h a olds) {n m:Nat} (hn:olds.length=n*sz) (hsz:0<sz) {new:List Value} {src:Option (List Value)} (hs:src=some new) (hb:base≤h.length)
  (h1:(n+m)*bytes≤140737488355328) (h2:n+m≤9223372036854775807) (hm:new.length=m*sz) :
  ∃ a' h',Am.app base h t sz bytes a n src m=some (.slice a' (n+m) (n+m),h')∧Own base t h' a' (olds++new)∧KB (blk a) h h'∧((m=0∧a'=a∧h'=h)∨(∀ b,blk a' b→b=h.length)):=by
 unfold Am.app
 by_cases h0:m=0
 ·subst h0
  have:new = []:=List.eq_nil_of_length_eq_zero (by omega)
  subst this
  rw [if_pos rfl]
  exact ⟨a,h,rfl,by simpa using x,KB.refl _ _,.inl ⟨rfl,rfl,rfl⟩⟩
 ·rw [if_neg h0]
  subst hs
  simp only [Option.bind_some]
  unfold grow
  rw [if_pos ⟨h1,h2⟩]
  rcases x with ⟨rfl,ho⟩|⟨ad,kk,rfl,hbb,hk,ht,h3,h4⟩
  ·subst ho
   have:n=0:=by
    rcases Nat.eq_zero_or_pos n with h|h
    ·exact h
    ·have:=Nat.mul_pos h hsz;simp at hn;omega
   subst this
   simp only [if_true]
   refine ⟨some ⟨h.length,0,none⟩,h++[some ⟨new,t⟩],by simp,by simpa using Own.new base t h new hb,KB.push _ _ _,.inr fun b hb'=>blk_new.1 hb'⟩
  ·simp only [hk,Option.bind_some]
   have e:(kk.cs.drop ad.off).take (n*sz)=olds:=by
    rw [← hn]
    apply List.ext_getElem?
    intro i
    by_cases hi:i<olds.length
    ·rw [List.getElem?_take_of_lt hi,List.getElem?_drop,h4 i _ (List.getElem?_eq_getElem hi),List.getElem?_eq_getElem hi]
    ·rw [List.getElem?_eq_none (by simp;omega),List.getElem?_eq_none (by omega)]
   rw [if_pos ⟨hbb,ht,by omega⟩,e]
   have hlen:(h.set ad.block none).length=h.length:=by simp
   refine ⟨_,_,rfl,?_,?_,.inr fun b hb'=>blk_new.1 hb'⟩
   ·have:=Own.new base t (h.set ad.block none) (olds++new) (by rw [hlen];exact hb)
    rw [hlen] at this
    exact this
   ·exact KB.trans (KB.set (S:=blk (some ad)) none ⟨ad,rfl,rfl⟩) (KB.push NoB _ _) (fun _ _ h=>h) (fun _ _ h=>h.elim)
def iv (k:IntKind) (zs:List Int):List Value:=zs.map (Value.int k)
theorem iv_get {k:IntKind} {zs:List Int} {i:Nat} {z:Int} (h:zs[i]? = some z):(iv k zs)[i]? = some (.int k z):=by simp [iv,h]
@[simp] theorem iv_length (k:IntKind) (zs:List Int):(iv k zs).length=zs.length:=by simp [iv]
theorem iv_leaf (k:IntKind) (zs:List Int):(iv k zs).all leaf=true:=by
 rw [List.all_eq_true]
 intro v hv
 simp only [iv,List.mem_map] at hv
 obtain ⟨z,_,rfl⟩:=hv
 rfl
theorem iv_append (k:IntKind) (xs ys:List Int):iv k xs++iv k ys=iv k (xs++ys):=by simp [iv]
theorem Sl.int {h:AH} {a:Option Addr} {k:IntKind} {zs:List Int} (x:Sl h a (iv k zs)) {i:Nat} (hi:i<zs.length):∃ ad,a=some ad∧(Am.cell h ad.block (ad.off+i)).bind (getI k)=some zs[i]:=by
 obtain ⟨ad,h1,h2⟩:=x.cell (iv_get (List.getElem?_eq_getElem hi))
 exact ⟨ad,h1,by rw [h2];simp [getI]⟩
end Go.Proofs.Ytkdenmdijdmnjaa.Am
set_option linter.unusedSimpArgs false
set_option linter.unusedVariables false
namespace Go.Proofs.Ytkdenmdijdmnjaa.Am
open Go Go.RowKit
theorem h0_len (W:World):(h0 W).length=W.heap.size:=by simp [h0]
theorem cell_spot {W:World} {x:Addr} {v:Value} (h:W.cell? x=some v):∃ cs t fr,W.heap[x.block]? = some (.cells cs t fr)∧x.spot=none∧cs[x.off]? = some v:=by
 unfold World.cell? at h
 split at h
 ·rename_i cs t fr hb
  split at h
  ·cases h
  ·rename_i hs
   exact ⟨cs,t,fr,hb,by cases hq:x.spot with|none=>rfl|some _=>rw [hq] at hs;simp at hs,h⟩
 ·cases h
theorem h0_block {W:World} {b:Nat} {cs:Array Value} {t:TypeId} {fr:Nat×Nat} (h:W.heap[b]? = some (.cells cs t fr)):hget (h0 W) b=some ⟨cs.toList.map (tell W.heap.size),t⟩:=by
 rw [hget_some]
 simp only [h0,List.getElem?_map]
 have:W.heap.toList[b]? = some (.cells cs t fr):=by simpa using h
 rw [this]
 rfl
theorem h0_sl {W:World} {x:Addr} {vs:List Value} (hc:∀ (i:Nat) (v:Value),vs[i]? = some v→W.cell? (x.add i)=some v):Sl (h0 W) (some x) (vs.map (tell W.heap.size)):=by
 cases vs with
 | nil=>exact .inl rfl
 | cons v vs=>
  have h1:=hc 0 v rfl
  have e0:x.add 0=x:=rfl
  rw [e0] at h1
  obtain ⟨cs,t,fr,hb,hs,_⟩:=cell_spot h1
  have each:∀ (i:Nat) (u:Value),(v :: vs)[i]? = some u→cs[x.off+i]? = some u:=by
   intro i u hu
   have h2:=hc i u hu
   have e:x.add i=⟨x.block,x.off+i,none⟩:=by
    obtain ⟨b,o,sp⟩:=x
    simp only at hs
    subst hs
    exact addr_add b o i
   rw [e] at h2
   obtain ⟨cs',t',fr',hb',_,hc'⟩:=cell_spot h2
   simp only at hb' hc'
   rw [hb] at hb'
   injection hb' with hb'
   injection hb' with hb' _ _
   subst hb'
   exact hc'
  refine .inr ⟨x,_,rfl,h0_block hb,?_,fun i u hu=>?_⟩
  ·have hlt:(v :: vs).length-1<(v :: vs).length:=by simp
   have:=each _ _ (List.getElem?_eq_getElem hlt)
   have:=(Array.getElem?_eq_some_iff.1 this).1
   simp only [List.length_map,Array.length_toList]
   simp at this ⊢
   omega
  ·simp only [List.getElem?_map] at hu ⊢
   cases hq:(v :: vs)[i]? with
   | none=>rw [hq] at hu;cases hu
   | some u'=>
    rw [hq] at hu
    have:=each i u' hq
    have:cs.toList[x.off+i]? = some u':=by simpa using this
    rw [this]
    exact hu
def IsRow (k:IntKind) (w:World) (a:Option Addr) (len cap:Nat) (zs:List Int):Prop:=
 (a=none∧len=0∧cap=0∧zs = []) ∨
 ∃ x,a=some x∧len≤cap∧cap≤maxLen∧zs.length=cap∧(∀ i,i<zs.length→w.cell? (x.add i)=some (.int k (zs.getD i 0)))∧∀ n∈zs,(Lit.int k n).wf=true
theorem tell_int (n:Nat) (k:IntKind) (m:Int):tell n (.int k m) = .int k m:=rfl
theorem IsRow.open {k:IntKind} {W:World} {a:Option Addr} {len cap:Nat} {zs:List Int} (h:IsRow k W a len cap zs) :
  tame W.heap.size (.slice a len cap)=true∧∃ a',tell W.heap.size (.slice a len cap) = .slice a' len len∧Sl (h0 W) a' (iv k (zs.take len))∧(zs.take len).length=len∧∀ n∈zs.take len,(Lit.int k n).wf=true:=by
 rcases h with ⟨rfl,rfl,rfl,rfl⟩|⟨x,rfl,hl,hm,hz,hc,hw⟩
 ·exact ⟨rfl,none,rfl,.inl rfl,rfl,fun n hn=>by simp at hn⟩
 ·have hlen:(zs.take len).length=len:=by simp;omega
  by_cases h0:cap=0
  ·subst h0
   have:len=0:=by omega
   subst this
   exact ⟨rfl,none,rfl,.inl rfl,rfl,fun n hn=>by simp at hn⟩
  ·have c0:=hc 0 (by omega)
   obtain ⟨cs,t,fr,hb,hs,_⟩:=cell_spot (x:=x) c0
   have hlt:x.block<W.heap.size:=(Array.getElem?_eq_some_iff.1 hb).1
   have hcb:Nat.beq cap 0=false:=by
    cases hq:Nat.beq cap 0 with
    | false=>rfl
    | true=>exact absurd (Nat.eq_of_beq_eq_true hq) h0
   have ht:tame W.heap.size (.slice (some x) len cap)=true:=by
    have h1:Nat.blt x.block W.heap.size=true:=by simpa [Nat.blt_eq] using hlt
    have h2:Nat.ble len cap=true:=Nat.ble_eq_true_of_le hl
    simp [tame,hcb,hs,h1,h2]
   refine ⟨ht,some x,?_,?_,hlen,fun n hn=>hw n (List.mem_of_mem_take hn)⟩
   ·unfold tell
    rw [ht]
    simp only [cond_true,told,hcb,cond_false]
   ·have:=h0_sl (W:=W) (x:=x) (vs:=iv k (zs.take len)) (fun i v hi=>by
     have hlt2:i<len:=by
      have:=(List.getElem?_eq_some_iff.1 hi).1
      simp at this
      omega
     have hz2:i<zs.length:=by omega
     rw [hc i hz2]
     simp only [iv,List.getElem?_map,List.getElem?_take_of_lt hlt2,List.getElem?_eq_getElem hz2,Option.map_some] at hi
     injection hi with hi
     rw [← hi]
     simp [hz2])
    have e:(iv k (zs.take len)).map (tell W.heap.size)=iv k (zs.take len):=by
     simp only [iv,List.map_map]
     rfl
    rw [e] at this
    exact this
end Go.Proofs.Ytkdenmdijdmnjaa.Am
set_option linter.unusedSimpArgs false
set_option linter.unusedVariables false
namespace Go.Proofs.Ytkdenmdijdmnjaa.Am
open Go Go.RowKit
def Rd (P:Program) (h:AH):Nat→Nat→List Value→Prop
 | 0,_,_=>False
 | f+1,t,cs=>match P.underlying t with
  | some .bool=>∃ b,cs = [.bool b]
  | some (.int k)=>∃ n,cs = [.int k n]∧(Lit.int k n).wf=true
  | some .string=>∃ s:ByteArray,cs = [.string s]∧s.size≤maxLen
  | some (.slice e)=>∃ a n vs,cs = [.slice a n n]∧n≤maxLen∧Sl h a vs∧vs.length=n*P.cellsOf e∧∀ i,i<n→Rd P h f e ((vs.drop (i*P.cellsOf e)).take (P.cellsOf e))
  | some (.struct fs)=>cs.length=P.cellsOf t∧∀ fd∈fs.toList,Rd P h f fd.type ((cs.drop fd.offset).take (P.cellsOf fd.type))
  | _=>False
def okS (P:Program) (S:List Nat):Bool:=S.all fun t=>match P.underlying t with
 | some .bool=>true
 | some (.int _)=>true
 | some .string=>true
 | some (.slice e)=>S.contains e&&Nat.blt 0 (P.cellsOf e)
 | some (.struct fs)=>fs.toList.all (fun f=>S.contains f.type)&&(List.range (P.cellsOf t)).all fun j=>fs.toList.any fun f=>Nat.ble f.offset j&&Nat.blt j (f.offset+P.cellsOf f.type)
 | _=>false
theorem addr_add_add (a:Addr) (x y:Nat):(a.add x).add y=a.add (x+y):=by
 obtain ⟨b,o,s⟩:=a
 unfold Addr.add
 by_cases hx:x=0
 ·subst hx;simp
 ·by_cases hy:y=0
  ·subst hy;simp [hx]
  ·simp [hx,hy,Nat.add_assoc]
theorem cells_each {w:World} {base:Nat} {a:Addr} {n:Nat} {l:List Value} (h:w.cells? base a n=some l):l.length=n∧∀ i,i<n→w.cell? (a.add i)=l[i]?:=by
 unfold World.cells? at h
 split at h
 ·have hl:=mapM_some_length h
  simp at hl
  refine ⟨hl,fun i hi=>?_⟩
  have:=mapM_some_get h i i (by simp [hi])
  exact this
 ·cases h
section
variable {P:Program} {W:World} {H:Type} {enc:TypeId×Value→H} {S:List Nat}
theorem trod_rd (hS:okS P S=true):∀ (fuel t:Nat) (cs:List Value) (x:DataW H×List MemPlace),t∈S→DataW.trod enc P W 0 (fun _=>true) true fuel t cs=some x →
  Rd P (h0 W) fuel t (cs.map (tell W.heap.size))∧∀ c∈cs,tame W.heap.size c=true:=by
 intro fuel
 induction fuel with
 | zero=>intro t cs x _ h;simp [DataW.trod] at h
 | succ f ih=>
  intro t cs x ht h
  have hok:=List.all_eq_true.1 hS t ht
  have h0:=h
  unfold DataW.trod at h
  simp only [Rd]
  cases hu:P.underlying t with
  | none=>rw [hu] at hok;cases hok
  | some d=>
   rw [hu] at hok h
   cases d<;>simp only at hok<;>first|(cases hok;done)|skip
   case bool=>
    split at h<;>first|(cases h;done)|skip
    all_goals (rename_i e1;first|(cases e1;done)|skip)
    exact ⟨⟨_,rfl⟩,fun c hc=>by simp at hc;subst hc;rfl⟩
   case int k=>
    split at h<;>first|(cases h;done)|skip
    all_goals (rename_i e1;first|(cases e1;done)|skip)
    split at h
    ·rename_i hk
     injection e1 with e1
     injection e1 with e1
     subst e1
     obtain ⟨rfl,hw⟩:=hk
     exact ⟨⟨_,rfl,hw⟩,fun c hc=>by simp at hc;subst hc;rfl⟩
    ·cases h
   case string=>
    split at h<;>first|(cases h;done)|skip
    all_goals (rename_i e1;first|(cases e1;done)|skip)
    split at h
    ·rename_i hk
     exact ⟨⟨_,rfl,hk⟩,fun c hc=>by simp at hc;subst hc;rfl⟩
    ·cases h
   case slice e=>
    simp only [Bool.and_eq_true,Nat.blt_eq] at hok
    obtain ⟨he,hc⟩:=hok
    have he:e∈S:=by simpa using he
    rcases DataW.trod_slice hu h0 with ⟨rfl,_⟩|⟨a,len,cap,elems,rest,n,hn,rfl,_,_,hl,hm,hel,hget,hrest,_⟩
    ·exact ⟨⟨none,0,[],rfl,by simp [maxLen],.inl rfl,by simp,fun i hi=>by omega⟩,fun c hc=>by simp at hc;subst hc;rfl⟩
    ·injection hn with hn
     subst hn
     by_cases hcap:cap=0
     ·subst hcap
      have:len=0:=by omega
      subst this
      exact ⟨⟨none,0,[],rfl,by simp [maxLen],.inl rfl,by simp,fun i hi=>by omega⟩,fun c hc=>by simp at hc;subst hc;rfl⟩
     ·have first:∃ u,W.cell? (a.add 0)=some u:=by
       by_cases hlen:len=0
       ·obtain ⟨hr1,hr2⟩:=hrest rfl
        have h1:=hr2 0 (by omega)
        rw [hlen,Nat.zero_add,Nat.zero_mul,List.getElem?_eq_getElem (by omega)] at h1
        cases hcs:W.cells? 0 (a.add 0) (P.cellsOf e) with
        | none=>rw [hcs] at h1;cases h1
        | some l=>
         obtain ⟨q1,q2⟩:=cells_each hcs
         have:=q2 0 hc
         rw [addr_add_add] at this
         exact ⟨l[0],by rw [this,List.getElem?_eq_getElem (by omega)]⟩
       ·have h1:=hget 0 (by omega)
        rw [Nat.zero_mul,List.getElem?_eq_getElem (by omega)] at h1
        cases hcs:W.cells? 0 (a.add 0) (P.cellsOf e) with
        | none=>rw [hcs] at h1;cases h1
        | some l=>
         obtain ⟨q1,q2⟩:=cells_each hcs
         have:=q2 0 hc
         rw [addr_add_add] at this
         exact ⟨l[0],by rw [this,List.getElem?_eq_getElem (by omega)]⟩
      obtain ⟨u0,hu0⟩:=first
      obtain ⟨cs0,t0,fr0,hb,hs,_⟩:=cell_spot (x:=a) hu0
      have hlt:a.block<W.heap.size:=(Array.getElem?_eq_some_iff.1 hb).1
      have hcb:Nat.beq cap 0=false:=by
       cases hq:Nat.beq cap 0 with
       | false=>rfl
       | true=>exact absurd (Nat.eq_of_beq_eq_true hq) hcap
      have htame:tame W.heap.size (.slice (some a) len cap)=true:=by
       have h1:Nat.blt a.block W.heap.size=true:=by simpa [Nat.blt_eq] using hlt
       have h2:Nat.ble len cap=true:=Nat.ble_eq_true_of_le hl
       simp [tame,hcb,hs,h1,h2]
      have htell:tell W.heap.size (.slice (some a) len cap) = .slice (some a) len len:=by
       unfold tell
       rw [htame]
       simp only [cond_true,told,hcb,cond_false]
      have each:∀ i,i<len→∃ l y,W.cells? 0 (a.add (i*P.cellsOf e)) (P.cellsOf e)=some l∧DataW.trod enc P W 0 (fun _=>true) true f e l=some y:=by
       intro i hi
       have h1:=hget i hi
       rw [List.getElem?_eq_getElem (by omega)] at h1
       cases hcs:W.cells? 0 (a.add (i*P.cellsOf e)) (P.cellsOf e) with
       | none=>rw [hcs] at h1;cases h1
       | some l=>rw [hcs] at h1;exact ⟨l,_,rfl,h1⟩
      let g:Nat→Value:=fun j=>(W.cell? (a.add j)).getD undef
      have hg:∀ i r,i<len→r<P.cellsOf e→W.cell? (a.add (i*P.cellsOf e+r))=some (g (i*P.cellsOf e+r)):=by
       intro i r hi hr
       obtain ⟨l,y,h1,_⟩:=each i hi
       obtain ⟨q1,q2⟩:=cells_each h1
       have:=q2 r hr
       rw [addr_add_add,List.getElem?_eq_getElem (by omega)] at this
       simp only [g,this,Option.getD_some]
      have hg2:∀ j,j<len*P.cellsOf e→W.cell? (a.add j)=some (g j):=by
       intro j hj
       have h1:j / P.cellsOf e<len:=Nat.div_lt_of_lt_mul (by rw [Nat.mul_comm];exact hj)
       have h2:j % P.cellsOf e<P.cellsOf e:=Nat.mod_lt _ hc
       have h3:=hg _ _ h1 h2
       have h4:j / P.cellsOf e*P.cellsOf e+j % P.cellsOf e=j:=by rw [Nat.mul_comm];exact Nat.div_add_mod j _
       rw [h4] at h3
       exact h3
      refine ⟨⟨some a,len,((List.range (len*P.cellsOf e)).map g).map (tell W.heap.size),by rw [List.map_singleton,htell],by omega,h0_sl (fun i v hi=>?_),by simp,fun i hi=>?_⟩,fun c hc=>by simp at hc;subst hc;exact htame⟩
      ·have hlt2:i<len*P.cellsOf e:=by
        have:=(List.getElem?_eq_some_iff.1 hi).1
        simpa using this
       simp [hlt2] at hi
       rw [hg2 i hlt2,hi]
      ·obtain ⟨l,y,h1,h2⟩:=each i hi
       obtain ⟨q1,q2⟩:=cells_each h1
       have e1:(((List.range (len*P.cellsOf e)).map g).drop (i*P.cellsOf e)).take (P.cellsOf e)=l:=by
        have hle:(i+1)*P.cellsOf e≤len*P.cellsOf e:=Nat.mul_le_mul_right _ (by omega)
        rw [Nat.add_mul,Nat.one_mul] at hle
        apply List.ext_getElem?
        intro r
        by_cases hr:r<P.cellsOf e
        ·rw [List.getElem?_take_of_lt hr,List.getElem?_drop,List.getElem?_map,List.getElem?_range (by omega)]
         simp only [Option.map_some]
         rw [← q2 r hr,addr_add_add,hg i r hi hr]
        ·rw [List.getElem?_eq_none (by simp;omega),List.getElem?_eq_none (by omega)]
       rw [← List.map_drop,← List.map_take,e1]
       exact (ih e l y he h2).1
   case struct fs=>
    simp only [Bool.and_eq_true] at hok
    obtain ⟨hf,hcov⟩:=hok
    obtain ⟨xs,n,hn,_,hlen,hxl,hget⟩:=DataW.trod_struct hu h0
    injection hn with hn
    subst hn
    have each:∀ fd∈fs.toList,∃ y,DataW.trod enc P W 0 (fun _=>true) true f fd.type ((cs.drop fd.offset).take (P.cellsOf fd.type))=some y∧fd.type∈S:=by
     intro fd hfd
     obtain ⟨i,hi,rfl⟩:=List.mem_iff_getElem.1 hfd
     have hi':i<fs.size:=by simpa using hi
     have:=hget i fs[i] (Array.getElem?_eq_getElem hi')
     rw [List.getElem?_eq_getElem (by omega)] at this
     have hm:=List.all_eq_true.1 hf _ hfd
     exact ⟨_,by simpa using this,by simpa using hm⟩
    refine ⟨⟨by simpa using hlen,fun fd hfd=>?_⟩,fun c hc=>?_⟩
    ·obtain ⟨y,h1,h2⟩:=each fd hfd
     have:=(ih fd.type _ y h2 h1).1
     rw [List.map_take,List.map_drop] at this
     exact this
    ·obtain ⟨j,hj,rfl⟩:=List.mem_iff_getElem.1 hc
     have h1:=List.all_eq_true.1 hcov j (by simp;omega)
     obtain ⟨fd,hfd,h2⟩:=List.any_eq_true.1 h1
     simp only [Bool.and_eq_true,Nat.blt_eq] at h2
     have h3:=Nat.le_of_ble_eq_true h2.1
     obtain ⟨y,h4,h5⟩:=each fd hfd
     refine (ih fd.type _ y h5 h4).2 cs[j] ?_
     have hlt:j-fd.offset<P.cellsOf fd.type:=by omega
     have:((cs.drop fd.offset).take (P.cellsOf fd.type))[j-fd.offset]? = some cs[j]:=by
      rw [List.getElem?_take_of_lt hlt,List.getElem?_drop,show fd.offset+(j-fd.offset)=j from by omega,List.getElem?_eq_getElem hj]
     exact List.mem_of_getElem? this
end
def absV (n:Nat):Value→Value
 | .agg cs=>.agg (cs.toList.map (tell n)).toArray
 | v=>tell n v
theorem absV_rel {P:Program} {n:Nat} {w:World} {v:Value} (h:∀ c∈v.cells.toList,tame n c=true):VR P n φ0 n w (absV n v) v:=by
 cases v with
 | agg cs=>
  refine .agg _ _ (by simp) fun i x y hx hy=>?_
  have hy':cs.toList[i]? = some y:=by simpa using hy
  have hx':x=tell n y:=by
   simp at hx
   obtain ⟨z,h1,h2⟩:=hx
   have h1':cs[i]? = some z:=h1
   have:cs[i]? = some y:=by simpa using hy
   rw [h1'] at this
   injection this with this
   subst this
   exact h2.symm
  rw [hx']
  exact tell_rel (h y (by simp only [Value.cells];exact List.mem_of_getElem? hy'))
 | _=>exact tell_rel (h _ (by simp [Value.cells]))
section
variable {P:Program} {h:AH} {f t:Nat} {cs:List Value}
theorem Rd.int {k:IntKind} (x:Rd P h f t cs) (hu:P.underlying t=some (.int k)):∃ n,cs = [.int k n]∧(Lit.int k n).wf=true:=by
 cases f with
 | zero=>exact x.elim
 | succ f=>simp only [Rd,hu] at x;exact x
theorem Rd.bool (x:Rd P h f t cs) (hu:P.underlying t=some .bool):∃ b,cs = [.bool b]:=by
 cases f with
 | zero=>exact x.elim
 | succ f=>simp only [Rd,hu] at x;exact x
theorem Rd.str (x:Rd P h f t cs) (hu:P.underlying t=some .string):∃ s:ByteArray,cs = [.string s]∧s.size≤maxLen:=by
 cases f with
 | zero=>exact x.elim
 | succ f=>simp only [Rd,hu] at x;exact x
theorem Rd.slice {e:Nat} (x:Rd P h f t cs) (hu:P.underlying t=some (.slice e)):∃ g a n vs,cs = [.slice a n n]∧n≤maxLen∧Sl h a vs∧vs.length=n*P.cellsOf e∧∀ i,i<n→Rd P h g e ((vs.drop (i*P.cellsOf e)).take (P.cellsOf e)):=by
 cases f with
 | zero=>exact x.elim
 | succ f=>
  simp only [Rd,hu] at x
  obtain ⟨a,n,vs,h1⟩:=x
  exact ⟨f,a,n,vs,h1⟩
theorem Rd.struct {fs:Array Field} (x:Rd P h f t cs) (hu:P.underlying t=some (.struct fs)):cs.length=P.cellsOf t∧∃ g,∀ fd∈fs.toList,Rd P h g fd.type ((cs.drop fd.offset).take (P.cellsOf fd.type)):=by
 cases f with
 | zero=>exact x.elim
 | succ f=>
  simp only [Rd,hu] at x
  exact ⟨x.1,f,x.2⟩
theorem Rd.ints {e:Nat} {k:IntKind} (x:Rd P h f t cs) (hu:P.underlying t=some (.slice e)) (he:P.underlying e=some (.int k)) (hc:P.cellsOf e=1) :
  ∃ a zs,cs = [.slice a (List.length zs) (List.length zs)]∧zs.length≤maxLen∧Sl h a (iv k zs)∧∀ n∈zs,(Lit.int k n).wf=true:=by
 obtain ⟨g,a,n,vs,h1,h2,h3,h4,h5⟩:=x.slice hu
 rw [hc] at h4 h5
 simp only [Nat.mul_one] at h4 h5
 have each:∀ i,i<n→∃ z,vs[i]? = some (.int k z)∧(Lit.int k z).wf=true:=by
  intro i hi
  obtain ⟨z,h6,h7⟩:=(h5 i hi).int he
  have h8:((vs.drop i).take 1)[0]? = some (.int k z):=by rw [h6];rfl
  rw [List.getElem?_take_of_lt (by decide),List.getElem?_drop] at h8
  exact ⟨z,h8,h7⟩
 let z:Nat→Int:=fun i=>if hi:i<n then (each i hi).choose else 0
 have hz:∀ i,i<n→vs[i]? = some (.int k (z i))∧(Lit.int k (z i)).wf=true:=by
  intro i hi
  simp only [z,hi,dite_true]
  exact (each i hi).choose_spec
 have e1:vs=iv k ((List.range n).map z):=by
  apply List.ext_getElem?
  intro i
  by_cases hi:i<n
  ·rw [(hz i hi).1];simp [iv,hi]
  ·rw [List.getElem?_eq_none (by omega),List.getElem?_eq_none (by simp;omega)]
 refine ⟨a,(List.range n).map z,by simpa using h1,by simpa using h2,e1 ▸ h3,fun m hm=>?_⟩
 simp only [List.mem_map,List.mem_range] at hm
 obtain ⟨i,hi,rfl⟩:=hm
 exact (hz i hi).2
end
abbrev vI (n:Int):Value:=.int .i64 n
abbrev vL (a:Option Addr) (n:Nat):Value:=.slice a n n
abbrev vT (s:ByteArray):Value:=.string s
abbrev vP (b:Nat):Value:=.pointer (some ⟨b,0,none⟩)
abbrev vA (a:Addr):Value:=.pointer (some a)
section
variable {R:Type}
abbrev gI (x:Option Value) (f:Int→Option R):Option R:=(x.bind (getI .i64)).bind f
abbrev gU (x:Option Value) (f:Int→Option R):Option R:=(x.bind (getI .u8)).bind f
abbrev gL (x:Option Value) (f:Option Addr×Nat→Option R):Option R:=(x.bind getS).bind f
abbrev gT (x:Option Value) (f:ByteArray→Option R):Option R:=(x.bind getStr).bind f
abbrev gB (x:Option Value) (f:Bool→Option R):Option R:=(x.bind getB).bind f
abbrev gP (x:Option Value) (f:Option Addr→Option R):Option R:=(x.bind getP).bind f
abbrev gA (x:Option Value) (f:Addr→Option R):Option R:=(x.bind getA).bind f
abbrev gG (x:Option Value) (n:Nat) (f:List Value→Option R):Option R:=(x.bind (getAgg n)).bind f
abbrev nw1 (h:AH) (t:Nat) (cs:List Value) (f:AH→Option R):Option R:=(some (h++[some ⟨cs,t⟩])).bind f
end
end Go.Proofs.Ytkdenmdijdmnjaa.Am
