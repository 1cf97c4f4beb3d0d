/- What the functions of this law compute, lemma by lemma, up to the law.
Conditions: none. -/
import Derived.Test.YtkdenmdijdmnjaaGreatP2
import Derived.IntWalk
import Derived.Laws.BitsLemmas
set_option linter.unusedSimpArgs false
set_option linter.unusedVariables false
namespace Go.Proofs.YtkdenmdijdmnjaaGreat.Am
open Go Go.RowKit
open _root_.Go.IntKind renaming wrap->ag
open _root_.Int renaming le_refl->gb,toNat->af,toNat_natCast->aM
open _root_.List renaming drop_eq_getElem_cons->dJ,drop_eq_nil_of_le->dZ,drop_of_length_le->sM,drop_zero->cH,eq_nil_of_length_eq_zero->iL,getElem?_drop->bZ,getElem?_eq_none->cE,getElem?_eq_some_iff->bY,getElem?_set_ne->qp,getElem?_set_self->vp,getElem?_take_of_lt->bJ,getElem_mem->aQ,getElem_set->Aw,length_append->py,length_drop->uo,length_map->pF,length_take->iV,mem_cons->bn,mem_map->dR,mem_of_getElem?->dX,mem_of_mem_drop->rm,mem_of_mem_take->um,nil_append->kj,not_mem_nil->kl,pairwise_iff_getElem->gx,range->dM,set_append_right->uq,set_cons_zero->Ht,take_of_length_le->cG
open _root_.Nat renaming add_mul->mH,add_one_mul->Ad,le_refl->aT,le_trans->gi,lt_or_gt_of_ne->mV,min_eq_left->pB,mul_one->kh,one_mul->Hp,zero_add->cQ

variable{h h':AH}{A:Ac}{s:ByteArray}{D:Ds}{C S V:Fp}{k n next pid v z:Int}{ai:List Ac}{l zs:List Int}{R:List Rs}{cs dp vs:List Value}{F base bytes f i j m n0 ob pb q rb t w:Nat}{p:Nat->Prop}{src:Option (List Value)}{a b c g ta:Option Addr}{P:Pl}{α β:Type}
theorem lK{xs:List Int}(hs:Sl h a (iv .i64 xs))(hl:xs.length<=1048576*4)(hb:base<=h.length):
  ∃ a' h',run (Et base) 100 [.slice a xs.length xs.length] h=some (.slice a' xs.length xs.length,h')/\bQ base 3 h' a' (iv .i64 xs)/\KB bp h h'/\(∀ b,bK a' b->h.length<=b):=by
 have hr:br h a (xs.length*1)=some (iv .i64 xs):=by
  have:=hs.BK (t_ _ _)
  simpa using this
 obtain ⟨a1,h1,g1,g2,g3,g4⟩:=bQ.app (x:=(.inl ⟨rfl,rfl⟩:bQ base 3 h none [])) (bytes:=8) (n:=0) (m:=xs.length) (sz:=1) (by simp) (by simp) hr hb (by omega) (by omega) (by simp)
 simp only [cQ,kj] at g1 g2
 refine ⟨a1,h1,Am.qV (Am.bs g1 (Am.bS rfl rfl)),g2,g3.mono (λi hi ⟨ad,e,_⟩=>by cases e),λb cy=>?_⟩
 rcases g4 with ⟨_,e,_⟩|g4
 ·rw [e] at cy;obtain ⟨_,e,_⟩:=cy;cases e
 ·have:=g4 b cy;omega
theorem pU(hB:x_ f A)(x:rH h p f A cs)(hb:base<=h.length)(hp:∀ b,p b->b<h.length):
  ∃ fy h',run (Et base) 52 [.agg cs.toArray] h=some (.agg fy.toArray,h')/\b_ base f (iS h.length h'.length) h' A fy/\KB bp h h':=by
 obtain ⟨a,b,g,rfl,hr,hx,hl,U1⟩:=x
 obtain ⟨m1,m2,m3,m4,m5⟩:=hB
 suffices w:Wp (run (Et base) 52 [.agg (de A.pid A.pc a A.aH.length b A.box.length g A.aw.length).toArray] h) λr=>∃ fy,r.1 = .agg fy.toArray/\b_ base f (iS h.length r.2.length) r.2 A fy/\KB bp h r.2 by
  obtain ⟨⟨u,h'⟩,e,fy,rfl,q⟩:=w
  exact ⟨fy,h',e,q⟩
 refine W.of (λr hx=>Am.XP hx) ?_
 refine W.box hb λh1 o1 k1 q1=>W.box (base:=base) (by omega) λh2 o2 k2 q2=>W.bS ((o1.aj k2).ap (i:=2) rfl) ?_
 have o1:=o1.aj k2
 have dH:=kN k1 k2
 obtain ⟨a3,h3,e3,r3,k3⟩:=lI (base:=base) (cK f) m1 m4 (hr.ax dH λ_ _ h=>h) (by omega) (λb hb=>by have:=hp b hb;omega)
 have n3:=k3.1
 have fg:=kN dH k3
 refine W.bs e3 (W.bS rfl (W.gt (d_ k3 (o1.ap (i:=3) rfl)) (W.bS ((o1.aj k3).ap (i:=3) rfl) ?_)))
 obtain ⟨a4,h4,e4,r4,k4⟩:=lI (base:=base) (cK f) m2 m5 (hx.ax fg λ_ _ h=>h) (by omega) (λb hb=>by have:=hp b hb;omega)
 have n4:=k4.1
 have oL:=kN fg k4
 have o4:=(o1.aj k3).aj k4
 refine W.bs e4 (W.bS rfl (W.gt (d_ k4 ((o1.aj k3).ap (i:=4) rfl)) (W.gt (d_ (kN k3 k4) (o1.ap (i:=4) rfl)) (W.bS (o4.ap (i:=4) rfl) ?_))))
 obtain ⟨a5,h5,e5,r5,k5,f5⟩:=lK (base:=base) (hl.aj oL) (by omega) (by omega)
 have n5:=k5.1
 have qZ:=kN oL k5
 refine W.bs e5 (W.bS rfl (W.fF (o4.aj k5) (by simp) (by simp) λh6 o6 k6 l6=>W.fF o6 (by simp [setAt]) (by simp) λh7 o7 k7 l7=>W.fF o7 (by simp [setAt]) (by simp) λh8 o8 k8 l8=>?_))
 have jp:setAt (setAt (setAt (de A.pid A.pc a A.aH.length b A.box.length g A.aw.length) 2 [.slice a3 A.aH.length A.aH.length]) 3 [.slice a4 A.box.length A.box.length]) 4 [.slice a5 A.aw.length A.aw.length]=de A.pid A.pc a3 A.aH.length a4 A.box.length a5 A.aw.length:=rfl
 rw [jp] at o8
 have k58:KB (· = h.length) h5 h8:=KB.trans (KB.trans k6 k7 (λ_ _ h=>h) (λ_ _ h=>h)) k8 (λ_ _ h=>h) (λ_ _ h=>h)
 refine W.bI (o8.ap (i:=0) rfl) (W.bI (o8.ap (i:=1) rfl) (W.bS (o8.ap (i:=2) rfl) (W.bS (o8.ap (i:=3) rfl) (W.bS (o8.ap (i:=4) rfl) ?_))))
 have z8:=(((o2.aj k3).aj k4).aj k5).bF k58 λi hi=>by rw [aG] at hi;omega
 refine W.fF z8 (by simp) (by simp) λh9 o9 k9 l9=>?_
 have hz:setAt (de 0 0 none 0 none 0 none 0) 0 (de A.pid A.pc a3 A.aH.length a4 A.box.length a5 A.aw.length)=de A.pid A.pc a3 A.aH.length a4 A.box.length a5 A.aw.length:=rfl
 rw [hz] at o9
 refine W.bI (o9.ap (i:=0) rfl) (W.bI (o9.ap (i:=1) rfl) (W.bS (o9.ap (i:=2) rfl) (W.bS (o9.ap (i:=3) rfl) (W.bS (o9.ap (i:=4) rfl) (W.ret ⟨_,rfl,?_,?_⟩)))))
 ·have n9:h9.length=h5.length:=l9.trans (l8.trans (l7.trans l6))
  refine ⟨a3,a4,a5,iS h2.length h3.length,iS h3.length h4.length,iS h4.length h5.length,rfl,((((r3.ax (bM.kp _ _) k4 λ_ _ h=>h).ax (bM.kp _ _) k5 λ_ _ h=>h).ax (bM.kp _ _) k58 λb hb hk=>by omega).ax (bM.kp _ _) k9 λb hb hk=>by omega),
   (((r4.ax (bM.kp _ _) k5 λ_ _ h=>h).ax (bM.kp _ _) k58 λb hb hk=>by omega).ax (bM.kp _ _) k9 λb hb hk=>by omega),(r5.bF k58 λb hb=>by have:=f5 b hb;omega).bF k9 λb hb=>by have:=f5 b hb;omega,λb hb=>⟨f5 b hb,(r5.lt hb).2⟩,λb hb=>⟨by omega,by show b<h9.length;omega⟩,λb hb=>⟨by omega,by show b<h9.length;omega⟩,λb hb=>⟨by omega,by show b<h9.length;omega⟩,λb h1 h2=>by omega,λb h1 h2=>by omega,λb h1 h2=>by omega⟩
 ·exact bR (bR qZ k58 λi hi=>by omega) k9 λi hi=>by omega
theorem q7{n:Nat}{kd pc nn:Int}(o:bQ base t h (ap n) (i_ kd pid pc k nn s a m)){Q:β->Prop}{f:Int->Int->Int->Int->Int->ByteArray->Option Addr×Nat->Option β}(w:Wp (f kd pid pc k nn s (a,m)) Q):
  Wp (((Am.cell h n 0).bind (au .i64)).bind λn1=>((Am.cell h n 1).bind (au .i64)).bind λn2=>((Am.cell h n 2).bind (au .i64)).bind λn3=>((Am.cell h n 3).bind (au .i64)).bind λn4=>((Am.cell h n 4).bind (au .i64)).bind λn5=>((Am.cell h n 5).bind aK).bind λs6=>((Am.cell h n 6).bind aN).bind λl7=>f n1 n2 n3 n4 n5 s6 l7) Q:=
 W.bI (o.ap (i:=0) rfl) (W.bI (o.ap (i:=1) rfl) (W.bI (o.ap (i:=2) rfl) (W.bI (o.ap (i:=3) rfl) (W.bI (o.ap (i:=4) rfl) (W.bT (o.ap (i:=5) rfl) (W.bS (o.ap (i:=6) rfl) w))))))
theorem mf:bM base (f+1) S h tk (ah 0 0 ⟨#[]⟩ none 0):=⟨by decide,by decide,none,rfl,a_.nil⟩
theorem NJ{R:List Tm}{v:Option Addr}{x:In}(hR:iQ h p (f+1) R v)(hn:R.length=8)(hx:Yo x)(hB:∀ t∈R,jJ (f+1) t)(hb:base<=h.length)(hp:∀ b,p b->b<h.length):
  ∃ k n s a m h',run (Et base) 57 [.agg (h_ x).toArray,.slice v R.length R.length,.int .i64 next] h=some (.tuple #[.agg (i_ (cC x R next).1.kind (cC x R next).1.pid (cC x R next).1.pc k n s a m).toArray,.bool (cC x R next).2],h') /\
   bM base (f+1) (iS h.length h'.length) h' (cC x R next).1.t (ah k n s a m)/\KB bp h h':=by
 obtain ⟨⟨a0,a7⟩,⟨b0,b7⟩,_,_,_,_,_⟩:=hx
 suffices w:Wp (run (Et base) 57 [.agg (h_ x).toArray,.slice v R.length R.length,.int .i64 next] h) λr=>∃ k n s a m,r.1 = .tuple #[.agg (i_ (cC x R next).1.kind (cC x R next).1.pid (cC x R next).1.pc k n s a m).toArray,.bool (cC x R next).2] /\
   bM base (f+1) (iS h.length r.2.length) r.2 (cC x R next).1.t (ah k n s a m)/\KB bp h r.2 by
  obtain ⟨⟨u,h'⟩,e,k,n,s,a,m,rfl,q⟩:=w
  exact ⟨k,n,s,a,m,h',e,q⟩
 refine W.of (λr hx=>Am.XM hx) ?_
 refine W.box hb λh1 o1 k1 q1=>W.box (base:=base) (by omega) λh2 o2 k2 q2=>W.bI ((o1.aj k2).ap (i:=1) rfl) (W.aE ⟨a0,by omega⟩ ?_)
 have o1:=o1.aj k2
 have dH:=kN k1 k2
 have ha:x.a.toNat<R.length:=by omega
 have eA:=jX (R:=R) a0 ha
 obtain ⟨ad,k,n,s,a2,m,rfl,g0,g1,g2,g3,hm⟩:=(hR.ax dH λ_ _ h=>h).tJ ha
 refine W.bs rfl (W.bI g0 (W.bI g1 (W.bT g2 (W.bS g3 (W.nw (base:=base) (by omega) rfl λh3 o3 k3 q3=>?_)))))
 have o1:=o1.aj k3
 have o2:=o2.aj k3
 have fg:=kN dH k3
 have hkd:(rg R x.a).kd=k/\(rg R x.a).nm=n:=by
  rw [eA]
  generalize R[x.a.toNat]=t at hm
  obtain ⟨k',n',s',l'⟩:=t
  obtain ⟨_,bV,_⟩:=hm.parts
  injection bV with e0 bV
  injection bV with e1 _
  injection e0 with _ e0
  injection e1 with _ e1
  exact ⟨e0.symm,e1.symm⟩
 have fin:∀ {h4 h5:AH} {kd pid pc k' n':Int} {s':ByteArray} {a':Option Addr} {m':Nat} {t:Tm} (k34:KB bp h3 h4) (o5:bQ base 58 h5 (ap h1.length) (setAt (i_ 0 0 0 0 0 ⟨#[]⟩ none 0) 0 (i_ kd pid pc k' n' s' a' m'))) (k45:KB (· = h1.length) h4 h5) (EZ:h5.length=h4.length) (ht:bM base (f+1) (iS h3.length h4.length) h4 t (ah k' n' s' a' m')),
   bQ base 58 h5 (ap h1.length) (i_ kd pid pc k' n' s' a' m')/\bM base (f+1) (iS h.length h5.length) h5 t (ah k' n' s' a' m')/\KB bp h h5:=by
  intro h4 h5 kd pid pc k' n' s' a' m' t k34 o5 k45 EZ ht
  have Oh:=k34.1
  have hz:setAt (i_ 0 0 0 0 0 ⟨#[]⟩ none 0) 0 (i_ kd pid pc k' n' s' a' m')=i_ kd pid pc k' n' s' a' m':=rfl
  rw [hz] at o5
  exact ⟨o5,bM.mo _ _ _ _ _ _ _ (λb hb=>by constructor<;>omega) (bM.kp _ _ _ _ _ _ _ _ k45 (λb hb hk=>by omega) ht),bR (kN fg k34) k45 λi hi=>by omega⟩
 have zl:(i_ 0 0 0 0 0 ⟨#[]⟩ none 0).length=7:=rfl
 unfold cC
 rw [hkd.1,hkd.2]
 refine W.bI (o1.ap (i:=0) rfl) (W.ite (λc=>?_) λc=>?_)
 ·rw [if_pos c]
  have c':=beq_iff_eq.1 c
  have hb7:x.b<=7:=b7.resolve_left (by omega)
  have eN:x.b.toNat<R.length:=by omega
  obtain ⟨qW,kb,nb,sb,ab,mb,e2,y0,y1,y2,y3,VS⟩:=((hR.ax dH λ_ _ h=>h).ax k3 λ_ _ h=>h).tJ eN
  injection e2 with e2
  subst e2
  refine W.bI (o3.ap (i:=1) rfl) (W.bI (o1.ap (i:=2) rfl) (W.aE ⟨b0,by omega⟩ (W.bs rfl (W.bI y0 (W.bI y1 (W.bT y2 (W.bS y3 ?_)))))))
  obtain ⟨U6,h4,e4,t4,k4⟩:=cK (base:=base) (f+1) h3 p _ _ VS (hB _ (aQ eN)) (by omega) (λb hb=>by have:=hp b hb;omega)
  obtain ⟨k',n',s',a',m',rfl⟩:=t4.form
  have n4:=k4.1
  refine W.bs e4 (W.g4 (W.gt (d_ k4 (o3.ap (i:=1) rfl)) (W.gt (d_ k4 (o3.ap (i:=0) rfl)) (W.bI ((o3.aj k4).ap (i:=0) rfl) (W.fF (o2.aj k4) (by rw [zl];simp) (by simp) λh5 o5 k5 l5=>?_)))))
  obtain ⟨o5,t5,qZ⟩:=fin k4 o5 k5 l5 t4
  have o35:=(o3.aj k4).bF k5 λi hi=>by rw [aG] at hi;omega
  refine W.gt (λad e=>?_) (q7 o5 (W.ret ⟨_,_,_,_,_,rfl,?_,qZ⟩))
  ·injection e with e
   subst e
   have dv:¬(h2.length=h1.length):=by omega
   have hg:=k5.2 h2.length (show h2.length<_ by first|(show h2.length<h4.length;omega)|(show h2.length<h3.length;omega)) dv
   exact ⟨λj _=>by unfold Am.cell;simp only [hg],by simp only [hg]⟩
  ·rw [jX b0 eN];exact t5
 rw [if_neg c]
 refine W.ite (λc=>?_) λc=>?_
 ·rw [if_pos c]
  have c':=beq_iff_eq.1 c
  have hb7:x.b<=7:=b7.resolve_left (by omega)
  have eN:x.b.toNat<R.length:=by omega
  obtain ⟨qW,kb,nb,sb,ab,mb,e2,y0,y1,y2,y3,VS⟩:=((hR.ax dH λ_ _ h=>h).ax k3 λ_ _ h=>h).tJ eN
  injection e2 with e2
  subst e2
  refine W.bI (o1.ap (i:=4) rfl) (W.bI (o1.ap (i:=2) rfl) (W.aE ⟨b0,by omega⟩ (W.bs rfl (W.bI y0 (W.bI y1 (W.bT y2 (W.bS y3 ?_)))))))
  obtain ⟨U6,h4,e4,t4,k4⟩:=cK (base:=base) (f+1) h3 p _ _ VS (hB _ (aQ eN)) (by omega) (λb hb=>by have:=hp b hb;omega)
  obtain ⟨k',n',s',a',m',rfl⟩:=t4.form
  have n4:=k4.1
  refine W.bs e4 (W.g4 (W.gt (d_ k4 (o1.ap (i:=4) rfl)) (W.fF (o2.aj k4) (by rw [zl];simp) (by simp) λh5 o5 k5 l5=>?_)))
  obtain ⟨o5,t5,qZ⟩:=fin k4 o5 k5 l5 t4
  refine q7 o5 (W.ret ⟨_,_,_,_,_,rfl,?_,qZ⟩)
  rw [jX b0 eN];exact t5
 rw [if_neg c]
 have hm3:=cD.ax k3 (λ_ _ h=>h) _ _ _ hm
 refine W.ite (λc=>?_) λc=>?_
 ·rw [if_pos c]
  obtain ⟨U6,h4,e4,t4,k4⟩:=cK (base:=base) (f+1) h3 p _ _ hm3 (hB _ (aQ ha)) (by omega) (λb hb=>by have:=hp b hb;omega)
  obtain ⟨k',n',s',a',m',rfl⟩:=t4.form
  have n4:=k4.1
  refine W.q4 o3 (W.bs e4 (W.g4 (W.fF (o2.aj k4) (by rw [zl];simp) (by simp) λh5 o5 k5 l5=>?_)))
  obtain ⟨o5,t5,qZ⟩:=fin k4 o5 k5 l5 t4
  refine q7 o5 (W.ret ⟨_,_,_,_,_,rfl,?_,qZ⟩)
  rw [eA];exact t5
 rw [if_neg c]
 refine W.ite (λc=>?_) λc=>?_
 ·rw [if_pos c]
  refine W.bI (o3.ap (i:=1) rfl) (W.bI (o3.ap (i:=0) rfl) (W.fF o2 (by rw [zl];simp) (by simp) λh5 o5 k5 l5=>?_))
  obtain ⟨o5,t5,qZ⟩:=fin (KB.refl _ _) o5 k5 l5 mf
  refine W.gt (λad e=>?_) (q7 o5 (W.ret ⟨_,_,_,_,_,rfl,t5,qZ⟩))
  injection e with e
  subst e
  have dv:¬(h2.length=h1.length):=by omega
  have hg:=k5.2 h2.length (show h2.length<_ by first|(show h2.length<h4.length;omega)|(show h2.length<h3.length;omega)) dv
  exact ⟨λj _=>by unfold Am.cell;simp only [hg],by simp only [hg]⟩
 rw [if_neg c]
 refine W.ite (λc=>?_) λc=>?_
 ·rw [if_pos c]
  obtain ⟨U6,h4,e4,t4,k4⟩:=cK (base:=base) (f+1) h3 p _ _ hm3 (hB _ (aQ ha)) (by omega) (λb hb=>by have:=hp b hb;omega)
  obtain ⟨k',n',s',a',m',rfl⟩:=t4.form
  have n4:=k4.1
  refine W.q4 o3 (W.bs e4 (W.g4 (W.fF (o2.aj k4) (by rw [zl];simp) (by simp) λh5 o5 k5 l5=>?_)))
  obtain ⟨o5,t5,qZ⟩:=fin k4 o5 k5 l5 t4
  refine q7 o5 (W.ret ⟨_,_,_,_,_,rfl,?_,qZ⟩)
  rw [eA];exact t5
 rw [if_neg c]
 refine W.fF o2 (by rw [zl];simp) (by simp) λh5 o5 k5 l5=>?_
 obtain ⟨o5,t5,qZ⟩:=fin (KB.refl _ _) o5 k5 l5 mf
 exact q7 o5 (W.ret ⟨_,_,_,_,_,rfl,t5,qZ⟩)
def QC:ByteArray:=⟨#[102,97,117,108,116]⟩
theorem IR(hb:base<=h.length):∃ h',run (Et base) 58 [] h=some (.agg (i_ 7 0 0 2 0 QC none 0).toArray,h')/\KB bp h h':=by
 refine (Wp.run (P:=λh'=>KB bp h h') ?_)
 refine W.of (λr hx=>Am.r58 hx) ?_
 refine W.box hb λh1 o1 k1 q1=>?_
 obtain ⟨h2,e2,k2⟩:=vD (base:=base) (h:=h1) (w:=QC) (by omega)
 refine W.bs e2 (W.g4 (W.fF (o1.aj k2) (by simp) (by simp) λh3 o3 k3 l3=>?_))
 have hz:setAt (i_ 0 0 0 0 0 ⟨#[]⟩ none 0) 0 (i_ 7 0 0 2 0 QC none 0)=i_ 7 0 0 2 0 QC none 0:=rfl
 rw [hz] at o3
 exact q7 o3 (W.ret ⟨rfl,bR (kN k1 k2) k3 λi hi=>by omega⟩)
theorem IS{op:Int}:run (Et base) 59 [.int .i64 op] h=some (.bool (fH op),h):=by
 have w:Wp (run (Et base) 59 [.int .i64 op] h) λr=>r=(.bool (fH op),h):=by
  refine W.of (λr hx=>Am.r59 hx) ?_
  refine W.kL (λq=>q=([some (.bool (!fH op))],h)) ?_ λq hq=>?_
  ·unfold fH
   rw [Bool.not_not]
   refine W.ite (λc=>?_) λc=>?_
   ·rw [if_pos c];exact W.inl (by rw [c])
   rw [if_neg c]
   refine W.ite (λc=>?_) λc=>?_
   ·rw [if_pos c];exact W.inl (by rw [c])
   rw [if_neg c]
   refine W.ite (λc=>?_) λc=>?_
   ·rw [if_pos c];exact W.inl (by rw [c])
   rw [if_neg c]
   refine W.ite (λc=>?_) λc=>?_
   ·rw [if_pos c];exact W.inl (by rw [c])
   rw [if_neg c]
   refine W.ite (λc=>?_) λc=>?_
   ·rw [if_pos c];exact W.inl (by rw [c])
   rw [if_neg c]
   refine W.ite (λc=>?_) λc=>?_
   ·rw [if_pos c];exact W.inl (by rw [c])
   rw [if_neg c]
   exact W.inl rfl
  ·subst hq
   refine W.bB rfl (W.ite (λc=>?_) λc=>?_)
   ·exact W.ret (by simp at c;rw [c])
   ·exact W.ret (by simp at c;rw [c])
 obtain ⟨r,e,rfl⟩:=w
 exact e
theorem IT{R:List Tm}{v:Option Addr}{x:In}(hR:iQ h p f R v)(hn:R.length=8)(hx:Yo x)(hb:base<=h.length):
  ∃ h',run (Et base) 63 [.agg (h_ x).toArray,.slice v R.length R.length] h=some (.bool (eM f x R),h')/\KB bp h h':=by
 obtain ⟨⟨a0,a7⟩,⟨b0,b7⟩,_,_,_,_,_⟩:=hx
 refine (Wp.run (P:=λh'=>KB bp h h') ?_)
 refine W.of (λr hx=>Am.r63 hx) ?_
 refine W.box hb λh1 o1 k1 q1=>W.bI (o1.ap (i:=0) rfl) ?_
 have ha:x.a.toNat<R.length:=by omega
 have eA:=jX (R:=R) a0 ha
 have hR1:=hR.ax k1 λ_ _ h=>h
 obtain ⟨ad,k,n,s,a2,m,rfl,g0,g1,g2,g3,hm⟩:=hR1.tJ ha
 unfold eM
 refine W.ite (λc=>?_) λc=>?_
 ·rw [if_pos c]
  have c':=beq_iff_eq.1 c
  have hb7:x.b<=7:=b7.resolve_left (by omega)
  have eN:x.b.toNat<R.length:=by omega
  obtain ⟨qW,kb,nb,sb,ab,mb,e2,y0,y1,y2,y3,VS⟩:=hR1.tJ eN
  injection e2 with e2
  subst e2
  obtain ⟨h2,e2,k2⟩:=rh (base:=base) f f h1 p p _ _ _ _ hm VS (by omega)
  refine W.bI (o1.ap (i:=1) rfl) (W.aE ⟨a0,by omega⟩ (W.bs rfl (W.bI g0 (W.bI g1 (W.bT g2 (W.bS g3 ?_))))))
  refine W.bI (o1.ap (i:=2) rfl) (W.aE ⟨b0,by omega⟩ (W.bs rfl (W.bI y0 (W.bI y1 (W.bT y2 (W.bS y3 (W.bs e2 (W.bB rfl (W.ret ⟨?_,kN k1 k2⟩)))))))))
  rw [eA,jX b0 eN]
 rw [if_neg c]
 refine W.ite (λc=>?_) λc=>?_
 ·rw [if_pos c]
  refine W.bI (o1.ap (i:=1) rfl) (W.aE ⟨a0,by omega⟩ (W.bs rfl (W.bI g0 (W.bI (o1.ap (i:=2) rfl) (W.ret ⟨?_,k1⟩)))))
  rw [eA]
  generalize R[x.a.toNat]=t at hm
  cases f with
  | zero=>exact hm.elim
  | succ f=>
   obtain ⟨k',n',s',l'⟩:=t
   obtain ⟨_,bV,_⟩:=hm.parts
   injection bV with e0 _
   injection e0 with _ e0
   subst e0
   rfl
 rw [if_neg c]
 exact W.bI (o1.ap (i:=0) rfl) (W.ret ⟨rfl,k1⟩)
theorem bM.parts{t:Tm}(x:bM base (f+1) S h t (ah k n s a m)):∃ l,t = .mk k n s l/\m=l.length/\s.size<=maxLen/\l.length<=maxLen/\a_ base 56 4 (bM base f) S h l a:=by
 obtain ⟨k',n',s',l⟩:=t
 obtain ⟨h1,h2,a',bV,r⟩:=x
 injection bV with q0 bV
 injection bV with q1 bV
 injection bV with q2 bV
 injection bV with q3 _
 injection q0 with _ q0;injection q1 with _ q1;injection q2 with q2;injection q3 with q3 q4 _
 subst q0;subst q1;subst q2;subst q3
 exact ⟨l,rfl,q4,h1,h2,r⟩
theorem QD:iQ h p f [] a:=⟨[],.inl rfl,.inl rfl,rfl,λi t hi=>by simp at hi⟩
theorem sK(hs:s.size<=maxLen):cD h p (f+1) (.mk k n s []) (ah k n s none 0):=cD.of (l:=[]) QD hs (by decide)
theorem NK{R:List Tm}{v:Option Addr}{x:In}(hR:a_ base 56 4 (bM base (f+1)) S h R v)(hn:R.length=8)(hx:Yo x)(HQ:x.b<=7)(hxs:x.s.size<=1048576)(hB:∀ t∈R,jJ (f+1) t)(hS:∀ b,S b->b<h.length)(hb:base<=h.length):
  Wp (run (Et base) 60 [.agg (h_ x).toArray,.slice v R.length R.length,.int .i64 pid,.int .i64 next] h) λr=>∃ k n s a m b,r.1 = .tuple #[.agg (ah k n s a m).toArray,.bool b]/\KB bp h r.2/\match cu x R pid next with|none=>b=false|some t=>b=true/\cD r.2 (λb=>S b\/h.length<=b) (f+2) t (ah k n s a m):=by
 obtain ⟨⟨a0,a7⟩,⟨b0,_⟩,⟨c0,c7⟩,hx4,hx6,Yp,Yq⟩:=hx
 refine W.of (λr hx=>Am.MB hx) ?_
 refine W.box hb λh1 o1 k1 q1=>W.box (base:=base) (by omega) λh2 oZ k2 q2=>W.bI ((o1.aj k2).ap (i:=2) rfl) (W.aE ⟨b0,by omega⟩ ?_)
 have o1:=o1.aj k2
 have dH:=kN k1 k2
 have eN:x.b.toNat<R.length:=by omega
 have nI:x.c.toNat<R.length:=by omega
 have hR2:=hR.ax (bM.kp _ _) dH λ_ _ h=>h
 obtain ⟨ad,kb,nb,sb,ab,mb,CB,rfl,hbk,g0,g1,g2,g3,hmB,hCB⟩:=hR2.FY eN
 obtain ⟨qW,kc,nc,sc,ac,mc,CC,e2,_,y0,y1,y2,y3,hmC,hCC⟩:=hR2.FY nI
 injection e2 with e2
 subst e2
 have alz:ad.block<h.length:=by
  obtain ⟨vs,T,w1,w2,w3,_⟩:=hR
  exact hS _ (w3 _ ⟨ad,rfl,rfl⟩).1
 have eB:=jX (R:=R) b0 eN
 have eC:=jX (R:=R) c0 nI
 obtain ⟨lb,Em,rfl,hsb,U1,FZ⟩:=hmB.parts
 obtain ⟨lc,eC',rfl,hsc,hlc,Yr⟩:=hmC.parts
 rw [Em] at eB
 rw [eC'] at eC
 have En:=hB _ (aQ eN)
 have F0:=hB _ (aQ nI)
 rw [Em] at En
 rw [eC'] at F0
 refine W.bs rfl (W.bI g0 (W.bI g1 (W.bT g2 (W.bS g3 (W.bI (o1.ap (i:=3) rfl) (W.aE ⟨c0,by omega⟩ (W.bs rfl (W.bI y0 (W.bI y1 (W.bT y2 (W.bS y3 ?_)))))))))))
 refine W.gt (ma (by omega)) (W.gt (ma (by omega)) (W.gt (ma (by omega)) (W.gt (ma (by omega)) (W.box (base:=base) (by omega) λh3 oB k3 q3=>?_))))
 refine W.gt (ma (by omega)) (W.gt (ma (by omega)) (W.gt (ma (by omega)) (W.gt (ma (by omega)) (W.box (base:=base) (by omega) λh4 oC k4 q4=>?_))))
 refine W.fF (oB.aj k4) (by simp) (by simp) λh5 oB k5 l5=>W.gt (hO k5 (by omega) (by omega)) (W.gt (hO k5 (by omega) (by omega)) (W.fF (oC.bF k5 λi hi=>by rw [aG] at hi;omega) (by simp) (by simp) λh6 oC k6 l6=>?_))
 have zB:setAt (ah 0 0 ⟨#[]⟩ none 0) 0 (ah kb nb sb ab lb.length)=ah kb nb sb ab lb.length:=rfl
 have zC:setAt (ah 0 0 ⟨#[]⟩ none 0) 0 (ah kc nc sc ac lc.length)=ah kc nc sc ac lc.length:=rfl
 rw [zB] at oB
 rw [zC] at oC
 have oB:=oB.bF k6 λi hi=>by rw [aG] at hi;omega
 have oL:=kN (kN dH k3) k4
 have Hm:KB bp h h6:=bR (bR oL k5 λi hi=>by omega) k6 λi hi=>by omega
 have k26:KB bp h2 h6:=bR (bR (kN k3 k4) k5 λi hi=>by omega) k6 λi hi=>by omega
 have o1:=o1.aj k26
 have oZ:=oZ.aj k26
 have hR6:=hR.ax (bM.kp _ _) Hm λ_ _ h=>h
 have FZ:=FZ.ax (bM.kp _ _) k26 λ_ _ h=>h
 have Yr:=Yr.ax (bM.kp _ _) k26 λ_ _ h=>h
 have hSB:∀ b,CB b->S b\/h6.length<=b:=λb hb=>.inl (hCB b hb)
 have hSC:∀ b,CC b->S b\/h6.length<=b:=λb hb=>.inl (hCC b hb)
 have tB:cD h6 (λb=>S b\/h6.length<=b) (f+1) (.mk kb nb sb lb) (ah kb nb sb ab lb.length):=cD.of (FZ.Ql.mono hSB) hsb U1
 have n6:h6.length=h4.length:=l6.trans l5
 have upP:∀ {y:AH} {g:Nat} {t:Tm} {cs:List Value},g<=f+2->cD y (λb=>S b\/h6.length<=b) g t cs->cD y (λb=>S b\/h.length<=b) (f+2) t cs:=λhg z=>(z.mono (λb hb=>hb.imp id λhb=>by omega) _ _ _).le hg
 have nS:∀ b,(S b\/h6.length<=b)->¬(b=h1.length):=λb hb e=>by
  rcases hb with hb|hb
  ·have:=hS b hb
   omega
  ·omega
 have fin:∀ {h7:AH} {k' n':Int} {s':ByteArray} {a':Option Addr} {m' g:Nat} {t:Tm} {b:Bool} (k67:KB bp h6 h7) (hg:g<=f+2) (ht:cD h7 (λb=>S b\/h6.length<=b) g t (ah k' n' s' a' m')) (hm:cu x R pid next=some t),
   Wp ((Am.wr base h7 h1.length 0 (ah k' n' s' a' m')).bind λh8=>((Am.cell h8 h1.length 0).bind (au .i64)).bind λn1=>((Am.cell h8 h1.length 1).bind (au .i64)).bind λn2=>((Am.cell h8 h1.length 2).bind aK).bind λs3=>((Am.cell h8 h1.length 3).bind aN).bind λl4=>some ((Value.tuple #[(.agg #[(.int .i64 n1),(.int .i64 n2),(.string s3),(.slice l4.1 l4.2 l4.2)]),(.bool true)]),h8))
    λ(r:Value×AH)=>∃ k n s a m b,r.1 = .tuple #[.agg (ah k n s a m).toArray,.bool b]/\KB bp h r.2/\match cu x R pid next with|none=>b=false|some t=>b=true/\cD r.2 (λb=>S b\/h.length<=b) (f+2) t (ah k n s a m):=by
  intro h7 k' n' s' a' m' g t b k67 hg ht hm
  have UF:=k67.1
  refine W.fF (oZ.aj k67) (by simp) (by simp) λh8 o8 k8 l8=>?_
  have hz:setAt (ah 0 0 ⟨#[]⟩ none 0) 0 (ah k' n' s' a' m')=ah k' n' s' a' m':=rfl
  rw [hz] at o8
  refine W.q4 o8 (W.ret ⟨_,_,_,_,_,_,rfl,bR (kN Hm k67) k8 λi hi=>by omega,?_⟩)
  rw [hm]
  exact ⟨rfl,upP hg (cD.ax k8 nS _ _ _ ht)⟩
 have bad:∀ {b:Bool} (hm:cu x R pid next=none),
   Wp ((Am.wr base h6 h1.length 0 (ah 0 0 ⟨#[]⟩ none 0)).bind λh8=>((Am.cell h8 h1.length 0).bind (au .i64)).bind λn1=>((Am.cell h8 h1.length 1).bind (au .i64)).bind λn2=>((Am.cell h8 h1.length 2).bind aK).bind λs3=>((Am.cell h8 h1.length 3).bind aN).bind λl4=>some ((Value.tuple #[(.agg #[(.int .i64 n1),(.int .i64 n2),(.string s3),(.slice l4.1 l4.2 l4.2)]),(.bool false)]),h8))
    λ(r:Value×AH)=>∃ k n s a m b,r.1 = .tuple #[.agg (ah k n s a m).toArray,.bool b]/\KB bp h r.2/\match cu x R pid next with|none=>b=false|some t=>b=true/\cD r.2 (λb=>S b\/h.length<=b) (f+2) t (ah k n s a m):=by
  intro b hm
  refine W.fF oZ (by simp) (by simp) λh8 o8 k8 l8=>?_
  have hz:setAt (ah 0 0 ⟨#[]⟩ none 0) 0 (ah 0 0 ⟨#[]⟩ none 0)=ah 0 0 ⟨#[]⟩ none 0:=rfl
  rw [hz] at o8
  refine W.q4 o8 (W.ret ⟨_,_,_,_,_,_,rfl,bR Hm k8 λi hi=>by omega,?_⟩)
  rw [hm]
 refine W.bI (o1.ap (i:=0) rfl) (W.ite (λc=>?_) λc1=>?_)
 ·exact W.bI (o1.ap (i:=4) rfl) (fin (b:=true) (KB.refl _ _) (show 1<=f+2 by omega) (sK (by decide)) (by unfold cu;rw [if_pos c]))
 refine W.ite (λc=>?_) λc2=>?_
 ·obtain ⟨h7,e7,k7⟩:=vD (base:=base) (h:=h6) (w:=x.s) (by omega)
  exact W.bT (o1.ap (i:=5) rfl) (W.bs e7 (W.g4 (fin (b:=true) k7 (show 1<=f+2 by omega) (sK (by simp only [maxLen];omega)) (by unfold cu;rw [if_neg c1,if_pos c]))))
 refine W.ite (λc=>?_) λc3=>?_
 ·exact fin (b:=true) (KB.refl _ _) (show 1<=f+2 by omega) (sK (by decide)) (by unfold cu;rw [if_neg c1,if_neg c2,if_pos c])
 refine W.ite (λc=>?_) λc4=>?_
 ·exact W.q4 oB (fin (b:=true) (KB.refl _ _) (show f+1<=f+2 by omega) tB (by unfold cu;rw [if_neg c1,if_neg c2,if_neg c3,if_pos c,eB]))
 refine W.ite (λc=>?_) λc5=>?_
 ·have h4':=hx4 (beq_iff_eq.1 c)
  have hw:ag .i64 (x.b+x.n)=x.b+x.n:=bm (by omega) (by omega)
  refine W.bI (o1.ap (i:=2) rfl) (W.bI (o1.ap (i:=2) rfl) (W.bI (o1.ap (i:=4) rfl) ?_))
  rw [hw]
  refine W.aE ⟨b0,by omega,by omega,hR6.NI _⟩ ?_
  have em:(x.b+x.n).toNat-x.b.toNat=((R.drop x.b.toNat).take x.n.toNat).length:=by simp;omega
  rw [em]
  exact fin (b:=true) (KB.refl _ _) (show f+1+1<=f+2 by omega) (cD.of ((hR6.Ql.part (by omega)).mono λb hb=>.inl hb) (by decide) (by simp only [maxLen];simp;omega)) (by unfold cu;rw [if_neg c1,if_neg c2,if_neg c3,if_neg c4,if_pos c])
 refine W.ite (λc=>?_) λc6=>?_
 ·refine W.q4 oB (W.box (base:=base) (by omega) λh7 o7 k7 q7=>W.gt (ma (by omega)) (W.bS ((oC.aj k7).ap (i:=3) rfl) ?_))
  obtain ⟨vsc,er,evl,hvs⟩:=(Yr.Ql.ax k7 λ_ _ h=>h).BK
  obtain ⟨Gl,AZ,_⟩:=F0
  obtain ⟨a8,h8,e8,o8,k8,d8⟩:=bQ.app o7 (n:=1) (m:=lc.length) (sz:=4) (bytes:=56) (by simp) (by decide) er (by omega) (by omega) (by omega) evl
  have k68:KB bp h6 h8:=bR k7 k8 λi hi=>by rw [aG] at hi;omega
  have UG:=k68.1
  have b8:∀ b,bK a8 b->h6.length<=b:=λb hb=>by
   rcases d8 with ⟨_,e,_⟩|d8
   ·rw [e,aG] at hb;omega
   ·have:=d8 b hb;omega
  refine W.bs e8 (W.bS rfl (W.gt (ma (by omega)) (W.gt (hO k8 (by omega) (λhh=>by rw [aG] at hh;omega)) (W.bI ((oC.aj k68).ap (i:=0) rfl) (W.fF (oZ.aj k68) (by simp) (by simp) λh9 o9 k9 l9=>W.gt (hO k9 (show h3.length<h8.length by omega) (by omega)) ?_)))))
  have hz:setAt (ah 0 0 ⟨#[]⟩ none 0) 0 (ah 5 0 ⟨#[]⟩ a8 (1+lc.length))=ah 5 0 ⟨#[]⟩ a8 (1+lc.length):=rfl
  rw [hz] at o9
  refine W.q4 o9 (W.ret ⟨_,_,_,_,_,_,rfl,bR (kN Hm k68) k9 λi hi=>by omega,?_⟩)
  have em:cu x R pid next=(if (kc==(5:Int))=true then some (.mk 5 0 ⟨#[]⟩ (.mk kb nb sb lb :: lc)) else none):=by
   unfold cu
   rw [if_neg c1,if_neg c2,if_neg c3,if_neg c4,if_neg c5,if_pos c,eB,eC]
   rfl
  rw [em]
  have Ys:iQ h8 (λb=>S b\/h6.length<=b) (f+1) (.mk kb nb sb lb :: lc) a8:=by
   refine ⟨ah kb nb sb ab lb.length++vsc,o8.sl,.inr λb hb=>.inr (b8 b hb),by simp [evl];omega,λi t hi=>?_⟩
   cases i with
   | zero=>
    simp at hi
    subst hi
    have:=cD.ax k68 (λ_ _ h=>h) _ _ _ tB
    simpa using this
   | succ i=>
    simp at hi
    have hm:=hvs i t hi
    have e:((ah kb nb sb ab lb.length++vsc).drop ((i+1)*4)).take 4=(vsc.drop (i*4)).take 4:=by
     rw [List.drop_append,dZ (by simp;omega),kj]
     congr 2
     simp
     omega
    rw [e]
    exact (cD.ax k8 (λb hb hk=>by
     rw [aG] at hk
     have:=hS b (hCC b hb)
     omega) _ _ _ hm |>.mono (λb hb=>hSC b hb) _ _ _).le (by omega)
  by_cases ck:(kc==(5:Int))=true
  ·rw [if_pos ck]
   refine ⟨ck,?_⟩
   rw [show 1+lc.length=(Tm.mk kb nb sb lb :: lc).length from by simp;omega]
   exact upP (show f+1+1<=f+2 by omega) (cD.of (Ys.ax k9 nS) (by decide) (by simp only [maxLen];simp;omega))
  ·rw [if_neg ck]
   simpa using ck
 refine W.ite (λc=>?_) λc7=>?_
 ·have em:cu x R pid next=(if (if (kb != (4:Int))=true then true else decide (x.n>=(lb.length:Int)))=true then none else some (lb.getD x.n.toNat tk)):=by
   unfold cu
   rw [if_neg c1,if_neg c2,if_neg c3,if_neg c4,if_neg c5,if_neg c6,if_pos c,eB]
   rfl
  refine W.kL (λq=>q=([some (.pointer (ap h.length)),some (.pointer (ap h1.length)),some (.pointer (ap h2.length)),some (.bool (if (kb != (4:Int))=true then true else decide (x.n>=(lb.length:Int))))],h6)) ?_ λq hq=>?_
  ·refine W.bI (oB.ap (i:=0) rfl) (W.ite (λd=>?_) λd=>?_)
   ·rw [if_pos d];exact W.inl rfl
   ·rw [if_neg d];exact W.bI (o1.ap (i:=4) rfl) (W.bS (oB.ap (i:=3) rfl) (W.inl rfl))
  subst hq
  refine W.bA rfl (W.bA rfl (W.bA rfl (W.bB rfl (W.ite (λd=>?_) λd=>?_))))
  ·exact bad (b:=true) (by rw [em,if_pos d])
  ·have d4:¬(kb != (4:Int))=true:=λe=>d (by rw [if_pos e])
   have dn:x.n<(lb.length:Int):=by
    rw [if_neg d4] at d
    simpa using d
   have I6:=hx6 (beq_iff_eq.1 c)
   have Hh:x.n.toNat<lb.length:=by omega
   obtain ⟨ad3,k',n',s',a',m',C',rfl,_,w0,w1,w2,w3,hmE,hCE⟩:=FZ.FY Hh
   refine W.bS (oB.ap (i:=3) rfl) (W.bI (o1.ap (i:=4) rfl) (W.aE ⟨I6,dn⟩ (W.bs rfl (W.bI w0 (W.bI w1 (W.bT w2 (W.bS w3 ?_)))))))
   exact fin (b:=true) (KB.refl _ _) (show f<=f+2 by omega) (hmE.vq.mono (λb hb=>hSB b (hCE b hb)) _ _ _) (by rw [em,if_neg d];simp [Hh])
 refine W.kL (λq=>q=([some (.int .i64 pid),some (.int .i64 next),some (.pointer (ap h.length)),some (.pointer (ap h1.length)),some (.pointer (ap h2.length)),some (.pointer (ap h3.length)),some (.int .i64 x.op),some (.bool (if (x.op==(7:Int))=true then (x.op==(7:Int)) else (x.op==(8:Int))))],h6)) ?_ λq hq=>?_
 ·refine W.ite (λd=>?_) λd=>?_
  ·rw [if_pos d];exact W.inl rfl
  ·rw [if_neg d];exact W.inl rfl
 subst hq
 refine W.bI rfl (W.bI rfl (W.bA rfl (W.bA rfl (W.bA rfl (W.bA rfl (W.bI rfl (W.bB rfl (W.ite (λd=>?_) λd=>?_))))))))
 ·refine W.kL (λq=>q=([some (.pointer (ap h.length)),some (.pointer (ap h1.length)),some (.pointer (ap h2.length)),some (.bool (if (kb != (5:Int))=true then true else ((lb.length:Int)==(0:Int))))],h6)) ?_ λq hq=>?_
  ·refine W.bI (oB.ap (i:=0) rfl) (W.ite (λd=>?_) λd=>?_)
   ·rw [if_pos d];exact W.inl rfl
   ·rw [if_neg d];exact W.bS (oB.ap (i:=3) rfl) (W.inl rfl)
  subst hq
  have em:cu x R pid next=if (x.op==(7:Int))=true then (if (if (kb != (5:Int))=true then true else ((lb.length:Int)==(0:Int)))=true then none else some (lb.getD 0 tk)) else (if (if (kb != (5:Int))=true then true else ((lb.length:Int)==(0:Int)))=true then none else some (.mk 5 0 ⟨#[]⟩ (lb.drop 1))):=by
   unfold cu
   rw [if_neg c1,if_neg c2,if_neg c3,if_neg c4,if_neg c5,if_neg c6,if_neg c7,eB]
   by_cases c8:(x.op==(7:Int))=true
   ·rw [if_pos c8,if_pos c8];rfl
   ·rw [if_neg c8] at d
    rw [if_neg c8,if_neg c8,if_pos d];rfl
  refine W.bA rfl (W.bA rfl (W.bA rfl (W.bB rfl (W.ite (λd2=>?_) λd2=>?_))))
  ·exact bad (b:=true) (by rw [em,if_pos d2,if_pos d2];split<;>rfl)
  ·rw [if_neg d2,if_neg d2] at em
   have d5:¬(kb != (5:Int))=true:=λe=>d2 (by rw [if_pos e])
   have dl:0<lb.length:=by
    rw [if_neg d5] at d2
    have:¬((lb.length:Int)=0):=by simpa using d2
    omega
   refine W.bI (o1.ap (i:=0) rfl) (W.ite (λc8=>?_) λc8=>?_)
   ·rw [if_pos c8] at em
    obtain ⟨ad3,k',n',s',a',m',C',rfl,_,w0,w1,w2,w3,hmE,hCE⟩:=FZ.FY dl
    refine W.bS (oB.ap (i:=3) rfl) (W.aE ⟨by decide,by omega⟩ (W.bs rfl (W.bI w0 (W.bI w1 (W.bT w2 (W.bS w3 ?_))))))
    exact fin (b:=true) (KB.refl _ _) (show f<=f+2 by omega) (hmE.vq.mono (λb hb=>hSB b (hCE b hb)) _ _ _) (by rw [em];simp [dl])
   ·rw [if_neg c8] at em
    refine W.bS (oB.ap (i:=3) rfl) (W.aE ⟨by decide,by omega,by omega,FZ.NI _⟩ ?_)
    have kT:af (lb.length:Int)-af (1:Int)=((lb.drop 1).take (lb.length-1)).length:=by simp
    have etk:(lb.drop 1).take (lb.length-1)=lb.drop 1:=cG (by simp)
    have hp:=(FZ.Ql.part (i:=1) (n:=lb.length-1) (by omega)).mono hSB
    rw [etk] at kT hp
    simp only at kT ⊢
    rw [kT]
    simp only [maxLen] at U1
    exact fin (b:=true) (KB.refl _ _) (show f+1<=f+2 by omega) (cD.of hp (by decide) (by simp only [maxLen];simp;omega)) em
 have c8:¬(x.op==(7:Int))=true:=λe=>d (by rw [if_pos e];exact e)
 rw [if_neg c8] at d
 refine W.ite (λc=>?_) λZq=>?_
 ·have em:cu x R pid next=(if (kb==(1:Int))=true then (if (kc==(1:Int))=true then some (.mk 1 (ag .i64 (nb+nc)) ⟨#[]⟩ []) else none) else none):=by
   unfold cu
   rw [if_neg c1,if_neg c2,if_neg c3,if_neg c4,if_neg c5,if_neg c6,if_neg c7,if_neg c8,if_neg d,if_pos c,eB,eC]
   rfl
  refine W.bI (oB.ap (i:=1) rfl) (W.bI (oC.ap (i:=1) rfl) (W.bI (oB.ap (i:=0) rfl) (W.ite (λe1=>?_) λe1=>?_)))
  ·refine W.bI (oC.ap (i:=0) rfl) (W.fF oZ (by simp) (by simp) λh8 o8 (k8:KB (· = h1.length) h6 h8) (l8:h8.length=h6.length)=>W.gt (hO k8 (show h3.length<h6.length by omega) (show ¬(h3.length=h1.length) by omega)) ?_)
   have hz:setAt (ah 0 0 ⟨#[]⟩ none 0) 0 (ah 1 (ag .i64 (nb+nc)) ⟨#[]⟩ none 0)=ah 1 (ag .i64 (nb+nc)) ⟨#[]⟩ none 0:=rfl
   rw [hz] at o8
   refine W.q4 o8 (W.ret ⟨_,_,_,_,_,_,rfl,bR Hm k8 λi hi=>by omega,?_⟩)
   rw [em,if_pos e1]
   by_cases e3:(kc==(1:Int))=true
   ·rw [if_pos e3]
    exact ⟨e3,sK (by decide)⟩
   ·rw [if_neg e3]
    simpa using e3
  ·refine W.fF oZ (by simp) (by simp) λh8 o8 (k8:KB (· = h1.length) h6 h8) (l8:h8.length=h6.length)=>?_
   have hz:setAt (ah 0 0 ⟨#[]⟩ none 0) 0 (ah 1 (ag .i64 (nb+nc)) ⟨#[]⟩ none 0)=ah 1 (ag .i64 (nb+nc)) ⟨#[]⟩ none 0:=rfl
   rw [hz] at o8
   refine W.q4 o8 (W.ret ⟨_,_,_,_,_,_,rfl,bR Hm k8 λi hi=>by omega,?_⟩)
   rw [em,if_neg e1]
 refine W.ite (λc=>?_) λc11=>?_
 ·exact fin (b:=true) (KB.refl _ _) (show 1<=f+2 by omega) (sK (by decide)) (by unfold cu;rw [if_neg c1,if_neg c2,if_neg c3,if_neg c4,if_neg c5,if_neg c6,if_neg c7,if_neg c8,if_neg d,if_neg Zq,if_pos c])
 ·exact fin (b:=true) (KB.refl _ _) (show 1<=f+2 by omega) (sK (by decide)) (by unfold cu;rw [if_neg c1,if_neg c2,if_neg c3,if_neg c4,if_neg c5,if_neg c6,if_neg c7,if_neg c8,if_neg d,if_neg Zq,if_neg c11])
section
section
variable {α:Type} {w:Nat} {P:Fp->AH->α->List Value->Prop}
theorem a_.imp{Q:Fp->AH->α->List Value->Prop}{base t:Nat}{S:Fp}{h:AH}{l:List α}{a:Option Addr}(hPQ:∀ S h x cs,P S h x cs->Q S h x cs)(x:a_ base t w P S h l a):a_ base t w Q S h l a:=by
 obtain ⟨vs,T,x1,x2,x3,x4,x5⟩:=x
 exact ⟨vs,T,x1,x2,x3,x4,x5.imp hPQ⟩
theorem bQ.wrA(x:bQ base t h a vs){new:List Value}(hi:i+new.length<=vs.length)(h0:0<new.length):
  ∃ ad h',a=some ad/\Am.wr base h ad.block (ad.off+i) new=some h'/\bQ base t h' a (setAt vs i new)/\KB (bK a) h h'/\h'.length=h.length:=by
 obtain ⟨ad,h',e,h1,h2,h3,h4⟩:=x.wr hi h0
 exact ⟨ad,h',e,h1,h2,h3,h4⟩
theorem a_.put(kp:Kp P){l:List α}(x:a_ base t w P S h l a)(hi:i<l.length){y:α}(hy:P C h y cs)(hc:cs.length=w)(hw:0<w)(hC:∀ b,C b->¬S b):
  ∃ ad h',a=some ad/\Am.wr base h ad.block (ad.off+i*w) cs=some h'/\a_ base t w P (λb=>S b\/C b) h' (l.set i y) a/\KB (bK a) h h'/\h'.length=h.length:=by
 obtain ⟨vs,T,x1,x2,x3,x4,C0,c1,c2,c3⟩:=x
 have hle:=dD (w:=w) hi
 obtain ⟨ad,h',e,w1,w2,w3,w4⟩:=x1.wrA (i:=i*w) (new:=cs) (by omega) (by omega)
 refine ⟨ad,h',e,w1,⟨setAt vs (i*w) cs,λb=>T b\/C b,w2,by simp [setAt];omega,λb hb=>⟨.inl (x3 b hb).1,λhh=>?_⟩,λb hb=>hb.imp (x4 b) id,λq b=>if q=i then C b else C0 q b,λq b hb=>?_,λq j b hq hb cy=>?_,λq z hz=>?_⟩,w3,w4⟩
 ·rcases hh with hh|hh
  ·exact (x3 b hb).2 hh
  ·exact hC b hh (x3 b hb).1
 ·simp only at hb
  split at hb
  ·exact .inr hb
  ·exact .inl (c1 q b hb)
 ·simp only at hb cy
  split at hb
  ·split at cy
   ·omega
   ·exact hC b hb (x4 b (c1 j b cy))
  ·split at cy
   ·exact hC b cy (x4 b (c1 q b hb))
   ·exact c2 q j b hq hb cy
 ·by_cases eq:q=i
  ·subst eq
   rw [vp hi] at hz
   injection hz with hz
   subst hz
   have ee:(λb=>if q=q then C b else C0 q b)=C:=by funext b;simp
   show P (λb=>if q=q then C b else C0 q b) h' y (chunk w q (setAt vs (q*w) cs))
   rw [ee,gr hc (by omega)]
   exact kp _ _ _ _ _ _ w3 (λb hb hk=>hC b hb (x3 b hk).1) hy
  ·rw [qp (by omega)] at hz
   have ee:(λb=>if q=i then C b else C0 q b)=C0 q:=by funext b;simp [eq]
   show P (λb=>if q=i then C b else C0 q b) h' z (chunk w q (setAt vs (i*w) cs))
   rw [ee,fW hc (by omega) eq]
   exact kp _ _ _ _ _ _ w3 (λb hb hk=>(x3 b hk).2 (c1 q b hb)) (c3 q z hz)
theorem a_.Yt(kp:Mo P){x:α}{l:List α}(r:a_ base t w P S h (x :: l) a)(hw:0<w):
  ∃ C cs ad,P C h x cs/\a=some ad/\(∀ j v,cs[j]? = some v->Am.cell h ad.block (ad.off+j)=some v)/\(∀ b,C b->S b)/\(∀ b,bK a b->¬C b)/\a_ base t w P (λb=>S b/\¬C b) h l (dm a (1*w)):=by
 obtain ⟨vs,T,x1,x2,x3,x4,C0,c1,c2,c3⟩:=r
 simp only [List.length_cons] at x2
 have x2:vs.length=l.length*w+w:=by rw [x2,Ad]
 rcases x1 with ⟨_,e⟩|⟨ad,k,e1,e2,e3,e4,e5,e6⟩
 ·subst e;simp at x2;omega
 have bs:∀ b,bK (dm a (1*w)) b->bK a b:=λb hb=>by
  obtain ⟨ad,e,hb⟩:=hb
  cases a with
  | none=>cases e
  | some a0=>
   injection e with e
   subst e
   exact ⟨a0,rfl,hb⟩
 refine ⟨C0 0,chunk w 0 vs,ad,c3 0 x rfl,e1,λj v hj=>?_,λb hb=>x4 b (c1 0 b hb),λb hb hc=>(x3 b hb).2 (c1 0 b hc),vs.drop w,λb=>T b/\¬C0 0 b,?_,by simp [x2],λb hb=>?_,λb hb=>⟨x4 b hb.1,hb.2⟩,λq=>C0 (q+1),λq b hb=>⟨c1 _ b hb,λhh=>c2 _ _ b (by omega) hb hh⟩,λq j b hq hb=>c2 _ _ b (by omega) hb,λq z hz=>?_⟩
 ·have pZ:j<w:=by have:=(bY.1 hj).1;simp [chunk] at this;omega
  rw [chunk,bJ pZ,bZ,Nat.zero_mul,cQ] at hj
  have:=e6 _ _ hj
  simp [Am.cell,e3,this]
 ·subst e1
  refine .inr ⟨_,k,rfl,e2,e3,e4,by simp [x2];omega,λi v hi=>?_⟩
  rw [bZ] at hi
  have:=e6 _ _ hi
  simp only [Hp,Nat.add_assoc]
  exact this
 ·have:=x3 b (bs b hb)
  exact ⟨⟨this.1,λhh=>this.2 (c1 0 b hh)⟩,λhh=>this.2 hh.1⟩
 ·have:=c3 (q+1) z (by simpa using hz)
  have e:chunk w q (vs.drop w)=chunk w (q+1) vs:=by
   simp only [chunk,List.drop_drop]
   congr 2
   rw [Ad];omega
  rw [e]
  exact this
end
theorem bM.le{base:Nat}:∀ {f f':Nat} (hf:f<=f') {S:Fp} {h:AH} {t:Tm} {cs:List Value},bM base f S h t cs->bM base f' S h t cs
 | 0,_,_,_,_,_,_,x=>x.elim
 | f+1,0,hf,_,_,_,_,_=>absurd hf (Nat.not_succ_le_zero _)
 | f+1,f'+1,hf,S,h,.mk k n s l,cs,x=>by
  obtain ⟨h1,h2,a,e,r⟩:=x
  exact ⟨h1,h2,a,e,r.imp λ_ _ _ _=>bM.le (Nat.le_of_succ_le_succ hf)⟩
theorem b_.le{base f f':Nat}(hf:f<=f'){S:Fp}{h:AH}{A:Ac}{cs:List Value}(x:b_ base f S h A cs):b_ base f' S h A cs:=by
 obtain ⟨a,b,g,S1,S2,S3,e,h1,h2,h3⟩:=x
 exact ⟨a,b,g,S1,S2,S3,e,h1.imp λ_ _ _ _=>bM.le hf,h2.imp λ_ _ _ _=>bM.le hf,h3⟩
theorem b_.nG(x:b_ base f S h A cs)(v:Int):b_ base f S h ⟨A.pid,v,A.aH,A.box,A.aw⟩ (setAt cs 1 [.int .i64 v]):=by
 obtain ⟨a,b,g,S1,S2,S3,rfl,h1⟩:=x
 exact ⟨a,b,g,S1,S2,S3,rfl,h1⟩
theorem b_.F1{IU:List Value}(x:b_ base f S h A cs)(hi:i<A.aH.length){t:Tm}(ht:bM base f C h t IU)(hC:∀ b,C b->¬S b):
  ∃ ad h',cs[2]? = some (.slice (some ad) A.aH.length A.aH.length)/\Am.wr base h ad.block (ad.off+i*4) IU=some h'/\b_ base f (λb=>S b\/C b) h' ⟨A.pid,A.pc,A.aH.set i t,A.box,A.aw⟩ cs/\KB S h h'/\h'.length=h.length:=by
 obtain ⟨a,b,g,S1,S2,S3,rfl,r1,r2,r3,hg,s1,s2,s3,d1,d2,d3⟩:=x
 obtain ⟨k,n,s,a',m,rfl⟩:=ht.form
 have hbA:∀ b,bK a b->S1 b:=by obtain ⟨vs,T,w1,w2,w3,_⟩:=r1;exactλb hb=>(w3 b hb).1
 obtain ⟨ad,h',rfl,w1,w2,w3,w4⟩:=r1.put (bM.kp _ _) hi ht rfl (by decide) λb hb hs=>hC b hb (s1 b hs)
 refine ⟨ad,h',rfl,w1,⟨some ad,b,g,λb=>S1 b\/C b,S2,S3,by simp,w2,r2.ax (bM.kp _ _) w3 λb hb hk=>d1 b (hbA b hk) hb,r3.ax w3 λb hb hk=>d2 b (hbA b hk) (hg b hb),hg,λb hb=>hb.imp (s1 b) id,λb hb=>.inl (s2 b hb),λb hb=>.inl (s3 b hb),λb hb hs=>?_,λb hb hs=>?_,d3⟩,w3.mono λb _ hb=>s1 b (hbA b hb),w4⟩
 ·rcases hb with hb|hb
  ·exact d1 b hb hs
  ·exact hC b hb (s2 b hs)
 ·rcases hb with hb|hb
  ·exact d2 b hb hs
  ·exact hC b hb (s3 b hs)
theorem b_.take(x:b_ base f S h A cs)(hi:i<A.aH.length){t:Tm}{B:List Tm}(eB:A.box=t :: B):
  ∃ a b g k n s a' m h',cs=de A.pid A.pc (some a) A.aH.length (some b) A.box.length g A.aw.length/\Am.cell h b.block b.off=some (.int .i64 k)/\Am.cell h b.block (b.off+1)=some (.int .i64 n)/\Am.cell h b.block (b.off+1+1)=some (.string s)/\Am.cell h b.block (b.off+1+1+1)=some (.slice a' m m) /\
   Am.wr base h a.block (a.off+i*4) (ah k n s a' m)=some h'/\(∀ q,jZ base h' (some b) 56 q=true)/\b_ base f S h' ⟨A.pid,A.pc,A.aH.set i t,B,A.aw⟩ (de A.pid A.pc (some a) A.aH.length (dm (some b) (1*4)) B.length g A.aw.length)/\KB S h h'/\h'.length=h.length:=by
 obtain ⟨a,b,g,S1,S2,S3,rfl,r1,r2,r3,hg,s1,s2,s3,d1,d2,d3⟩:=x
 have r2':=r2
 rw [eB] at r2'
 have jM:∀ b,bK a b->S1 b:=by obtain ⟨vs,T,w1,w2,w3,_⟩:=r1;exactλb hb=>(w3 b hb).1
 have jx:∀ x,bK b x->S2 x:=by obtain ⟨vs,T,w1,w2,w3,_⟩:=r2;exactλb hb=>(w3 b hb).1
 obtain ⟨C,IU,bd,hC,rfl,cells,oX,wi,rt⟩:=r2'.Yt (bM.mo _ _) (by decide)
 obtain ⟨k,n,s,a',m,rfl⟩:=hC.form
 obtain ⟨ad,h',rfl,w1,w2,w3,w4⟩:=r1.put (bM.kp _ _) hi hC rfl (by decide) λb hb hs=>d1 b hs (oX b hb)
 have rt':=rt.ax (bM.kp _ _) w3 λb hb hk=>d1 b (jM b hk) hb.1
 refine ⟨ad,bd,g,k,n,s,a',m,h',rfl,by simpa using cells 0 _ rfl,cells 1 _ rfl,cells 2 _ rfl,cells 3 _ rfl,w1,λq=>(r2.ax (bM.kp _ _) w3 λb hb hk=>d1 b (jM b hk) hb).NI q,⟨some ad,dm (some bd) (1*4),g,λb=>S1 b\/C b,λb=>S2 b/\¬C b,S3,by simp,w2,rt',r3.ax w3 λb hb hk=>d2 b (jM b hk) (hg b hb),hg,λb hb=>hb.elim (s1 b) λhb=>s2 b (oX b hb),λb hb=>s2 b hb.1,s3,λb hb hs=>?_,λb hb hs=>?_,λb hb=>d3 b hb.1⟩,w3.mono λb _ hb=>s1 b (jM b hb),w4⟩
 ·rcases hb with hb|hb
  ·exact d1 b hb hs.1
  ·exact hs.2 hb
 ·rcases hb with hb|hb
  ·exact d2 b hb hs
  ·exact d3 b (oX b hb) hs
end
theorem yd(hb:base<=h.length):∃ h',run (Et base) 117 [.int .i64 v] h=some (.agg (ah 1 v ⟨#[]⟩ none 0).toArray,h')/\KB bp h h':=by
 refine Wp.run (P:=λh'=>KB bp h h') ?_
 refine W.of (λr hx=>Am.M5 hx) ?_
 exact W.nw hb rfl λh1 o1 k1 q1=>W.q4 o1 (W.ret ⟨rfl,k1⟩)
theorem ye(hb:base<=h.length):∃ h',run (Et base) 118 [.int .i64 v] h=some (.agg (ah 3 v ⟨#[]⟩ none 0).toArray,h')/\KB bp h h':=by
 refine Wp.run (P:=λh'=>KB bp h h') ?_
 refine W.of (λr hx=>Am.Lk hx) ?_
 exact W.nw hb rfl λh1 o1 k1 q1=>W.q4 o1 (W.ret ⟨rfl,k1⟩)
theorem sL{l:List Tm}{lo:Nat}(hl:l.length<=1048576)(hB:∀ t∈l,jJ f t)(hp:∀ b,p b->b<lo)(ZL:base<=lo):∀ (d i:Nat) (h:AH) (ao:Option Addr) (S:Fp),i+d=l.length->iQ h p f l a->lo<=h.length->a_ base 56 4 (bM base f) S h (l.take i) ao->(∀ b,S b->lo<=b/\b<h.length) ->
  Wp (aF (MZ base) [some (.slice a l.length l.length),some (.slice ao i i),some (.int .i64 (i:Int))] h) λo=>∃ a' S',o.1=2/\o.2.1 = [some (.slice a' l.length l.length)]/\a_ base 56 4 (bM base f) S' o.2.2 l a'/\(∀ b,S' b->lo<=b/\b<o.2.2.length)/\KB (λb=>lo<=b) h o.2.2:=by
 intro d
 induction d with
 | zero=>
  intro i h ao S hi hs U3 r hS
  have lL:i=l.length:=by omega
  subst lL
  rw [cG (aT _)] at r
  refine ⟨_,aC (by decide) (s':=[some (.slice ao l.length l.length)]) (h':=h) (e:=2) ?_,ao,S,rfl,rfl,r,hS,KB.refl _ _⟩
  rw [C1]
  exact Am.aU (by simp) rfl
 | succ d fJ=>
  intro i h ao S hi hs U3 r hS
  have aS:i<l.length:=by omega
  obtain ⟨ad,k,n,s,a2,m,rfl,g0,g1,g2,g3,hm⟩:=hs.tJ aS
  obtain ⟨uf,h2,e2,t2,k2⟩:=dh (base:=base) f h p _ _ hm (hB _ (aQ aS)) (by omega) (λb hb=>by have:=hp b hb;omega)
  obtain ⟨k',n',s',a',m',rfl⟩:=t2.form
  have n2:=k2.1
  have kT:(l.take i).length=i:=by simp;omega
  obtain ⟨a3,h3,e3,r3,k3,n3⟩:=(r.ax (bM.kp _ _) k2 λ_ _ h=>h).qn (bM.kp _ _) (bytes:=56) t2 rfl (by decide) rfl (λb hb hs=>by have:=hS b hs;omega) (λb hb=>hb.2) (λb hb=>by have:=hS b hb;omega) (by omega) (by rw [kT];omega) (by rw [kT];omega)
  rw [kT] at e3
  rw [<- ed aS] at r3
  have hbo:∀ b,bK ao b->lo<=b:=by obtain ⟨vs,T,w1,w2,w3,_⟩:=r;exactλb hb=>(hS b (w3 b hb).1).1
  have fg:KB (λb=>lo<=b) h h3:=KB.trans k2 k3 (λ_ _ h=>h.elim) (λb _ hb=>hbo b hb)
  obtain ⟨o,eo,a4,S4,y1,y2,y3,y4,y5⟩:=fJ (i+1) h3 a3 _ (by omega) (hs.ax fg λb h1 h2=>by have:=hp b h1;omega) (by omega) r3 (λb hb=>by
   rcases hb with hb|hb|hb
   ·have:=hS b hb;omega
   ·omega
   ·omega)
  refine ⟨o,bl ?_ eo,a4,S4,y1,y2,y3,y4,KB.trans fg y5 (λ_ _ h=>h) (λ_ _ h=>h)⟩
  rw [C1]
  refine Am.aE (decide_eq_true (by omega)) (Am.aE ⟨by omega,by omega⟩ (Am.bs rfl ?_))
  simp only [aM]
  refine Am.bI g0 (Am.bI g1 (Am.bT g2 (Am.bS g3 (Am.bs e2 (Am.bs (v:=ah k' n' s' a' m') rfl (Am.bI rfl (Am.bI rfl (Am.bT rfl (Am.bS rfl (Am.bs rfl (Am.bs e3 (Am.bS rfl ?_))))))))))))
  rw [bm (n:=(i:Int)+1) (by omega) (by omega)]
  rfl
theorem fO{l:List Tm}(hl:l.length<=1048576)(hB:∀ t∈l,jJ f t)(hs:iQ h p f l a)(hb:base<=h.length)(hp:∀ b,p b->b<h.length):
  ∃ a' h',run (Et base) 81 [.slice a l.length l.length] h=some (.slice a' l.length l.length,h')/\a_ base 56 4 (bM base f) (iS h.length h'.length) h' l a'/\KB bp h h':=by
 suffices w:Wp (run (Et base) 81 [.slice a l.length l.length] h) λo=>∃ a',o.1 = .slice a' l.length l.length/\a_ base 56 4 (bM base f) (iS h.length o.2.length) o.2 l a'/\KB bp h o.2 by
  obtain ⟨⟨u,h'⟩,e,a',rfl,q⟩:=w
  exact ⟨a',h',e,q⟩
 refine W.of (λr hx=>Am.r81 hx) ?_
 refine W.box hb λh1 o1 k1 q1=>?_
 obtain ⟨o,e,a',S',y1,y2,y3,y4,y5⟩:=sL (base:=base) hl hB hp hb l.length 0 h1 (ap h.length) (· = h.length) (by omega) (hs.ax k1 λ_ _ h=>h) (by omega) ⟨[],λ_=>False,o1,by simp,λb hb=>⟨aG.1 hb,λh=>h⟩,λ_ h=>h.elim,bC.nil⟩ (λb hb=>by omega)
 obtain ⟨Bg,o2,h2⟩:=o
 simp only at y1 y2
 subst y1;subst y2
 rw [show ((0:Nat):Int)=0 from rfl] at e
 refine W.bs e (W.aE rfl (W.bS rfl (W.ret ⟨a',rfl,y3.mono λb hb=>y4 b hb,KB.trans k1 y5 (λ_ _ h=>h) (λi hi hs=>by omega)⟩)))
theorem ju(hB:x_ f A)(x:rH h p f A cs)(hb:base<=h.length)(hp:∀ b,p b->b<h.length):
  ∃ fy h',run (Et base) 39 [.agg cs.toArray] h=some (.agg fy.toArray,h')/\b_ base f (iS h.length h'.length) h' A fy/\KB bp h h':=by
 obtain ⟨a,b,g,rfl,hr,hx,hl,U1⟩:=x
 obtain ⟨m1,m2,m3,m4,m5⟩:=hB
 suffices w:Wp (run (Et base) 39 [.agg (de A.pid A.pc a A.aH.length b A.box.length g A.aw.length).toArray] h) λr=>∃ fy,r.1 = .agg fy.toArray/\b_ base f (iS h.length r.2.length) r.2 A fy/\KB bp h r.2 by
  obtain ⟨⟨u,h'⟩,e,fy,rfl,q⟩:=w
  exact ⟨fy,h',e,q⟩
 refine W.of (λr hx=>Am.BX hx) ?_
 refine W.box hb λh1 o1 k1 q1=>W.box (base:=base) (by omega) λh2 o2 k2 q2=>W.bI ((o1.aj k2).ap (i:=0) rfl) (W.bI ((o1.aj k2).ap (i:=1) rfl) (W.bS ((o1.aj k2).ap (i:=2) rfl) ?_))
 have o1:=o1.aj k2
 have dH:=kN k1 k2
 obtain ⟨a3,h3,e3,r3,k3⟩:=fO (base:=base) m1 m4 (hr.ax dH λ_ _ h=>h) (by omega) (λb hb=>by have:=hp b hb;omega)
 have n3:=k3.1
 have fg:=kN dH k3
 have sm:∀ {x y:AH} {i n:Nat} (k:KB bp x y) (hx:h.length<x.length),bc x y (some ⟨h.length,i,none⟩) n:=λk hx=>hO k hx (λh=>h)
 refine W.bs e3 (W.bS rfl (W.gt (sm k3 (by omega)) (W.gt (sm k3 (by omega)) (W.gt (sm k3 (by omega)) (W.bS ((o1.aj k3).ap (i:=3) rfl) ?_)))))
 obtain ⟨a4,h4,e4,r4,k4⟩:=fO (base:=base) m2 m5 (hx.ax fg λ_ _ h=>h) (by omega) (λb hb=>by have:=hp b hb;omega)
 have n4:=k4.1
 have oL:=kN fg k4
 have nn:∀ {i:Nat},fP (some ⟨h.length,i,none⟩) h4.length:=ma (by omega)
 refine W.bs e4 (W.bS rfl (W.gt (sm k4 (show h.length<h3.length by omega)) (W.gt (sm k4 (show h.length<h3.length by omega)) (W.gt nn (W.gt nn (W.gt nn (W.gt nn (W.box (base:=base) (h:=h4) (by omega) λh5 oE k5 q5'=>?_))))))))
 have qZ:=kN oL k5
 have o5:=((o1.aj k3).aj k4).aj k5
 refine W.gt nn (W.gt (sm (kN k4 k5) (show h.length<h3.length by omega)) (W.gt (sm (kN (kN k3 k4) k5) (show h.length<h2.length by omega)) (W.bS (o5.ap (i:=4) rfl) ?_)))
 have jC:br h5 g (A.aw.length*1)=some (iv .i64 A.aw):=by
  have:=(hl.aj qZ).BK (t_ _ _)
  simpa using this
 obtain ⟨a6,h6,e6,r6,k6,d6⟩:=bQ.app (x:=oE) (bytes:=8) (n:=0) (m:=A.aw.length) (sz:=1) (by simp) (by simp) jC (by omega) (by omega) (by omega) (by simp)
 simp only [cQ,kj] at e6 r6
 have n6:=k6.1
 have b6:∀ b,bK a6 b->h4.length<=b:=λb hb=>by
  rcases d6 with ⟨_,e,_⟩|d6
  ·rw [e,aG] at hb;omega
  ·have:=d6 b hb;omega
 have k6':KB (· = h4.length) h5 h6:=k6.mono λi _ hi=>aG.1 hi
 have o6:=o5.bF k6' λi hi=>by rw [aG] at hi;omega
 have z6:=(((o2.aj k3).aj k4).aj k5).bF k6' λi hi=>by rw [aG] at hi;omega
 have dv:¬(h.length=h4.length):=by omega
 refine W.bs e6 (W.bS rfl (W.gt (hO k6' (show h.length<h5.length by omega) dv) (W.gt (hO k6' (show h.length<h5.length by omega) dv) (W.fF z6 (by simp) (by simp) λh7 o7 k7 l7=>?_))))
 have hz:setAt (de 0 0 none 0 none 0 none 0) 0 (de A.pid A.pc a3 A.aH.length a4 A.box.length a6 A.aw.length)=de A.pid A.pc a3 A.aH.length a4 A.box.length a6 A.aw.length:=rfl
 rw [hz] at o7
 have l7:h7.length=h6.length:=l7
 have k7:KB (· = h1.length) h6 h7:=k7
 have k57:KB (λb=>b=h4.length\/b=h1.length) h5 h7:=KB.trans k6' k7 (λ_ _ h=>.inl h) (λ_ _ h=>.inr h)
 refine W.q5 o7 (W.ret ⟨_,rfl,?_,?_⟩)
 ·refine ⟨a3,a4,a6,iS h2.length h3.length,iS h3.length h4.length,iS h4.length h6.length,rfl,((r3.ax (bM.kp _ _) k4 λ_ _ h=>h).ax (bM.kp _ _) k5 λ_ _ h=>h).ax (bM.kp _ _) k57 λb hb hk=>by omega,
   (r4.ax (bM.kp _ _) k5 λ_ _ h=>h).ax (bM.kp _ _) k57 λb hb hk=>by omega,r6.bF k7 λb hb=>by have:=b6 b hb;omega,λb hb=>⟨b6 b hb,(r6.lt hb).2⟩,λb hb=>⟨by omega,by show b<h7.length;omega⟩,λb hb=>⟨by omega,by show b<h7.length;omega⟩,λb hb=>⟨by omega,by show b<h7.length;omega⟩,λb h1 h2=>by omega,λb h1 h2=>by omega,λb h1 h2=>by omega⟩
 ·exact bR qZ k57 λi hi=>by omega
theorem F2{f2 b0 b1:Nat}(ih:Hn base f 87){p2:Nat->Prop}{l m:List Tm}{a2:Option Addr}{k2 n2:Int}{s2:ByteArray}(hl:l.length<=9223372036854775807)(Zp:l.length=m.length):∀ (d i:Nat) (h:AH),i+d=l.length->iQ h p f l a->iQ h p2 f2 m a2->bQ base 56 h (ap b0) (ah k n s a l.length)->bQ base 56 h (ap b1) (ah k2 n2 s2 a2 m.length)->base<=h.length ->
  ∃ h',aF (G3 base) [some (.pointer (ap b0)),some (.pointer (ap b1)),some (.int .i64 (i:Int))] h=some (if kR (jf f) (l.drop i) (m.drop i)=true then (2,[],h') else (1,[some (.bool false)],h'))/\KB bp h h':=by
 intro d
 induction d with
 | zero=>
  intro i h hi hs nJ o o2 hb
  refine ⟨h,?_,KB.refl _ _⟩
  rw [dZ (by omega)]
  rw [show kR (jf f) [] (m.drop i)=true from rfl,if_pos rfl]
  refine aC (by decide) ?_
  rw [vi]
  exact Am.bS (o.ap (i:=3) rfl) (Am.aU (by simp;omega) rfl)
 | succ d fJ=>
  intro i h hi hs nJ o o2 hb
  have aS:i<l.length:=by omega
  have jl:i<m.length:=by omega
  obtain ⟨ad,c0,c1,c2,c3,c4,rfl,g0,g1,g2,g3,hm⟩:=hs.tJ aS
  obtain ⟨qW,d0,d1,d2,d3,d4,rfl,y0,y1,y2,y3,De⟩:=nJ.tJ jl
  obtain ⟨h1,e1,k1⟩:=ih f2 h p p2 l[i] m[i] _ _ hm De hb
  rw [dJ aS,dJ jl,kR]
  have head:∀ {r:Option (Nat×az×AH)},(if (!jf f l[i] m[i])=true then some (1,[some (.bool false)],h1) else some (0,[some (.pointer (ap b0)),some (.pointer (ap b1)),some (.int .i64 (ag .i64 ((i:Int)+(1:Int))))],h1))=r->G3 base [some (.pointer (ap b0)),some (.pointer (ap b1)),some (.int .i64 (i:Int))] h=r:=by
   intro r hr
   rw [vi]
   refine Am.bS (o.ap (i:=3) rfl) (Am.aE (decide_eq_true (by show (i:Int)<(l.length:Int);omega)) (Am.bS (o.ap (i:=3) rfl) (Am.aE ⟨by omega,by show (i:Int)<(l.length:Int);omega⟩ (Am.bs rfl ?_))))
   simp only [aM]
   refine Am.bI g0 (Am.bI g1 (Am.bT g2 (Am.bS g3 (Am.bS (o2.ap (i:=3) rfl) (Am.aE ⟨by omega,by show (i:Int)<(m.length:Int);omega⟩ (Am.bs rfl ?_))))))
   exact Am.bI y0 (Am.bI y1 (Am.bT y2 (Am.bS y3 (Am.bs e1 (Am.bB rfl hr)))))
  cases c:jf f l[i] m[i] with
  | false=>
   refine ⟨h1,?_,k1⟩
   rw [Bool.false_and,if_neg (by decide)]
   exact aC (by decide) (head (by rw [c];exact Am.aE rfl rfl))
  | true=>
   rw [Bool.true_and]
   obtain ⟨h2,m1,m2⟩:=fJ (i+1) h1 (by omega) (hs.ax k1 λ_ _ h=>h) (nJ.ax k1 λ_ _ h=>h) (o.aj k1) (o2.aj k1) (by have:=k1.1;omega)
   refine ⟨h2,bl (head ?_) m1,kN k1 m2⟩
   rw [c,bm (n:=(i:Int)+1) (by omega) (by omega)]
   exact Am.aU (by decide) rfl
def IV:In:=⟨0,0,0,0,0,⟨#[]⟩⟩
def vN:IQ:=⟨7,0,0,.mk 2 0 QC []⟩
def gX(F:Nat)(x:In)(A:Ac)(next:Int):Option (List Tm×List Tm):=
 if (x.op==(14:Int))=true then some (A.aH.set x.a.toNat (A.box.getD 0 tk),A.box.drop 1)
 else if fH x.op=true then (match cu x A.aH A.pid next with|none=>none|some t=>if jo F t=true then some (A.aH.set x.a.toNat t,A.box) else none)
 else some (A.aH,A.box)
def dA(F:Nat)(x:In)(A:Ac)(next:Int):Ac×IQ:=
 if (!(cC x A.aH next).2)=true then (A,vN)
 else if (x.op==(19:Int))=true then (A,(cC x A.aH next).1)
 else if (if (x.op==(14:Int))=true then ((A.box.length:Int)==(0:Int)) else false)=true then (A,⟨2,0,0,tk⟩)
 else match gX F x A next with
  | none=>(A,vN)
  | some (R,B)=>(⟨A.pid,if eM F x A.aH=true then x.n else ag .i64 (A.pc+1),R,B,A.aw⟩,(cC x A.aH next).1)
def Hq(f:Nat)(l:List In)(A:Ac)(next:Int):Ac×IQ:=
 if (!(jr (f+1) l A&&dx next 1 99999))=true then (A,⟨0,0,0,tk⟩) else dA (f+2) (l.getD A.pc.toNat IV) A next
theorem vO{l:List In}(h:jr f l A=true):codeOk l=true/\(0<=A.pc/\A.pc<(l.length:Int))/\A.aH.length=8/\uk f A.aH=true/\A.box.length<=30/\uk f A.box=true:=by
 unfold jr at h
 simp only [Bool.and_eq_true,decide_eq_true_eq,beq_iff_eq] at h
 obtain ⟨h1,h2,h3,h4,h5,h6,h7,_⟩:=h
 have:=fe h1
 unfold dx at h3
 simp only [Bool.and_eq_true,decide_eq_true_eq] at h3
 rw [bm (by omega) (by omega)] at h3
 exact ⟨h1,⟨h3.1,by omega⟩,by omega,h5,by omega,h7⟩
def gC(base F:Nat)(h:AH)(r:Ac×IQ)(o:Value×AH):Prop:=
 ∃ cs k n s a m S T,o.1 = .tuple #[.agg cs.toArray,.agg (i_ r.2.kind r.2.pid r.2.pc k n s a m).toArray]/\b_ base F S o.2 r.1 cs/\bM base F T o.2 r.2.t (ah k n s a m)/\(∀ b,S b->¬T b)/\(∀ b,S b->h.length<=b/\b<o.2.length)/\(∀ b,T b->h.length<=b/\b<o.2.length)/\KB bp h o.2
theorem Hr(hs:s.size<=maxLen):bM base (f+1) S h (.mk k 0 s []) (ah k 0 s none 0):=⟨hs,by decide,none,rfl,a_.nil⟩
theorem At{l:List In}(hL:∀ x∈l,x.s.size<=9223372036854775807)(hl:l.length<=9223372036854775807)(hc:Sl h c (cV l))(OF:x_ (f+1) A)(x:b_ base (f+1) S h A cs)(hS:∀ b,S b->b<h.length)(hb:base<=h.length):
  Wp (run (Et base) 25 [.slice c l.length l.length,.agg cs.toArray,.int .i64 next] h) (gC base (f+2) h (Hq f l A next)):=by
 have xR:=x.Qp
 have xG:=x
 obtain ⟨a,b,g,S1,S2,S3,rfl,r1,r2,r3,hg,s1,s2,s3,d1,d2,d3⟩:=x
 refine W.of (λr hx=>Am.Cs hx) ?_
 refine W.box hb λh1 o1 k1 q1=>W.box (base:=base) (by omega) λh2 DS k2 q2=>W.box (base:=base) (by omega) λh3 F3 k3 q3=>?_
 have fg:=kN (kN k1 k2) k3
 have o1:=(o1.aj k2).aj k3
 have DS:=DS.aj k3
 obtain ⟨U6,h4,e4,A4,k4⟩:=pU (base:=base) OF (xR.ax fg λ_ _ h=>h) (by omega) (λb hb=>by have:=hS b hb;omega)
 have n4:=k4.1
 obtain ⟨p4,c4,a4,x4,b4,y4,g4,z4,rfl⟩:=A4.form
 refine W.q5 o1 (W.bs e4 (W.bs (v:=de p4 c4 a4 x4 b4 y4 g4 z4) rfl (W.bI rfl (W.bI rfl (W.bS rfl (W.bS rfl (W.bS rfl (W.nw (base:=base) (h:=h4) (by omega) rfl λh5 o5 k5 q5'=>?_))))))))
 have U7:=kN k4 k5
 have qZ:=kN fg U7
 have o1:=o1.aj U7
 have DS:=DS.aj U7
 have F3:=F3.aj U7
 obtain ⟨h6,e6,k6⟩:=nE (base:=base) hL hl (hc.aj qZ) OF.M (xR.ax qZ λ_ _ h=>h) (by omega)
 have n6:=k6.1
 have Hm:=kN qZ k6
 refine W.kL (λq=>q=([some (.slice c l.length l.length),some (.int .i64 next),some (.pointer (ap h.length)),some (.pointer (ap h1.length)),some (.pointer (ap h2.length)),some (.pointer (ap h4.length)),some (.bool (!(jr (f+1) l A&&dx next 1 99999)))],h6)) ?_ λq hq=>?_
 ·refine W.q5 o1 (W.bs e6 (W.bB rfl (W.ite (λd=>?_) λd=>?_)))
  ·have d':jr (f+1) l A=false:=by simpa using d
   rw [d'];exact W.inl rfl
  ·have d':jr (f+1) l A=true:=by simpa using d
   refine W.bs eW (W.bB rfl (W.inl ?_))
   rw [d',Bool.true_and]
 subst hq
 have o1:=o1.aj k6
 have DS:=DS.aj k6
 have F3:=F3.aj k6
 have o5:=o5.aj k6
 have A6:b_ base (f+2) (iS h3.length h4.length) h6 A (de p4 c4 a4 x4 b4 y4 g4 z4):=(b_.kp _ _ _ _ _ _ _ _ (kN k5 k6) (λ_ _ h=>h) A4).le (by omega)
 have ex:∀ {hz ha hb:AH} {A':Ac} {S' T:Fp} {p c:Int} {a b g:Option Addr} {x y z:Nat} {kd pid pc k n:Int} {s:ByteArray} {ad:Option Addr} {m:Nat} {t:Tm} (oa:bQ base 53 ha (ap h1.length) (setAt (de 0 0 none 0 none 0 none 0) 0 (de p c a x b y g z))) (ka:KB (· = h1.length) hz ha) (la:ha.length=hz.length) (ob:bQ base 58 hb (ap h2.length) (setAt (i_ 0 0 0 0 0 ⟨#[]⟩ none 0) 0 (i_ kd pid pc k n s ad m))) (kb:KB (· = h2.length) ha hb) (lb:hb.length=ha.length) (k0z:KB bp h hz) (k6z:h6.length<=hz.length)
   (hA:b_ base (f+2) S' hz A' (de p c a x b y g z)) (ht:bM base (f+2) T hz t (ah k n s ad m)) (hST:∀ b,S' b->¬T b) (Ek:∀ b,S' b->h3.length<=b/\b<hz.length) (hT:∀ b,T b->h3.length<=b/\b<hz.length),
   Wp (((Am.cell hb h1.length 0).bind (au .i64)).bind λn1=>((Am.cell hb h1.length 1).bind (au .i64)).bind λn2=>((Am.cell hb h1.length 2).bind aN).bind λl3=>((Am.cell hb h1.length 3).bind aN).bind λl4=>((Am.cell hb h1.length 4).bind aN).bind λl5=>
    ((Am.cell hb h2.length 0).bind (au .i64)).bind λm1=>((Am.cell hb h2.length 1).bind (au .i64)).bind λm2=>((Am.cell hb h2.length 2).bind (au .i64)).bind λm3=>((Am.cell hb h2.length 3).bind (au .i64)).bind λm4=>((Am.cell hb h2.length 4).bind (au .i64)).bind λm5=>((Am.cell hb h2.length 5).bind aK).bind λs6=>((Am.cell hb h2.length 6).bind aN).bind λl7=>
    some ((Value.tuple #[(.agg #[(.int .i64 n1),(.int .i64 n2),(.slice l3.1 l3.2 l3.2),(.slice l4.1 l4.2 l4.2),(.slice l5.1 l5.2 l5.2)]),(.agg #[(.int .i64 m1),(.int .i64 m2),(.int .i64 m3),(.int .i64 m4),(.int .i64 m5),(.string s6),(.slice l7.1 l7.2 l7.2)])]),hb)) (gC base (f+2) h (A',⟨kd,pid,pc,t⟩)):=by
  intro hz ha hb A' S' T p c a b g x y z kd pid pc k n s ad m t oa ka la ob kb lb k0z k6z hA ht hST Ek hT
  have hz0:setAt (de 0 0 none 0 none 0 none 0) 0 (de p c a x b y g z)=de p c a x b y g z:=rfl
  rw [hz0] at oa
  have hz1:setAt (i_ 0 0 0 0 0 ⟨#[]⟩ none 0) 0 (i_ kd pid pc k n s ad m)=i_ kd pid pc k n s ad m:=rfl
  rw [hz1] at ob
  have oa:=oa.bF kb λi hi=>by rw [aG] at hi;omega
  refine W.q5 oa (q7 ob (W.ret ⟨_,_,_,_,_,_,S',T,rfl,?_,?_,hST,λb hb=>?_,λb hb=>?_,bR (bR k0z ka λi hi=>by omega) kb λi hi=>by omega⟩))
  ·exact b_.kp _ _ _ _ _ _ _ _ kb (λb hb hk=>by have:=Ek b hb;omega) (b_.kp _ _ _ _ _ _ _ _ ka (λb hb hk=>by have:=Ek b hb;omega) hA)
  ·exact bM.kp _ _ _ _ _ _ _ _ kb (λb hb hk=>by have:=hT b hb;omega) (bM.kp _ _ _ _ _ _ _ _ ka (λb hb hk=>by have:=hT b hb;omega) ht)
  ·have:=Ek b hb;simp only;omega
  ·have:=hT b hb;simp only;omega
 have fS:∀ {i:Nat},bK (ap h2.length) i->i≠h1.length:=λhi=>by rw [aG] at hi;omega
 unfold Hq
 refine W.bS rfl (W.bI rfl (W.bA rfl (W.bA rfl (W.bA rfl (W.bA rfl (W.bB rfl (W.ite (λd=>?_) λd=>?_)))))))
 ·rw [if_pos d]
  refine W.q5 o5 (W.fF DS (by simp) (by simp) λha oa ka la=>W.fF (F3.bF ka λi hi=>fS hi) (by simp) (by simp) λhb ob kb lb=>?_)
  exact ex oa ka la ob kb lb Hm (aT _) A6 (mf (S:=λ_=>False)) (λ_ _ h=>h) (λb hb=>⟨hb.1,by have:=hb.2;show b<h6.length;omega⟩) (λ_ h=>h.elim)
 rw [if_neg d]
 have d':jr (f+1) l A=true/\dx next 1 99999=true:=by simpa using d
 obtain ⟨rk,⟨pc0,pcl⟩,hR8,htR,QE,htB⟩:=vO d'.1
 have Eo:A.pc.toNat<l.length:=by omega
 obtain ⟨cd,rfl,w0,w1,w2,w3,w4,w5⟩:=In.get (hc.aj Hm) Eo
 have Ji:=sJ rk _ (aQ Eo)
 have jk:=(fe rk).2.2 _ (aQ Eo)
 have el:l.getD A.pc.toNat IV=l[A.pc.toNat]:=by simp [Eo]
 rw [el]
 generalize l[A.pc.toNat]=x at w0 w1 w2 w3 w4 w5 Ji jk
 obtain ⟨m1,m2,m3,m4,m5⟩:=OF
 refine W.bI (o1.ap (i:=1) rfl) (W.aE ⟨pc0,pcl⟩ (W.bs rfl (W.bI w0 (W.bI w1 (W.bI w2 (W.bI w3 (W.bI w4 (W.bT w5 (W.nw (base:=base) (h:=h6) (by omega) rfl λh7 o7 k7 q7'=>?_))))))))) 
 have q7':h7.length=h6.length+1:=q7'
 have k7:KB bp h6 h7:=k7
 have Nk:=kN Hm k7
 have o1:=o1.aj k7
 have hR7:=r1.ax (bM.kp _ _) Nk λ_ _ h=>h
 have hS1:∀ b,S1 b->b<h7.length:=λb hb=>by have:=hS b (s1 b hb);omega
 obtain ⟨k,n,s,ad,m,h8,e8,t8,k8⟩:=NJ (base:=base) (next:=next) hR7.Ql hR8 Ji m4 (by omega) hS1
 have n8:=k8.1
 have Jh:=kN Nk k8
 have qi:∀ {β:Type} {Q:β->Prop} {ff:Int->Int->Int->Int->Int->ByteArray->Option β} {hz:AH} (o:bQ base 89 hz (ap h6.length) (h_ x)) (w:Wp (ff x.op x.a x.b x.c x.n x.s) Q),Wp (((Am.cell hz h6.length 0).bind (au .i64)).bind λn1=>((Am.cell hz h6.length 1).bind (au .i64)).bind λn2=>((Am.cell hz h6.length 2).bind (au .i64)).bind λn3=>((Am.cell hz h6.length 3).bind (au .i64)).bind λn4=>((Am.cell hz h6.length 4).bind (au .i64)).bind λn5=>((Am.cell hz h6.length 5).bind aK).bind λs6=>ff n1 n2 n3 n4 n5 s6) Q:=
  λo w=>W.bI (o.ap (i:=0) rfl) (W.bI (o.ap (i:=1) rfl) (W.bI (o.ap (i:=2) rfl) (W.bI (o.ap (i:=3) rfl) (W.bI (o.ap (i:=4) rfl) (W.bT (o.ap (i:=5) rfl) w)))))
 refine qi o7 (W.bS (o1.ap (i:=2) rfl) (W.bs e8 (W.bs (v:=[Value.agg (i_ (cC x A.aH next).1.kind (cC x A.aH next).1.pid (cC x A.aH next).1.pc k n s ad m).toArray,Value.bool (cC x A.aH next).2]) rfl (W.bs (v:=i_ (cC x A.aH next).1.kind (cC x A.aH next).1.pid (cC x A.aH next).1.pc k n s ad m) rfl (W.bI rfl (W.bI rfl (W.bI rfl (W.bI rfl (W.bI rfl (W.bT rfl (W.bS rfl (W.bB rfl (W.nw (base:=base) (h:=h8) (by omega) rfl λh9 o9 k9 q9=>?_)))))))))))))
 have q9:h9.length=h8.length+1:=q9
 have k9:KB bp h8 h9:=k9
 have Zr:=kN k8 k9
 have Nl:=kN Nk Zr
 have k69:=kN k7 Zr
 have o1:=o1.aj Zr
 have o7:=o7.aj Zr
 have DS:=DS.aj k69
 have F3:=F3.aj k69
 have o5:=o5.aj k69
 have A9:b_ base (f+2) (iS h3.length h4.length) h9 A (de p4 c4 a4 x4 b4 y4 g4 z4):=b_.kp _ _ _ _ _ _ _ _ k69 (λ_ _ h=>h) A6
 have t9:bM base (f+2) (iS h7.length h8.length) h9 (cC x A.aH next).1.t (ah k n s ad m):=(bM.kp _ _ _ _ _ _ _ _ k9 (λ_ _ h=>h) t8).le (by omega)
 have hA9:∀ b,iS h3.length h4.length b->h3.length<=b/\b<h9.length:=λb hb=>by omega
 have hT9:∀ b,iS h7.length h8.length b->h3.length<=b/\b<h9.length:=λb hb=>by omega
 have hd9:∀ b,iS h3.length h4.length b->¬iS h7.length h8.length b:=λb hb cy=>by omega
 have exF:∀ {P:az×AH->Prop} {hz:AH} (k9z:KB bp h9 hz),Wp ((run (Et base) 58 [] hz).bind λFc=>((some Fc.1).bind (ig 7)).bind λzf=>((zf[0]?).bind (au .i64)).bind λMh=>((zf[1]?).bind (au .i64)).bind λMi=>((zf[2]?).bind (au .i64)).bind λMj=>((zf[3]?).bind (au .i64)).bind λMk=>((zf[4]?).bind (au .i64)).bind λWZ=>((zf[5]?).bind aK).bind λW0=>((zf[6]?).bind aN).bind λIm=>
   (gate (bc hz Fc.2 (ap h4.length) 5) ((Am.wr base Fc.2 h1.length 0 (de p4 c4 a4 x4 b4 y4 g4 z4)).bind λha=>(Am.wr base ha h2.length 0 [(.int .i64 Mh),(.int .i64 Mi),(.int .i64 Mj),(.int .i64 Mk),(.int .i64 WZ),(.string W0),(.slice Im.1 Im.2 Im.2)]).bind λhb=>(((Am.cell hb h1.length 0).bind (au .i64)).bind λn1=>((Am.cell hb h1.length 1).bind (au .i64)).bind λn2=>((Am.cell hb h1.length 2).bind aN).bind λl3=>((Am.cell hb h1.length 3).bind aN).bind λl4=>((Am.cell hb h1.length 4).bind aN).bind λl5=>
    ((Am.cell hb h2.length 0).bind (au .i64)).bind λm1=>((Am.cell hb h2.length 1).bind (au .i64)).bind λm2=>((Am.cell hb h2.length 2).bind (au .i64)).bind λm3=>((Am.cell hb h2.length 3).bind (au .i64)).bind λm4=>((Am.cell hb h2.length 4).bind (au .i64)).bind λm5=>((Am.cell hb h2.length 5).bind aK).bind λs6=>((Am.cell hb h2.length 6).bind aN).bind λl7=>
    some ((Value.tuple #[(.agg #[(.int .i64 n1),(.int .i64 n2),(.slice l3.1 l3.2 l3.2),(.slice l4.1 l4.2 l4.2),(.slice l5.1 l5.2 l5.2)]),(.agg #[(.int .i64 m1),(.int .i64 m2),(.int .i64 m3),(.int .i64 m4),(.int .i64 m5),(.string s6),(.slice l7.1 l7.2 l7.2)])]),hb)).map Sum.inr))) (Sum.elim P (gC base (f+2) h (A,vN))):=by
  intro P hz k9z
  have n9z:=k9z.1
  obtain ⟨hf,ef,kf⟩:=IR (base:=base) (h:=hz) (by omega)
  have nf:=kf.1
  have k9f:=kN k9z kf
  refine W.bs ef (W.bs (v:=i_ 7 0 0 2 0 QC none 0) rfl (W.bI rfl (W.bI rfl (W.bI rfl (W.bI rfl (W.bI rfl (W.bT rfl (W.bS rfl (W.gt (d_ kf ((o5.aj k9z).ap (i:=0) rfl)) (W.fF (DS.aj k9f) (by simp) (by simp) λha oa ka la=>W.fF ((F3.aj k9f).bF ka λi hi=>fS hi) (by simp) (by simp) λhb ob kb lb=>?_))))))))))
  exact W.mp (ex oa ka la ob kb lb (kN Nl k9f) (by have:=k9f.1;show h6.length<=hf.length;omega) (b_.kp _ _ _ _ _ _ _ _ k9f (λ_ _ h=>h) A9) (Hr (S:=λ_=>False) (by decide)) (λ_ _ h=>h) (λb hb=>by have:=hA9 b hb;show _/\b<hf.length;omega) (λ_ h=>h.elim))
 unfold dA
 refine W.kL (λq=>∃ (hz:AH) (R B:List Tm) (csz:List Value) (Sz:Fp),q=([some (.pointer (ap h.length)),some (.pointer (ap h1.length)),some (.pointer (ap h2.length)),some (.pointer (ap h4.length)),some (.pointer (ap h6.length)),some (.pointer (ap h8.length))],hz) /\
   (dA (f+2) x A next=(⟨A.pid,if eM (f+2) x A.aH=true then x.n else ag .i64 (A.pc+1),R,B,A.aw⟩,(cC x A.aH next).1)) /\
   b_ base (f+2) Sz hz ⟨A.pid,A.pc,R,B,A.aw⟩ csz/\bQ base 53 hz (ap h4.length) csz/\(∀ b,Sz b->(h3.length<=b/\b<h4.length)\/(h9.length<=b/\b<hz.length))/\KB (λb=>(h3.length<=b/\b<h4.length)\/b=h4.length) h9 hz) ?_ λq hq=>?_
 ·have U8:dA (f+2) x A next=if (!(cC x A.aH next).2)=true then (A,vN) else if (x.op==(19:Int))=true then (A,(cC x A.aH next).1) else if (if (x.op==(14:Int))=true then ((A.box.length:Int)==(0:Int)) else false)=true then (A,⟨2,0,0,tk⟩) else match gX (f+2) x A next with|none=>(A,vN)|some (R,B)=>(⟨A.pid,if eM (f+2) x A.aH=true then x.n else ag .i64 (A.pc+1),R,B,A.aw⟩,(cC x A.aH next).1):=rfl
  refine W.ite (λe1=>?_) λe1=>?_
  ·rw [if_pos e1]
   exact W.q5 o5 (exF (KB.refl _ _))
  rw [if_neg e1] at U8 ⊢
  refine W.bI (o7.ap (i:=0) rfl) (W.ite (λe2=>?_) λe2=>?_)
  ·rw [if_pos e2]
   refine W.q5 o5 (q7 o9 (W.fF DS (by simp) (by simp) λha oa ka la=>W.gt (hO ka (show h8.length<h9.length by omega) (show ¬(h8.length=h1.length) by omega)) (W.fF (F3.bF ka λi hi=>fS hi) (by simp) (by simp) λhb ob kb lb=>W.mp ?_)))
   exact ex oa ka la ob kb lb Nl (by show h6.length<=h9.length;omega) A9 t9 hd9 hA9 hT9
  rw [if_neg e2] at U8 ⊢
  refine W.kL (λq=>q=([some (.int .i64 next),some (.pointer (ap h.length)),some (.pointer (ap h1.length)),some (.pointer (ap h2.length)),some (.pointer (ap h4.length)),some (.pointer (ap h6.length)),some (.pointer (ap h8.length)),some (.bool (if (x.op==(14:Int))=true then ((A.box.length:Int)==(0:Int)) else false))],h9)) ?_ λq hq=>?_
  ·refine W.bI (o7.ap (i:=0) rfl) (W.ite (λe3=>?_) λe3=>?_)
   ·rw [if_pos e3];exact W.bS (o1.ap (i:=3) rfl) (W.inl rfl)
   ·rw [if_neg e3];exact W.inl rfl
  subst hq
  refine W.bI rfl (W.bA rfl (W.bA rfl (W.bA rfl (W.bA rfl (W.bA rfl (W.bA rfl (W.bB rfl (W.ite (λe3=>?_) λe3=>?_))))))))
  ·rw [if_pos e3]
   refine W.q5 o5 (W.fF DS (by simp) (by simp) λha oa ka la=>W.fF (F3.bF ka λi hi=>fS hi) (by simp) (by simp) λhb ob kb lb=>W.mp ?_)
   exact ex oa ka la ob kb lb Nl (by show h6.length<=h9.length;omega) A9 (mf (S:=λ_=>False)) (λ_ _ h=>h) (λb hb=>hA9 b hb) (λ_ h=>h.elim)
  rw [if_neg e3] at U8 ⊢
  have hxa:x.a.toNat<A.aH.length:=by have:=Ji.1;omega
  refine W.bI (o7.ap (i:=0) rfl) (W.ite (λYu=>?_) λYu=>?_)
  ·-- a term is taken out of the box
   rw [if_pos Yu] at e3
   have eN:A.box.length≠0:=λe=>e3 (by rw [e];rfl)
   obtain ⟨t0,B0,eB⟩:∃ t0 B0,A.box=t0 :: B0:=by
    cases QE:A.box with
    | nil=>rw [QE] at eN;exact absurd rfl eN
    | cons t0 B0=>exact ⟨t0,B0,rfl⟩
   obtain ⟨aa,bb,gg,k',n',s',a',m',iO,bV,g0,g1,g2,g3,w10,g9,A10,uh,ep⟩:=A9.take hxa eB
   injection bV with c1 bV
   injection bV with c2 bV
   injection bV with c3 bV
   injection bV with c4 bV
   injection bV with c5 _
   injection c1 with _ c1;injection c2 with _ c2;injection c3 with c3 c3' _;injection c4 with c4 c4' _;injection c5 with c5 c5' _
   subst c1;subst c2;subst c3;subst c3';subst c4;subst c4';subst c5;subst c5'
   refine W.bS (o5.ap (i:=2) rfl) (W.bI (o7.ap (i:=1) rfl) (W.bS (o5.ap (i:=3) rfl) (W.aE ⟨by decide,by show (0:Int)<(A.box.length:Int);omega⟩ (W.bs rfl (W.bI g0 (W.bI g1 (W.bT g2 (W.bS g3 (W.aE ⟨Ji.1.1,by show x.a<(A.aH.length:Int);omega⟩ (W.bs rfl (W.bs w10 ?_)))))))))))
   have OG:bQ base 53 iO (ap h4.length) _:=o5.ax uh λi hi hk=>by rw [aG] at hi;omega
   have alA:iO.length=h9.length:=ep
   refine W.bS (OG.ap (i:=3) rfl) (W.aE ⟨by decide,by show (1:Int)<=(A.box.length:Int);omega,gb _,g9 _⟩ (W.fF OG (by simp) (by simp) λjc Dr mz fw=>W.inl ?_))
   have alB:jc.length=iO.length:=fw
   have mz:KB (· = h4.length) iO jc:=mz
   have zD:A.box.length-1=B0.length:=by rw [eB];rfl
   refine ⟨jc,A.aH.set x.a.toNat t0,B0,de A.pid A.pc (some aa) A.aH.length (dm (some bb) (1*4)) B0.length g4 A.aw.length,iS h3.length h4.length,rfl,?_,b_.kp _ _ _ _ _ _ _ _ mz (λb hb hk=>by omega) A10,?_,λb hb=>.inl hb,KB.trans uh mz (λb _ hb=>.inl hb) (λb _ hb=>.inr hb)⟩
   ·rw [U8]
    unfold gX
    rw [if_pos Yu,eB]
    rfl
   ·rw [<- zD]
    exact Dr
  ·refine W.bI (o7.ap (i:=0) rfl) (W.bs IS (W.bB rfl (W.ite (λe5=>?_) λe5=>?_)))
   ·-- an U9 alC makes Zs
    have HQ:x.b<=7:=by
     rcases Ji.2.1.2 with e|e
     ·exfalso
      unfold fH at e5
      rw [e] at e5
      exact absurd e5 (by decide)
     ·exact e
    have hR9:=r1.ax (bM.kp _ _) Nl λ_ _ h=>h
    refine qi o7 (W.bS (o1.ap (i:=2) rfl) (W.bI (o1.ap (i:=0) rfl) (W.wb (NK (base:=base) (h:=h9) (pid:=A.pid) (next:=next) hR9 hR8 Ji HQ (by omega) m4 (λb hb=>by have:=hS b (s1 b hb);have:=Nl.1;omega) (by have:=Nl.1;omega)) ?_)))
    rintro ⟨u,iO⟩ ⟨k',n',s',a',m',bo,rfl,uh,hm⟩
    have uh:KB bp h9 iO:=uh
    have fl:=uh.1
    refine W.bs (v:=[Value.agg (ah k' n' s' a' m').toArray,Value.bool bo]) rfl (W.bs (v:=ah k' n' s' a' m') rfl (W.bI rfl (W.bI rfl (W.bT rfl (W.bS rfl (W.bB rfl (W.nw (base:=base) (h:=iO) (by omega) rfl λjc Dr mz qw=>?_)))))))
    have QF:=kN uh mz
    have U_:KB bp h9 jc:=QF
    have hsN:dA (f+2) x A next=match (match cu x A.aH A.pid next with|none=>none|some t=>if jo (f+2) t=true then some (A.aH.set x.a.toNat t,A.box) else none) with|none=>(A,vN)|some (R,B)=>(⟨A.pid,if eM (f+2) x A.aH=true then x.n else ag .i64 (A.pc+1),R,B,A.aw⟩,(cC x A.aH next).1):=by
     rw [U8]
     unfold gX
     rw [if_neg Yu,if_pos e5]
    have n09:=Nl.1
    have o1:=o1.aj QF
    have o7:=o7.aj QF
    have OG:=o5.aj QF
    cases Yv:cu x A.aH A.pid next with
    | none=>
     rw [Yv] at hm
     subst hm
     have hN:gX (f+2) x A next=none:=by unfold gX;rw [if_neg Yu,if_pos e5,Yv]
     rw [hN]
     refine W.kL (λq=>q=([some (.pointer (ap h.length)),some (.pointer (ap h1.length)),some (.pointer (ap h2.length)),some (.pointer (ap h4.length)),some (.pointer (ap h6.length)),some (.pointer (ap h8.length)),some (.pointer (ap iO.length)),some (.bool true)],jc)) (W.aE rfl (W.inl rfl)) λq hq=>?_
     subst hq
     exact W.bA rfl (W.bA rfl (W.bA rfl (W.bA rfl (W.bA rfl (W.bA rfl (W.bA rfl (W.bB rfl (W.aE rfl (W.q5 OG (exF U_))))))))))
    | some t=>
     rw [Yv] at hm hsN
     obtain ⟨rfl,ht⟩:=hm
     obtain ⟨lZ,Nm,zO⟩:=iT (base:=base) (h:=jc) (cD.ax mz (λ_ _ h=>h) _ _ _ ht) (by omega)
     have alD:=zO.1
     have Yw:=kN U_ zO
     refine W.kL (λq=>q=([some (.pointer (ap h.length)),some (.pointer (ap h1.length)),some (.pointer (ap h2.length)),some (.pointer (ap h4.length)),some (.pointer (ap h6.length)),some (.pointer (ap h8.length)),some (.pointer (ap iO.length)),some (.bool (!jo (f+2) t))],lZ)) (W.aU (by decide) (W.q4 Dr (W.bs Nm (W.bB rfl (W.inl rfl))))) λq hq=>?_
     subst hq
     refine W.bA rfl (W.bA rfl (W.bA rfl (W.bA rfl (W.bA rfl (W.bA rfl (W.bA rfl (W.bB rfl (W.ite (λe6'=>?_) λe6'=>?_))))))))
     ·have hN:gX (f+2) x A next=none:=by
       unfold gX
       rw [if_neg Yu,if_pos e5,Yv]
       have:jo (f+2) t=false:=by simpa using e6'
       simp [this]
      rw [hN]
      exact W.q5 (OG.aj zO) (exF Yw)
     ·have e6t:jo (f+2) t=true:=by simpa using e6'
      obtain ⟨bt,_⟩:=jI e6t
      have o7:=o7.aj zO
      have OG:=OG.aj zO
      have ak4:=cD.ltp _ _ _ (cD.ax zO (λ_ _ h=>h) _ _ _ (cD.ax mz (λ_ _ h=>h) _ _ _ ht))
      obtain ⟨ak5,nK,X4,t13,Ft⟩:=cK (base:=base) (f+2) lZ _ _ _ ak4 bt (by omega) (λb hb=>hb.2)
      obtain ⟨k'',n'',s'',a'',m'',rfl⟩:=t13.form
      have jz:=Ft.1
      have A13:=b_.kp _ _ _ _ _ _ _ _ (kN Yw Ft) (λ_ _ h=>h) A9
      obtain ⟨aa,A5,ec2,w14,A14,IW,eU⟩:=A13.F1 hxa t13 (λb hb cy=>by omega)
      injection ec2 with ec2
      injection ec2 with ec2 ec3 _
      subst ec2;subst ec3
      refine W.bS (OG.ap (i:=2) rfl) (W.bI (o7.ap (i:=1) rfl) (W.q4 (Dr.aj zO) (W.bs X4 (W.g4 (W.gt (d_ Ft (o7.ap (i:=1) rfl)) (W.gt (d_ Ft (OG.ap (i:=2) rfl)) (W.aE ⟨Ji.1.1,by show x.a<(A.aH.length:Int);omega⟩ (W.bs rfl (W.bs w14 (W.inl ?_))))))))))
      refine ⟨A5,A.aH.set x.a.toNat t,A.box,_,λb=>iS h3.length h4.length b\/iS lZ.length nK.length b,rfl,?_,A14,(OG.aj Ft).ax IW λi hi hk=>by rw [aG] at hi;omega,λb hb=>?_,KB.trans (kN Yw Ft) IW (λ_ _ h=>h.elim) (λb _ hb=>.inl hb)⟩
      ·rw [hsN]
       simp [e6t]
      ·rcases hb with hb|hb
       ·exact .inl hb
       ·exact .inr (by omega)
   ·refine W.inl ⟨h9,A.aH,A.box,de p4 c4 a4 x4 b4 y4 g4 z4,iS h3.length h4.length,rfl,?_,A9,o5,λb hb=>.inl hb,KB.refl _ _⟩
    rw [U8]
    unfold gX
    rw [if_neg Yu,if_neg e5]
 ·obtain ⟨hz,R,B,csz,Sz,rfl,U8,hA,oz,hSz,kz⟩:=hq
  have nz:=kz.1
  rw [show (if (!(cC x A.aH next).2)=true then (A,vN) else if (x.op==(19:Int))=true then (A,(cC x A.aH next).1) else if (if (x.op==(14:Int))=true then ((A.box.length:Int)==(0:Int)) else false)=true then (A,⟨2,0,0,tk⟩) else match gX (f+2) x A next with|none=>(A,vN)|some (R,B)=>(⟨A.pid,if eM (f+2) x A.aH=true then x.n else ag .i64 (A.pc+1),R,B,A.aw⟩,(cC x A.aH next).1))=dA (f+2) x A next from rfl,U8]
  have hA':=hA
  obtain ⟨za,zb,zg,Z1,Z2,Z3,rfl,_⟩:=hA'
  have o1:=o1.ax kz λi hi hk=>by rw [aG] at hi;omega
  have o7:=o7.ax kz λi hi hk=>by rw [aG] at hi;omega
  have o9:=o9.ax kz λi hi hk=>by rw [aG] at hi;omega
  have DS:=DS.ax kz λi hi hk=>by rw [aG] at hi;omega
  have F3:=F3.ax kz λi hi hk=>by rw [aG] at hi;omega
  have k0z:KB bp h hz:=bR Nl kz λi hi=>by omega
  refine W.bA rfl (W.bA rfl (W.bA rfl (W.bA rfl (W.bA rfl (W.bA rfl (W.bI (oz.ap (i:=1) rfl) (W.fF oz (by simp) (by simp) λha oa ka la=>?_)))))))
  have la:ha.length=hz.length:=la
  have ka:KB (· = h4.length) hz ha:=ka
  have hRa:=((r1.ax (bM.kp _ _) k0z λ_ _ h=>h).ax (bM.kp _ _) ka λb hb hk=>by have:=hS b (s1 b hb);omega).Ql.le (show f+1<=f+2 by omega)
  obtain ⟨hy0,ey0,Zt⟩:=IT (base:=base) (x:=x) hRa hR8 Ji (by omega)
  have ny0:=Zt.1
  have o1:=o1.bF ka λi hi=>by rw [aG] at hi;omega
  have o7:=o7.bF ka λi hi=>by rw [aG] at hi;omega
  refine W.kL (λq=>∃ hy,q=([some (.pointer (ap h1.length)),some (.pointer (ap h2.length)),some (.pointer (ap h4.length)),some (.pointer (ap h8.length))],hy)/\bQ base 53 hy (ap h4.length) (de A.pid (if eM (f+2) x A.aH=true then x.n else ag .i64 (A.pc+1)) za R.length zb B.length zg A.aw.length)/\KB (· = h4.length) hz hy) ?_ λq hq=>?_
  ·refine qi o7 (W.bS (o1.ap (i:=2) rfl) (W.bs ey0 (W.bB rfl (W.ite (λe=>?_) λe=>?_))))
   ·rw [if_pos e]
    refine W.bI ((o7.aj Zt).ap (i:=4) rfl) (W.fF (oa.aj Zt) (by simp [setAt]) (by simp) λPb oc kc lc=>W.inl ⟨Pb,rfl,oc,?_⟩)
    exact KB.trans (KB.trans ka Zt (λ_ _ h=>h) (λ_ _ h=>h.elim)) kc (λ_ _ h=>h) (λ_ _ h=>h)
   ·rw [if_neg e]
    exact W.inl ⟨hy0,rfl,oa.aj Zt,KB.trans ka Zt (λ_ _ h=>h) (λ_ _ h=>h.elim)⟩
  obtain ⟨hy,rfl,oy,ky⟩:=hq
  have ny:=ky.1
  have o9:=o9.bF ky λi hi=>by rw [aG] at hi;omega
  have DS:=DS.bF ky λi hi=>by rw [aG] at hi;omega
  have F3:=F3.bF ky λi hi=>by rw [aG] at hi;omega
  refine W.bA rfl (W.bA rfl (W.bA rfl (W.bA rfl (W.q5 oy (q7 o9 (W.fF DS (by simp) (by simp) λhd od kd' ld=>W.gt (hO kd' (show h8.length<hy.length by omega) (show ¬(h8.length=h1.length) by omega)) (W.fF (F3.bF kd' λi hi=>fS hi) (by simp) (by simp) λhb ob kb lb=>?_)))))))
  have hAy:=(b_.kp _ _ _ _ _ _ _ _ ky (λb hb hk=>by have:=hSz b hb;omega) hA).nG (if eM (f+2) x A.aH=true then x.n else ag .i64 (A.pc+1))
  exact ex od kd' ld ob kb lb (bR k0z ky λi hi=>by omega) (by show h6.length<=hy.length;omega) hAy (bM.kp _ _ _ _ _ _ _ _ ky (λb hb hk=>by omega) (bM.kp _ _ _ _ _ _ _ _ kz (λb hb hk=>by omega) t9)) (λb hb cy=>by have:=hSz b hb;omega) (λb hb=>by have:=hSz b hb;show _/\b<hy.length;omega) (λb hb=>by have:=hT9 b hb;show _/\b<hy.length;omega)
theorem rl{base:Nat}:∀ f,Hn base f 87
 | 0=>λf2 h p p2 t u cs uf x=>x.elim
 | f+1=>λf2 h p p2 t u cs uf x y hb=>by
  cases f2 with
  | zero=>exact y.elim
  | succ f2=>
   obtain ⟨k,n,s,l⟩:=t
   obtain ⟨k',n',s',m⟩:=u
   obtain ⟨a,rfl,vo,_,hl⟩:=x.parts
   obtain ⟨a2,rfl,M_,_,G9⟩:=y.parts
   simp only [maxLen] at hl G9
   refine Wp.run (P:=λh'=>KB bp h h') ?_
   refine W.of (λr hx=>Am.r87 hx) ?_
   have d:=Hs.start hb
   ((refine W.nD d λh1 d _ vQ=>?_);(refine W.nD d λh2 d _ U'=>?_))
   apply W.jb (if (k != k')=true then true else if (n != n')=true then true else if (!(s.toList==s'.toList))=true then true else ((l.length:Int) != (m.length:Int))) d
   ·((with_reducible repeat refine W.a1 d ?_))
    refine W.ite (λc=>?_) (λc=>?_)
    ·exact W.lb rfl (by rw [if_pos c];rfl) (KB.refl _ _)
    rw [if_neg c]
    ((with_reducible repeat refine W.a1 d ?_))
    refine W.ite (λc=>?_) (λc=>?_)
    ·exact W.lb rfl (by rw [if_pos c];rfl) (KB.refl _ _)
    rw [if_neg c]
    ((with_reducible repeat refine W.a1 d ?_))
    refine W.ite (λc=>?_) (λc=>?_)
    ·exact W.lb rfl (by rw [if_pos c];rfl) (KB.refl _ _)
    rw [if_neg c]
    ((with_reducible repeat refine W.a1 d ?_))
    exact W.lb rfl rfl (KB.refl _ _)
   intro h3 d n3
   ((with_reducible repeat refine W.a2 ?_))
   have hq:jf (f+1) (.mk k n s l) (.mk k' n' s' m)=(if (if (k != k')=true then true else if (n != n')=true then true else if (!(s.toList==s'.toList))=true then true else ((l.length:Int) != (m.length:Int)))=true then false else kR (jf f) l m):=by
    rw [jf]
    by_cases c1:(k != k')=true
    ·rw [if_pos c1,if_pos c1];rfl
    rw [if_neg c1,if_neg c1]
    by_cases c2:(n != n')=true
    ·rw [if_pos c2,if_pos c2];rfl
    rw [if_neg c2,if_neg c2]
    by_cases c3:(!(s.toList==s'.toList))=true
    ·rw [if_pos c3,if_pos c3];rfl
    rw [if_neg c3,if_neg c3]
   rw [hq]
   refine W.ite (λc=>?_) (λc=>?_)
   ·exact W.ret ⟨by rw [if_pos c],d.kb⟩
   ·have Zp:l.length=m.length:=by
     rcases Nat.decEq l.length m.length with dv|he
     ·exfalso
      refine c ?_
      split
      ·rfl
      split
      ·rfl
      split
      ·rfl
      ·simp;omega
     ·exact he
    rw [if_neg c]
    obtain ⟨h4,e4,k4⟩:=F2 (base:=base) (rl f) (k:=k) (n:=n) (s:=s) (k2:=k') (n2:=n') (s2:=s') (by omega) Zp l.length 0 h3 (by omega) (vo.ax d.kb λ_ _ h=>h) (M_.ax d.kb λ_ _ h=>h) (d.ol (by (· repeat first|exact .head _|apply List.Mem.tail))) (d.ol (by (· repeat first|exact .head _|apply List.Mem.tail))) d.ge
    rw [cH,cH,show ((0:Nat):Int)=0 from rfl] at e4
    refine W.bs e4 ?_
    have d:=d.kN k4
    cases kR (jf f) l m with
    | true=>exact W.aU (show ¬(2:Nat)=1 by decide) (W.aE rfl (W.ret ⟨rfl,d.kb⟩))
    | false=>exact W.aE rfl (W.bB rfl (W.ret ⟨rfl,d.kb⟩))
def Zu(base F:Nat)(h:AH)(o:Option Tm)(r:Value×AH):Prop:=
 ∃ k n s a m b,r.1 = .tuple #[.agg (ah k n s a m).toArray,.bool b]/\KB bp h r.2/\match o with
  | none=>b=false
  | some t=>b=true/\bM base F (iS h.length r.2.length) r.2 t (ah k n s a m)
theorem Zu.ok{l:List Tm}(kb:KB bp h h')(x:bM base F (iS h.length h'.length) h' (.mk k n s l) (ah k n s a m)):Zu base F h (some (.mk k n s l)) (.tuple #[.agg (ah k n s a m).toArray,.bool true],h'):=
 ⟨k,n,s,a,m,true,rfl,kb,rfl,x⟩
theorem Zu.no(kb:KB bp h h'):Zu base F h none (.tuple #[.agg (ah k n s a m).toArray,.bool false],h'):=
 ⟨k,n,s,a,m,false,rfl,kb,rfl⟩
theorem yf(hs:s.size<=maxLen):bM base (f+1) S h (.mk k n s []) (ah k n s none 0):=⟨hs,by decide,none,rfl,a_.nil⟩
theorem aev{x:In}{R:List Tm}{l:List Tm}(h:x.op=6)(e:rg R x.b = .mk k n s l):cu x R pid next=if (if (k != (4:Int))=true then true else decide (x.n>=(l.length:Int)))=true then none else some (l.getD x.n.toNat tk):=by
 unfold cu
 rw [if_neg (by simp [h]),if_neg (by simp [h]),if_neg (by simp [h]),if_neg (by simp [h]),if_neg (by simp [h]),if_neg (by simp [h]),if_pos (by simp [h]),e]
 rfl
theorem Va{x:In}{R:List Tm}{l:List Tm}(h:x.op=7)(e:rg R x.b = .mk k n s l):cu x R pid next=if (if (k != (5:Int))=true then true else ((l.length:Int)==(0:Int)))=true then none else some (l.getD 0 tk):=by
 unfold cu
 rw [if_neg (by simp [h]),if_neg (by simp [h]),if_neg (by simp [h]),if_neg (by simp [h]),if_neg (by simp [h]),if_neg (by simp [h]),if_neg (by simp [h]),if_pos (by simp [h]),e]
 rfl
theorem Vb{x:In}{R:List Tm}{l:List Tm}(h:x.op=8)(e:rg R x.b = .mk k n s l):cu x R pid next=if (if (k != (5:Int))=true then true else ((l.length:Int)==(0:Int)))=true then none else some (.mk 5 0 ⟨#[]⟩ (l.drop 1)):=by
 unfold cu
 rw [if_neg (by simp [h]),if_neg (by simp [h]),if_neg (by simp [h]),if_neg (by simp [h]),if_neg (by simp [h]),if_neg (by simp [h]),if_neg (by simp [h]),if_neg (by simp [h]),if_pos (by simp [h]),e]
 rfl
theorem aew{x:In}{R:List Tm}{k2 n2:Int}{s2:ByteArray}{l l2:List Tm}(h:x.op=9)(e:rg R x.b = .mk k n s l)(e2:rg R x.c = .mk k2 n2 s2 l2):cu x R pid next=if (k==(1:Int))=true then (if (k2==(1:Int))=true then some (.mk 1 (ag .i64 (n+n2)) ⟨#[]⟩ []) else none) else none:=by
 unfold cu
 rw [if_neg (by simp [h]),if_neg (by simp [h]),if_neg (by simp [h]),if_neg (by simp [h]),if_neg (by simp [h]),if_neg (by simp [h]),if_neg (by simp [h]),if_neg (by simp [h]),if_neg (by simp [h]),if_pos (by simp [h]),e,e2]
 rfl
theorem W.o4{Q:β->Prop}{g:Nat}{l:List Tm}(hs:a_ base t 4 (bM base (g+1)) S h l a)(hi:i<l.length){f:Int->Int->ByteArray->Option Addr×Nat->Option β}(w:∀ k n s a2 l2,l[i] = .mk k n s l2->bM base (g+1) S h (.mk k n s l2) (ah k n s a2 l2.length)->a_ base 56 4 (bM base g) S h l2 a2->s.size<=maxLen->l2.length<=maxLen->Wp (f k n s (a2,l2.length)) Q):
  Wp (a.bind λad=>((Am.cell h ad.block (ad.off+i*4)).bind (au .i64)).bind λn1=>((Am.cell h ad.block (ad.off+i*4+1)).bind (au .i64)).bind λn2=>((Am.cell h ad.block (ad.off+i*4+1+1)).bind aK).bind λs3=>((Am.cell h ad.block (ad.off+i*4+1+1+1)).bind aN).bind λl4=>f n1 n2 s3 l4) Q:=by
 obtain ⟨ad,k,n,s,a2,m,C,rfl,_,g0,g1,g2,g3,hm,hC⟩:=hs.FY hi
 obtain ⟨l2,e,rfl,h1,h2,r⟩:=hm.parts
 refine W.bs rfl (W.bI g0 (W.bI g1 (W.bT g2 (W.bS g3 (w k n s a2 l2 e ?_ (r.mono hC) h1 h2)))))
 rw [<- e]
 exact bM.mo _ _ _ _ _ _ _ hC hm
theorem Yx{P:Fp->AH->α->List Value->Prop}(kp:Kp P){l:List α}:∀ (U:Fp) (h h':AH),KB U h h'->(∀ b,S b->¬U b)->a_ base t w P S h l a->a_ base t w P S h' l a:=λU h h' k hs x=>x.ax kp k hs
theorem bM.eq{k' n':Int}{s':ByteArray}{l:List Tm}(x:bM base f S h (.mk k n s l) (ah k' n' s' a m)):k=k'/\n=n'/\s=s'/\m=l.length:=by
 cases f with
 | zero=>exact x.elim
 | succ f=>
  obtain ⟨l2,e,hm,_⟩:=bM.parts x
  injection e with t1 t2 t3 t4
  exact ⟨t1,t2,t3,by rw [hm,t4]⟩
theorem F4{x:In}(hA:b_ base (f+1) S h A cs)(hn:A.aH.length=8)(hx:Yo x)(HQ:x.b<=7)(O5:x.op=6\/x.op=7\/x.op=8\/x.op=9)(hB:∀ t∈A.aH,jJ (f+1) t)(hS:∀ b,S b->b<h.length)(hb:base<=h.length):
  Wp (run (Et base) 119 [.agg (h_ x).toArray,.agg cs.toArray] h) (Zu base (f+2) h (cu x A.aH A.pid next)):=by
 obtain ⟨⟨a0,a7⟩,⟨b0,_⟩,⟨c0,c7⟩,hx4,hx6,Yp,Yq⟩:=hx
 obtain ⟨a,b,g,S1,S2,S3,rfl,hr,_,_,_,s1,_⟩:=hA
 have d:=(Hs.start hb).IJ S1 _ hr (Yx (bM.kp _ _)) (λb hb=>hS b (s1 b hb)) (λx hx=>nomatch hx) rfl
 have eN:x.b.toNat<A.aH.length:=by omega
 have nI:x.c.toNat<A.aH.length:=by omega
 refine W.of (λr hx=>Am.akb hx) ?_
 ((try simp only [n1,n2,n3,n4,n5,n6] at d);(refine W.nD d λh1 d _ vQ=>?_);(refine W.nD d λh2 d _ U'=>?_);(refine W.nD d λh3 d _ Ep=>?_);(with_reducible repeat first|refine W.a1 d ?_|refine W.a8 ?_))
 refine W.o4 (d.rs (i:=0) rfl) eN λkb nb sb ab lb eB tB rB hs1 A1=>?_
 have d:=d.Nt (i:=0) rfl rfl _ rB (Yx (bM.kp _ _))
 have Em:=jX (R:=A.aH) b0 eN
 rw [eB] at Em
 have En:=hB _ (aQ eN)
 rw [eB] at En
 obtain ⟨B1,B2,B3⟩:=En
 ((try simp only [n1,n2,n3,n4,n5,n6] at d);(refine W.nD d λh4 d _ kh4=>?_);(with_reducible repeat first|refine W.a1 d ?_|refine W.a5 d λhw d lw kw=>?_))
 refine W.ite (λc=>?_) (λc7=>?_)
 ·rw [aev (beq_iff_eq.1 c) Em]
  have e6:=hx6 (beq_iff_eq.1 c)
  apply W.jb (if (kb != (4:Int))=true then true else decide (x.n>=(lb.length:Int))) d
  ·((try simp only [n1,n2,n3,n4,n5,n6] at d);(with_reducible repeat refine W.a1 d ?_))
   refine W.ite (λc=>?_) (λc=>?_)
   ·exact W.lb rfl (by rw [if_pos c];rfl) (KB.refl _ _)
   rw [if_neg c]
   ((with_reducible repeat refine W.a1 d ?_))
   exact W.lb rfl rfl (KB.refl _ _)
  intro h5 d n5
  ((try simp only [n1,n2,n3,n4,n5,n6] at d);(with_reducible repeat refine W.a2 ?_))
  refine W.ite (λc=>?_) (λc=>?_)
  ·rw [if_pos c]
   ((with_reducible repeat first|refine W.a1 d ?_|refine W.a5 d λhw d lw kw=>?_))
   exact W.ret (.no d.kb)
  ·have Hh:x.n.toNat<lb.length:=by
    split at c
    ·exact absurd rfl c
    ·simp at c;omega
   rw [if_neg c]
   have cc:x.n<(lb.length:Int):=by omega
   ((with_reducible repeat first|refine W.a1 d ?_|refine W.a8 ?_))
   cases f with
   | zero=>exact ((B3 _ (aQ Hh)):jJ 0 _).elim
   | succ f=>
   refine W.o4 (d.rs (i:=1) rfl) Hh λkc nc sc ac lc eC tC rC nJ G9=>?_
   have F0:=B3 _ (aQ Hh)
   rw [eC] at F0
   obtain ⟨uf,h6,e6,t6,k6⟩:=dh (base:=base) (f+1) h5 S1 _ _ tC.vq F0 d.ge (d.fK (i:=1) rfl)
   obtain ⟨k',n',s',a',m',rfl⟩:=t6.form
   obtain ⟨rfl,rfl,rfl,rfl⟩:=t6.eq
   have d:=d.fb (bM.kp _ _) k6 t6
   refine W.bs e6 ?_
   ((try simp only [n1,n2,n3,n4,n5,n6] at d);(with_reducible repeat first|refine W.a1 d ?_|refine W.a2 ?_|refine W.a5 d λhw d lw kw=>?_))
   have eD:lb.getD x.n.toNat tk = .mk kc nc sc lc:=by simp [Hh,eC]
   rw [eD]
   exact W.ret (.ok d.kb (bM.le (by omega) (d.out (bM.mo _ _) (i:=2) rfl)))
 apply W.jb (decide (x.op=7\/x.op=8)) d
 ·refine W.ite (λc=>?_) (λc=>?_)
  ·exact W.lb rfl (by rw [c];have:=beq_iff_eq.1 c;simp [this]) (KB.refl _ _)
  ·have c':x.op≠7:=by simpa using c
   exact W.lb rfl (by congr 3;simp [c'];rfl) (KB.refl _ _)
 intro h5 d n5
 ((try simp only [n1,n2,n3,n4,n5,n6] at d);(with_reducible repeat refine W.a2 ?_))
 have c7':x.op≠6:=by simpa using c7
 refine W.ite (λc=>?_) (λc=>?_)
 ·have Zv:=of_decide_eq_true c
  apply W.jb (if (kb != (5:Int))=true then true else ((lb.length:Int)==(0:Int))) d
  ·((with_reducible repeat refine W.a1 d ?_))
   refine W.ite (λc=>?_) (λc=>?_)
   ·exact W.lb rfl (by rw [if_pos c];rfl) (KB.refl _ _)
   rw [if_neg c]
   ((with_reducible repeat refine W.a1 d ?_))
   exact W.lb rfl rfl (KB.refl _ _)
  intro h6 d n6
  ((with_reducible repeat refine W.a2 ?_))
  refine W.ite (λe=>?_) (λe=>?_)
  ·((with_reducible repeat first|refine W.a1 d ?_|refine W.a5 d λhw d lw kw=>?_))
   rcases Zv with Zv|Zv
   ·rw [Va Zv Em,if_pos e]
    exact W.ret (.no d.kb)
   ·rw [Vb Zv Em,if_pos e]
    exact W.ret (.no d.kb)
  ·have Hh:0<lb.length:=by
    split at e
    ·exact absurd rfl e
    ·simp at e
     rcases Nat.eq_zero_or_pos lb.length with h|h
     ·exact absurd (iL h) e
     ·exact h
   ((with_reducible repeat refine W.a1 d ?_))
   refine W.ite (λc8=>?_) (λc8=>?_)
   ·rw [Va (beq_iff_eq.1 c8) Em,if_neg e]
    have alE:(0:Int)<(lb.length:Int):=by omega
    ((with_reducible repeat first|refine W.a1 d ?_|refine W.a8 ?_))
    cases f with
    | zero=>exact ((B3 _ (aQ Hh)):jJ 0 _).elim
    | succ f=>
    refine W.o4 (i:=0) (d.rs (i:=1) rfl) Hh λkc nc sc ac lc eC tC rC nJ G9=>?_
    have F0:=B3 _ (aQ Hh)
    rw [eC] at F0
    obtain ⟨uf,h7,e7,t7,k7⟩:=dh (base:=base) (f+1) h6 S1 _ _ tC.vq F0 d.ge (d.fK (i:=1) rfl)
    obtain ⟨k',n',s',a',m',rfl⟩:=t7.form
    obtain ⟨rfl,rfl,rfl,rfl⟩:=t7.eq
    have d:=d.fb (bM.kp _ _) k7 t7
    refine W.bs e7 ?_
    ((try simp only [n1,n2,n3,n4,n5,n6] at d);(with_reducible repeat first|refine W.a1 d ?_|refine W.a2 ?_|refine W.a5 d λhw d lw kw=>?_))
    have eD:lb.getD 0 tk = .mk kc nc sc lc:=by simp [Hh,eC]
    rw [eD]
    exact W.ret (.ok d.kb (bM.le (by omega) (d.out (bM.mo _ _) (i:=2) rfl)))
   ·have c8':x.op=8:=Zv.resolve_left λh=>c8 (by simp [h])
    rw [Vb c8' Em,if_neg e]
    ((with_reducible repeat refine W.a1 d ?_))
    refine W.aE ⟨by decide,by show (1:Int)<=(lb.length:Int);omega,gb _,(d.rs (i:=1) rfl).NI _⟩ ?_
    have hR:=(d.rs (i:=1) rfl).Ql.part (i:=1) (n:=lb.length-1) (by omega)
    have el:(lb.drop 1).take (lb.length-1)=lb.drop 1:=cG (by simp)
    rw [el] at hR
    have ln:(lb.drop 1).length=lb.length-1:=by simp
    obtain ⟨a7',h7,e7,r7,k7⟩:=fO (base:=base) (by omega) (λt ht=>B3 t (rm ht)) hR d.ge (d.fK (i:=0) rfl)
    rw [ln] at e7
    have d:=d.call k7 _ _ r7 (Yx (bM.kp _ _)) (λb hb=>hb)
    refine W.bs e7 ?_
    ((try simp only [n1,n2,n3,n4,n5,n6] at d);(with_reducible repeat first|refine W.a1 d ?_|refine W.a2 ?_|refine W.a5 d λhw d lw kw=>?_))
    have rr:=d.rs (i:=2) rfl
    have r8:a_ base 56 4 (bM base f) (iS h.length _) _ _ _:=rr.mono λb hb=>⟨(d.Ab (i:=2) rfl rfl b hb).resolve_left λh=>h,d.fK (i:=2) rfl b hb⟩
    refine W.ret (.ok d.kb ⟨by decide,by simp [maxLen] at A1 ⊢;omega,_,by rw [ln],r8.imp λ_ _ _ _=>bM.le (by omega)⟩)
 ·have c9:x.op=9:=by simp at c;omega
  ((with_reducible repeat first|refine W.a1 d ?_|refine W.a8 ?_))
  refine W.o4 (d.rs (i:=0) rfl) nI λkc nc sc ac lc eC tC rC nJ G9=>?_
  have eC':=jX (R:=A.aH) c0 nI
  rw [eC] at eC'
  rw [aew c9 Em eC']
  ((refine W.nD d λh6 d _ kh6=>?_);(with_reducible repeat first|refine W.a1 d ?_|refine W.a5 d λhw d lw kw=>?_))
  obtain ⟨h7,e7,k7⟩:=yd (base:=base) (v:=ag .i64 (nb+nc)) d.ge
  have d:=d.kN k7
  refine W.bs e7 ?_
  ((try simp only [n1,n2,n3,n4,n5,n6] at d);(with_reducible repeat first|refine W.a1 d ?_|refine W.a2 ?_|refine W.a6 d ?_))
  refine W.ite (λc1=>?_) (λc1=>?_)
  ·rw [if_pos c1]
   ((with_reducible repeat first|refine W.a1 d ?_|refine W.a5 d λhw d lw kw=>?_|refine W.a6 d ?_))
   by_cases c2:(kc==(1:Int))=true
   ·rw [if_pos c2,c2]
    exact W.ret (.ok d.kb (yf (by decide)))
   ·have Qw:(kc==(1:Int))=false:=by simpa using c2
    rw [if_neg c2,Qw]
    exact W.ret (.no d.kb)
  ·rw [if_neg c1]
   ((with_reducible repeat first|refine W.a1 d ?_|refine W.a5 d λhw d lw kw=>?_))
   exact W.ret (.no d.kb)
theorem vR(hb:base<=h.length):∃ h',run (Et base) 92 [.string s] h=some (.agg (ah 2 0 s none 0).toArray,h')/\KB bp h h':=by
 refine Wp.run (P:=λh'=>KB bp h h') ?_
 refine W.of (λr hx=>Am.UW hx) ?_
 exact W.nw hb rfl λh1 o1 k1 q1=>W.q4 o1 (W.ret ⟨rfl,k1⟩)
theorem F5{x:In}(hA:b_ base (f+1) S h A cs)(hn:A.aH.length=8)(hx:Yo x)(hm:fH x.op=true)(A5:x.op≠14)(hxs:x.s.size<=1048576)(hB:∀ t∈A.aH,jJ (f+1) t)(hS:∀ b,S b->b<h.length)(hb:base<=h.length):
  Wp (run (Et base) 89 [.agg (h_ x).toArray,.agg cs.toArray,.int .i64 next] h) (Zu base (f+2) h (cu x A.aH A.pid next)):=by
 have j6:=hx
 have hA':=hA
 obtain ⟨⟨a0,a7⟩,⟨b0,b7⟩,⟨c0,c7⟩,hx4,hx6,Yp,Yq⟩:=hx
 obtain ⟨a,b,g,S1,S2,S3,rfl,hr,_,_,_,s1,_⟩:=hA
 have HQ:x.b<=7:=b7.resolve_left λe=>by
  unfold fH at hm
  rw [e] at hm
  exact absurd hm (by decide)
 have d:=((Hs.start hb).IJ S1 _ hr (Yx (bM.kp _ _)) (λb hb=>hS b (s1 b hb)) (λx hx=>nomatch hx) rfl).IJ S _ hA' (λU h h' k hs x=>b_.kp _ _ _ U h h' _ _ k hs x) hS (λx hx=>nomatch hx) rfl
 have eN:x.b.toNat<A.aH.length:=by omega
 have nI:x.c.toNat<A.aH.length:=by omega
 have alt:∀ {k n:Int} {s:ByteArray},s.size<=1048576->jJ (f+2) (.mk k n s []):=λhs=>⟨hs,by decide,λ_ h=>nomatch h⟩
 refine W.of (λr hx=>Am.r89 hx) ?_
 ((try simp only [n1,n2,n3,n4,n5,n6] at d);(refine W.nD d λh1 d _ vQ=>?_);(refine W.nD d λh2 d _ U'=>?_);(refine W.nD d λh3 d _ Ep=>?_);(with_reducible repeat refine W.a1 d ?_))
 refine W.ite (λc=>?_) (λc1=>?_)
 ·((with_reducible repeat refine W.a1 d ?_))
  obtain ⟨h4,e4,k4⟩:=yd (base:=base) (v:=x.n) d.ge
  have d:=d.kN k4
  refine W.bs e4 ?_
  ((with_reducible repeat first|refine W.a1 d ?_|refine W.a2 ?_|refine W.a5 d λhw d lw kw=>?_))
  have em:cu x A.aH A.pid next=some (.mk 1 x.n ⟨#[]⟩ []):=by unfold cu;rw [if_pos c]
  rw [em]
  exact W.ret (.ok d.kb (yf (by decide)))
 refine W.ite (λc=>?_) (λc2=>?_)
 ·((with_reducible repeat refine W.a1 d ?_))
  obtain ⟨h4,e4,k4⟩:=vR (base:=base) (s:=x.s) d.ge
  have d:=d.kN k4
  refine W.bs e4 ?_
  ((with_reducible repeat first|refine W.a1 d ?_|refine W.a2 ?_|refine W.a5 d λhw d lw kw=>?_))
  have em:cu x A.aH A.pid next=some (.mk 2 0 x.s []):=by unfold cu;rw [if_neg c1,if_pos c]
  rw [em]
  exact W.ret (.ok d.kb (yf (by simp only [maxLen];omega)))
 refine W.ite (λc=>?_) (λc3=>?_)
 ·((with_reducible repeat first|refine W.a1 d ?_|refine W.a5 d λhw d lw kw=>?_))
  have em:cu x A.aH A.pid next=some (.mk 5 0 ⟨#[]⟩ []):=by unfold cu;rw [if_neg c1,if_neg c2,if_pos c]
  rw [em]
  exact W.ret (.ok d.kb (yf (by decide)))
 refine W.ite (λc=>?_) (λc4=>?_)
 ·((with_reducible repeat first|refine W.a1 d ?_|refine W.a8 ?_))
  refine W.o4 (d.rs (i:=0) rfl) eN λkb nb sb ab lb eB tB rB hs1 A1=>?_
  have En:=hB _ (aQ eN)
  rw [eB] at En
  obtain ⟨uf,h6,e6,t6,k6⟩:=dh (base:=base) (f+1) h3 S1 _ _ tB.vq En d.ge (d.fK (i:=0) rfl)
  obtain ⟨k',n',s',a',m',rfl⟩:=t6.form
  obtain ⟨rfl,rfl,rfl,rfl⟩:=t6.eq
  have d:=d.fb (bM.kp _ _) k6 t6
  refine W.bs e6 ?_
  ((try simp only [n1,n2,n3,n4,n5,n6] at d);(with_reducible repeat first|refine W.a1 d ?_|refine W.a2 ?_|refine W.a5 d λhw d lw kw=>?_))
  have em:cu x A.aH A.pid next=some (rg A.aH x.b):=by unfold cu;rw [if_neg c1,if_neg c2,if_neg c3,if_pos c]
  rw [em,jX b0 eN,eB]
  exact W.ret (.ok d.kb (bM.le (by omega) (d.out (bM.mo _ _) (i:=2) rfl)))
 refine W.ite (λc=>?_) (λc5=>?_)
 ·((with_reducible repeat refine W.a1 d ?_))
  have h4':=hx4 (beq_iff_eq.1 c)
  have hw:ag .i64 (x.b+x.n)=x.b+x.n:=bm (by omega) (by omega)
  rw [hw]
  refine W.aE ⟨b0,by omega,by show x.b+x.n<=(A.aH.length:Int);omega,(d.rs (i:=0) rfl).NI _⟩ ?_
  have ln:((A.aH.drop x.b.toNat).take x.n.toNat).length=(x.b+x.n).toNat-x.b.toNat:=by simp;omega
  have hR:=(d.rs (i:=0) rfl).Ql.part (i:=x.b.toNat) (n:=x.n.toNat) (by omega)
  obtain ⟨a7',h7,e7,r7,k7⟩:=fO (base:=base) (by omega) (λt ht=>hB t (rm (um ht))) hR d.ge (d.fK (i:=0) rfl)
  rw [ln] at e7
  have d:=d.call k7 _ _ r7 (Yx (bM.kp _ _)) (λb hb=>hb)
  refine W.bs e7 ?_
  ((try simp only [n1,n2,n3,n4,n5,n6] at d);(with_reducible repeat first|refine W.a1 d ?_|refine W.a2 ?_|refine W.a5 d λhw d lw kw=>?_))
  have em:cu x A.aH A.pid next=some (.mk 4 0 ⟨#[]⟩ ((A.aH.drop x.b.toNat).take x.n.toNat)):=by unfold cu;rw [if_neg c1,if_neg c2,if_neg c3,if_neg c4,if_pos c]
  rw [em]
  have rr:=d.rs (i:=2) rfl
  have r8:a_ base 56 4 (bM base (f+1)) (iS h.length _) _ _ _:=rr.mono λb hb=>⟨(d.Ab (i:=2) rfl rfl b hb).resolve_left λh=>h,d.fK (i:=2) rfl b hb⟩
  refine W.ret (.ok d.kb ⟨by decide,by simp [maxLen];omega,_,by rw [ln],r8⟩)
 refine W.ite (λc=>?_) (λc6=>?_)
 ·((with_reducible repeat first|refine W.a1 d ?_|refine W.a8 ?_))
  refine W.o4 (d.rs (i:=0) rfl) eN λkb nb sb ab lb eB tB rB hs1 A1=>?_
  have En:=hB _ (aQ eN)
  rw [eB] at En
  obtain ⟨uf,h6,e6,t6,k6⟩:=dh (base:=base) (f+1) h3 S1 _ _ tB.vq En d.ge (d.fK (i:=0) rfl)
  obtain ⟨k',n',s',a',m',rfl⟩:=t6.form
  obtain ⟨rfl,rfl,rfl,rfl⟩:=t6.eq
  have d:=d.fb (bM.kp _ _) k6 t6
  refine W.bs e6 ?_
  ((try simp only [n1,n2,n3,n4,n5,n6] at d);(with_reducible repeat first|refine W.a1 d ?_|refine W.a2 ?_|refine W.a6 d ?_|refine W.a8 ?_))
  obtain ⟨ad,kc,nc,sc,ac,mc,CC,rfl,hbk,g0,g1,g2,g3,hmC,hCC⟩:=(d.rs (i:=0) rfl).FY nI
  obtain ⟨lc,eC,rfl,nJ,G9,rC⟩:=hmC.parts
  have F0:=hB _ (aQ nI)
  rw [eC] at F0
  have zG:ad.block<h.length:=by
   obtain ⟨vs,T,w1,w2,w3,_⟩:=hr
   exact hS _ (s1 _ (w3 _ ⟨ad,rfl,rfl⟩).1)
  refine W.bs rfl (W.gt (hO k6 (by omega) (λh=>h)) (W.bS g3 ?_))
  have n6:=k6.1
  obtain ⟨a7',h7,e7,r7,k7⟩:=fO (base:=base) F0.2.1 F0.2.2 (rC.mono hCC).Ql d.ge (d.fK (i:=0) rfl)
  have n7:=k7.1
  have d:=d.call k7 _ _ r7 (Yx (bM.kp _ _)) (λb hb=>hb)
  refine W.bs e7 ?_
  ((try simp only [n1,n2,n3,n4,n5,n6] at d);(with_reducible repeat refine W.a2 ?_))
  refine W.gt (ma (n:=h7.length) (by omega)) ?_
  ((with_reducible repeat refine W.a7 ?_);(refine W.nD d λh8 d _ kh8=>?_))
  have d:=d.Hg .here
  have t2:bM base (f+1) (iS h3.length h6.length) h8 _ _:=d.rs (i:=2) rfl
  have t4:bQ base 56 h8 (ap h7.length) _:=d.rs (i:=4) rfl
  have one:=a_.one (w:=4) t2 (λhb=>by omega) rfl t4
  have d:=d.oT (bM.kp _ _) (fz.at (i:=2) rfl) (fz.at (i:=4) rfl) rfl rfl (KB.refl bp _) one (λ_ h=>h.elim) (λb hb=>hb.elim (λh=>.inr (.inl h)) .inl)
  have t3:a_ base 56 4 (bM base f) _ h8 _ _:=d.rs (i:=3) rfl
  obtain ⟨Dc,T2,er,ev,_,Vc,_,ch2⟩:=a_.Nu (w:=4) (λS h x cs y=>by obtain ⟨_,_,_,_,_,rfl⟩:=bM.form y;rfl) (by decide) t3
  have aex:a_ base 56 4 (bM base (f+1)) _ h8 _ _:=d.rs (i:=4) rfl
  obtain ⟨a9,h9,e9,r9,k9⟩:=aex.ael (bM.kp _ _) (bytes:=56) er ev (ch2.imp λ_ _ _ _=>bM.le (by omega)) (by decide) (λb hb cy=>by have:=Vc b hb;omega) (λb hb=>d.fK (i:=3) rfl b (Vc b hb)) (λb hb=>d.fK (i:=4) rfl b hb) d.ge (by have:=F0.2.1;simp;omega) (by have:=F0.2.1;simp;omega)
  have n9:=k9.1
  have d:=d.oT (bM.kp _ _) (fz.at (i:=3) rfl) (fz.at (i:=4) rfl) rfl rfl k9 r9 (λb hb=>.inl (by obtain ⟨vs,T,_,_,w3,_⟩:=aex;exact (w3 b hb).1)) (λb hb=>by
   rcases hb with hb|hb|hb
   ·exact .inl hb
   ·exact .inr (.inl (Vc b hb))
   ·exact .inr (.inr hb))
  refine W.bs e9 ?_
  ((try simp only [n1,n2,n3,n4,n5,n6] at d);(with_reducible repeat first|refine W.a1 d ?_|refine W.a2 ?_|refine W.bo ?_|refine W.a8 ?_))
  obtain ⟨qW,kc2,nc2,sc2,ac2,mc2,CC2,fT,alF,g02,_,_,_,aey,alG⟩:=(d.rs (i:=0) rfl).FY nI
  injection fT with fT
  subst fT
  rw [eC] at aey
  obtain ⟨rfl,rfl,rfl,rfl⟩:=aey.eq
  refine W.bI g02 ?_
  ((with_reducible repeat refine W.a5 d λhw d lw kw=>?_))
  refine W.gt (hO kw (by omega) (by show ¬(ad.block=h2.length);omega)) ?_
  ((try simp only [n1,n2,n3,n4,n5,n6] at d);(with_reducible repeat first|refine W.a1 d ?_|refine W.a6 d ?_))
  have em:cu x A.aH A.pid next=(if (kc==(5:Int))=true then some (.mk 5 0 ⟨#[]⟩ (rg A.aH x.b :: lc)) else none):=by
   unfold cu
   rw [if_neg c1,if_neg c2,if_neg c3,if_neg c4,if_neg c5,if_pos c,jX c0 nI,eC]
   rfl
  rw [em,jX b0 eN,eB]
  have rr:=d.rs (i:=4) rfl
  have ql:a_ base 56 4 (bM base (f+1)) (iS h.length _) _ _ _:=rr.mono λb hb=>⟨(d.Ab (i:=4) rfl rfl b hb).resolve_left λh=>h,d.fK (i:=4) rfl b hb⟩
  have hlc:=F0.2.1
  have hg:bM base (f+2) (iS h.length _) _ (.mk 5 0 ⟨#[]⟩ (.mk kb nb sb lb :: lc)) (ah 5 0 ⟨#[]⟩ a9 (1+lc.length)):=⟨by decide,by simp [maxLen];omega,a9,by simp;omega,ql⟩
  by_cases c9:(kc==(5:Int))=true
  ·rw [if_pos c9,c9]
   exact W.ret (.ok d.kb hg)
  ·have c9':(kc==(5:Int))=false:=by simpa using c9
   rw [if_neg c9,c9']
   exact W.ret (.no d.kb)
 refine W.ite (λc=>?_) (λc7'=>?_)
 ·((with_reducible repeat refine W.a1 d ?_))
  obtain ⟨h4,e4,k4⟩:=ye (base:=base) (v:=A.pid) d.ge
  have d:=d.kN k4
  refine W.bs e4 ?_
  ((with_reducible repeat first|refine W.a1 d ?_|refine W.a2 ?_|refine W.a5 d λhw d lw kw=>?_))
  have e15:=beq_iff_eq.1 c
  have em:cu x A.aH A.pid next=some (.mk 3 A.pid ⟨#[]⟩ []):=by unfold cu;simp [e15]
  rw [em]
  exact W.ret (.ok d.kb (yf (by decide)))
 refine W.ite (λc=>?_) (λc8=>?_)
 ·obtain ⟨h4,e4,k4⟩:=ye (base:=base) (v:=next) d.ge
  have d:=d.kN k4
  refine W.bs e4 ?_
  ((with_reducible repeat first|refine W.a1 d ?_|refine W.a2 ?_|refine W.a5 d λhw d lw kw=>?_))
  have e16:=beq_iff_eq.1 c
  have em:cu x A.aH A.pid next=some (.mk 3 next ⟨#[]⟩ []):=by unfold cu;simp [e16]
  rw [em]
  exact W.ret (.ok d.kb (yf (by decide)))
 ·((with_reducible repeat refine W.a1 d ?_))
  have O5:x.op=6\/x.op=7\/x.op=8\/x.op=9:=by
   simp at c1 c2 c3 c4 c5 c6 c7' c8
   unfold fH at hm
   have iO:x.op≠10:=λe=>by rw [e] at hm;exact absurd hm (by decide)
   have jc:x.op≠11:=λe=>by rw [e] at hm;exact absurd hm (by decide)
   have lZ:x.op≠12:=λe=>by rw [e] at hm;exact absurd hm (by decide)
   have nK:x.op≠13:=λe=>by rw [e] at hm;exact absurd hm (by decide)
   have tc:x.op≠17:=λe=>by rw [e] at hm;exact absurd hm (by decide)
   have ku:x.op≠18:=λe=>by rw [e] at hm;exact absurd hm (by decide)
   have h19:x.op≠19:=λe=>by rw [e] at hm;exact absurd hm (by decide)
   omega
  refine W.wb (F4 (next:=next) (d.rs (i:=1) rfl) hn j6 HQ O5 hB (d.fK (i:=1) rfl) d.ge) ?_
  rintro ⟨u,h5⟩ ⟨k,n,s,a',m,bo,rfl,k5,q5⟩
  generalize cu x A.aH A.pid next=o at q5
  cases o with
  | none=>
   have d:=d.kN k5
   have q5:bo=false:=q5
   subst q5
   ((try simp only [n1,n2,n3,n4,n5,n6] at d);(with_reducible repeat first|refine W.a1 d ?_|refine W.a2 ?_|refine W.a3 ?_|refine W.a5 d λhw d lw kw=>?_))
   exact W.ret (.no d.kb)
  | some t=>
   obtain ⟨rfl,t5⟩:=q5
   have d:=d.fb (bM.kp _ _) k5 t5
   ((try simp only [n1,n2,n3,n4,n5,n6] at d);(with_reducible repeat first|refine W.a1 d ?_|refine W.a2 ?_|refine W.a3 ?_|refine W.a5 d λhw d lw kw=>?_))
   exact W.ret ⟨k,n,s,a',m,true,rfl,d.kb,rfl,d.out (bM.mo _ _) (i:=2) rfl⟩
theorem W.il{γ:Type}{Q:β->Prop}{k:γ->Option β}{q:γ}(w:Wp (k q) Q):Wp (some (Sum.inl q:Sum γ β)) (Sum.elim (λq=>Wp (k q) Q) Q):=W.inl w
theorem W.i6{Q:β->Prop}{l:List In}(hc:Sl h c (cV l))(hi:i<l.length){f:Int->Int->Int->Int->Int->ByteArray->Option β}(w:Wp (f l[i].op l[i].a l[i].b l[i].c l[i].n l[i].s) Q):
  Wp (c.bind λad=>((Am.cell h ad.block (ad.off+i*6)).bind (au .i64)).bind λn1=>((Am.cell h ad.block (ad.off+i*6+1)).bind (au .i64)).bind λn2=>((Am.cell h ad.block (ad.off+i*6+1+1)).bind (au .i64)).bind λn3=>((Am.cell h ad.block (ad.off+i*6+1+1+1)).bind (au .i64)).bind λn4=>((Am.cell h ad.block (ad.off+i*6+1+1+1+1)).bind (au .i64)).bind λn5=>((Am.cell h ad.block (ad.off+i*6+1+1+1+1+1)).bind aK).bind λs6=>f n1 n2 n3 n4 n5 s6) Q:=by
 obtain ⟨cd,rfl,w0,w1,w2,w3,w4,w5⟩:=In.get hc hi
 exact W.bs rfl (W.bI w0 (W.bI w1 (W.bI w2 (W.bI w3 (W.bI w4 (W.bT w5 w))))))
theorem b_.gY(x:b_ base f S h A cs):∃ a b g,cs=de A.pid A.pc a A.aH.length b A.box.length g A.aw.length:=by
 obtain ⟨a,b,g,S1,S2,S3,e,_⟩:=x
 exact ⟨a,b,g,e⟩
theorem gC.of{h0:AH}{S1 T:Fp}{AA:AH->Prop}{kd pc:Int}{t:Tm}(d:Hs base bp h0 h D R)(e:R[i]? = some ⟨S1,true,AA⟩)(hA:b_ base F S1 h A cs)(ht:bM base F T h t (ah k n s a m))(hd:∀ b,S1 b->¬T b)(hT:∀ b,T b->h0.length<=b/\b<h.length):gC base F h0 (A,⟨kd,pid,pc,t⟩) (.tuple #[.agg cs.toArray,.agg (i_ kd pid pc k n s a m).toArray],h):=
 ⟨cs,k,n,s,a,m,S1,T,rfl,hA,ht,hd,λb hb=>⟨(d.Ab e rfl b hb).resolve_left λh=>h,d.fK e b hb⟩,hT,d.kb⟩
theorem oY{p c:Int}{x y z:Nat}(hb:base<=h.length):∃ h',run (Et base) 88 [.agg (de p c a x b y g z).toArray] h=some (.tuple #[.agg (de p c a x b y g z).toArray,.agg (i_ 7 0 0 2 0 QC none 0).toArray],h')/\KB bp h h':=by
 refine Wp.run (P:=λh'=>KB bp h h') ?_
 refine W.of (λr hx=>Am.I_ hx) ?_
 have d:=Hs.start hb
 ((refine W.nD d λh1 d _ vQ=>?_);(refine W.nD d λh2 d _ U'=>?_);(refine W.nD d λh3 d _ Ep=>?_);(with_reducible repeat refine W.a1 d ?_))
 obtain ⟨h4,e4,k4⟩:=vR (base:=base) (s:=QC) d.ge
 have d:=d.kN k4
 refine W.bs e4 ?_
 ((with_reducible repeat first|refine W.a1 d ?_|refine W.a2 ?_|refine W.a5 d λhw d lw kw=>?_|refine W.a6 d ?_))
 exact W.ret ⟨rfl,d.kb⟩
theorem F6{l:List In}(hc:Sl h c (cV l))(OF:x_ (f+1) A)(x:b_ base (f+1) S h A cs)(hS:∀ b,S b->b<h.length)(hb:base<=h.length)(g9:jr (f+1) l A=true):
  Wp (run (Et base) 46 [.slice c l.length l.length,.agg cs.toArray,.int .i64 next] h) (gC base (f+2) h (dA (f+2) (l.getD A.pc.toNat IV) A next)):=by
 obtain ⟨rk,⟨pc0,pcl⟩,hR8,htR,QE,htB⟩:=vO g9
 have Eo:A.pc.toNat<l.length:=by omega
 have Ji:=sJ rk _ (aQ Eo)
 have jk:=(fe rk).2.2 _ (aQ Eo)
 have el:l.getD A.pc.toNat IV=l[A.pc.toNat]:=by simp [Eo]
 rw [el]
 have NL:=OF
 obtain ⟨m1,m2,m3,m4,m5⟩:=OF
 have x':=x
 obtain ⟨a,b,g,S1,S2,S3,rfl,hr,_,_,_,s1,_⟩:=x
 have d:=((Hs.start hb).IJ S _ x' (λU h h' k hs x=>b_.kp _ _ _ U h h' _ _ k hs x) hS (λx hx=>nomatch hx) rfl).IJ S1 _ hr (Yx (bM.kp _ _)) (λb hb=>hS b (s1 b hb)) (λx hx=>nomatch hx) rfl
 refine W.of (λr hx=>Am.Oz hx) ?_
 ((try simp only [n1,n2,n3,n4,n5,n6] at d);(refine W.nD d λh1 d _ vQ=>?_);(refine W.nD d λh2 d _ U'=>?_);(refine W.nD d λh3 d _ Ep=>?_);(with_reducible repeat first|refine W.a1 d ?_|refine W.a8 ?_))
 refine W.i6 (hc.aj d.kb) Eo ?_
 generalize l[A.pc.toNat]=x at Ji jk
 ((refine W.nD d λh4 d _ kh4=>?_);(with_reducible repeat first|refine W.a1 d ?_|refine W.a5 d λhw d lw kw=>?_))
 obtain ⟨csO,h5,e5,AO,k5⟩:=ju (base:=base) NL (d.rs (i:=0) rfl).Qp d.ge (d.fK (i:=0) rfl)
 obtain ⟨a3,b3,g3,rfl⟩:=AO.gY
 have d:=d.fb (b_.kp _ _) k5 AO
 refine W.bs e5 ?_
 have ak6:=Ji
 obtain ⟨⟨a0,a7⟩,⟨b0,b7⟩,⟨c0,c7⟩,hx4,hx6,Yp,Yq⟩:=ak6
 have Zw:x.a.toNat<A.aH.length:=by omega
 ((try simp only [n1,n2,n3,n4,n5,n6] at d);(with_reducible repeat refine W.a2 ?_);(refine W.nD d λh6 d _ kh6=>?_);(with_reducible repeat first|refine W.a1 d ?_|refine W.a5 d λhw d lw kw=>?_);(refine W.nD d λh7 d _ Zx=>?_);(with_reducible repeat first|refine W.a1 d ?_|refine W.a5 d λhw d lw kw=>?_|refine W.a8 ?_))
 refine W.o4 (d.rs (i:=1) rfl) Zw λka na sa aa la eA tA rA hsa hla=>?_
 have hBa:=m4 _ (aQ Zw)
 rw [eA] at hBa
 have Vd:=jX (R:=A.aH) a0 Zw
 rw [eA] at Vd
 obtain ⟨csR,h8,e8,t8,k8⟩:=dh (base:=base) (f+1) _ S1 _ _ tA.vq hBa d.ge (d.fK (i:=1) rfl)
 obtain ⟨k',n',s',ar,m',rfl⟩:=t8.form
 obtain ⟨rfl,rfl,rfl,rfl⟩:=t8.eq
 have d:=d.fb (bM.kp _ _) k8 t8
 have n8:=k8.1
 refine W.bs e8 ?_
 ((try simp only [n1,n2,n3,n4,n5,n6] at d);(with_reducible repeat refine W.a2 ?_);(refine W.nD d λh9 d _ kh9=>?_);(with_reducible repeat first|refine W.a1 d ?_|refine W.a5 d λhw d lw kw=>?_))
 refine W.ite (λc=>?_) (λZq=>?_)
 ·have Qq:=beq_iff_eq.1 c
  have aez:x.b<=7:=b7.resolve_left (by omega)
  have eN:x.b.toNat<A.aH.length:=by omega
  have es:dA (f+2) x A next=(⟨A.pid,if (!jf (f+2) (rg A.aH x.a) (rg A.aH x.b))=true then x.n else ag .i64 (A.pc+1),A.aH,A.box,A.aw⟩,⟨1,0,0,tk⟩):=by
   unfold dA gX cC fH eM
   simp [Qq]
  rw [es,Vd,jX b0 eN]
  refine W.join ?_
  ((try simp only [n1,n2,n3,n4,n5,n6] at d);(with_reducible repeat first|refine W.a1 d ?_|refine W.a8 ?_))
  refine W.o4 (d.rs (i:=1) rfl) eN λkb nb sb ab lb eB tB rB hsb U1=>?_
  rw [eB]
  have t3:bM base (f+1) _ _ _ _:=d.rs (i:=3) rfl
  obtain ⟨iO,zD,uh⟩:=rl (base:=base) (f+2) (f+1) _ _ _ _ _ _ _ (t3.vq.le (by omega)) tB.vq d.ge
  have d:=d.kN uh
  refine W.bs zD ?_
  ((with_reducible repeat refine W.a2 ?_))
  refine W.ite (λe=>?_) (λe=>?_)
  ·rw [if_pos e]
   ((with_reducible repeat first|refine W.a1 d ?_|refine W.a5 d λhw d lw kw=>?_))
   refine W.il ?_
   ((try simp only [n1,n2,n3,n4,n5,n6] at d);(with_reducible repeat first|refine W.a1 d ?_|refine W.a2 ?_|refine W.a5 d λhw d lw kw=>?_|refine W.a6 d ?_))
   have hA:b_ base (f+1) _ _ A _:=d.rs (i:=2) rfl
   exact W.ret (gC.of d (i:=2) rfl ((hA.nG x.n).le (by omega)) (T:=λ_=>False) mf (λ_ _ h=>h) (λ_ h=>h.elim))
  ·rw [if_neg e]
   refine W.il ?_
   ((with_reducible repeat first|refine W.a1 d ?_|refine W.a2 ?_|refine W.a5 d λhw d lw kw=>?_|refine W.a6 d ?_))
   have hA:b_ base (f+1) _ _ A _:=d.rs (i:=2) rfl
   exact W.ret (gC.of d (i:=2) rfl ((hA.nG (ag .i64 (A.pc+1))).le (by omega)) (T:=λ_=>False) mf (λ_ _ h=>h) (λ_ h=>h.elim))
 refine W.ite (λc=>?_) (λc11=>?_)
 ·have zD:=beq_iff_eq.1 c
  have es:dA (f+2) x A next=(⟨A.pid,if (ka != x.b)=true then x.n else ag .i64 (A.pc+1),A.aH,A.box,A.aw⟩,⟨1,0,0,tk⟩):=by
   unfold dA gX cC fH eM
   rw [Vd]
   simp [zD,Tm.kd]
  rw [es]
  refine W.join ?_
  ((try simp only [n1,n2,n3,n4,n5,n6] at d);(with_reducible repeat refine W.a1 d ?_))
  refine W.ite (λe=>?_) (λe=>?_)
  ·rw [if_pos e]
   ((with_reducible repeat first|refine W.a1 d ?_|refine W.a5 d λhw d lw kw=>?_))
   refine W.il ?_
   ((try simp only [n1,n2,n3,n4,n5,n6] at d);(with_reducible repeat first|refine W.a1 d ?_|refine W.a2 ?_|refine W.a5 d λhw d lw kw=>?_|refine W.a6 d ?_))
   have hA:b_ base (f+1) _ _ A _:=d.rs (i:=2) rfl
   exact W.ret (gC.of d (i:=2) rfl ((hA.nG x.n).le (by omega)) (T:=λ_=>False) mf (λ_ _ h=>h) (λ_ h=>h.elim))
  ·rw [if_neg e]
   refine W.il ?_
   ((with_reducible repeat first|refine W.a1 d ?_|refine W.a2 ?_|refine W.a5 d λhw d lw kw=>?_|refine W.a6 d ?_))
   have hA:b_ base (f+1) _ _ A _:=d.rs (i:=2) rfl
   exact W.ret (gC.of d (i:=2) rfl ((hA.nG (ag .i64 (A.pc+1))).le (by omega)) (T:=λ_=>False) mf (λ_ _ h=>h) (λ_ h=>h.elim))
 refine W.ite (λc=>?_) (λc12=>?_)
 ·have Nm:=beq_iff_eq.1 c
  have es:dA (f+2) x A next=(⟨A.pid,x.n,A.aH,A.box,A.aw⟩,⟨1,0,0,tk⟩):=by
   unfold dA gX cC fH eM
   simp [Nm]
  rw [es]
  ((try simp only [n1,n2,n3,n4,n5,n6] at d);(with_reducible repeat first|refine W.a1 d ?_|refine W.a5 d λhw d lw kw=>?_|refine W.a6 d ?_))
  have hA:b_ base (f+1) _ _ A _:=d.rs (i:=2) rfl
  exact W.ret (gC.of d (i:=2) rfl ((hA.nG x.n).le (by omega)) (T:=λ_=>False) mf (λ_ _ h=>h) (λ_ h=>h.elim))
 apply W.jb (decide (x.op=13\/x.op=18)) d
 ·refine W.ite (λc=>?_) (λc=>?_)
  ·exact W.lb rfl (by rw [c];have:=beq_iff_eq.1 c;simp [this]) (KB.refl _ _)
  ·have c':x.op≠13:=by simpa using c
   exact W.lb rfl (by congr 3;simp [c'];rfl) (KB.refl _ _)
 intro iO d fl
 ((try simp only [n1,n2,n3,n4,n5,n6] at d);(with_reducible repeat refine W.a2 ?_))
 refine W.ite (λc=>?_) (λc=>?_)
 ·have c':=of_decide_eq_true c
  ((with_reducible repeat refine W.a1 d ?_))
  refine W.ite (λe=>?_) (λe=>?_)
  ·have es:dA (f+2) x A next=(A,vN):=by
    unfold dA cC
    rw [Vd]
    have e':¬ka=3:=by simpa using e
    rcases c' with c'|c'<;>simp [c',Tm.kd,e']
   rw [es]
   ((with_reducible repeat refine W.a1 d ?_))
   obtain ⟨csF,jc,zD,AF,mz⟩:=ju (base:=base) NL (d.rs (i:=0) rfl).Qp d.ge (d.fK (i:=0) rfl)
   obtain ⟨a4,b4,g4,rfl⟩:=AF.gY
   have d:=d.fb (b_.kp _ _) mz AF
   refine W.bs zD ?_
   ((try simp only [n1,n2,n3,n4,n5,n6] at d);(with_reducible repeat refine W.a2 ?_))
   obtain ⟨lZ,Nm,zO⟩:=oY (base:=base) (p:=A.pid) (c:=A.pc) (a:=a4) (b:=b4) (g:=g4) (x:=A.aH.length) (y:=A.box.length) (z:=A.aw.length) d.ge
   have d:=d.kN zO
   refine W.bs Nm ?_
   ((with_reducible repeat first|refine W.a1 d ?_|refine W.a2 ?_|refine W.a3 ?_|refine W.a5 d λhw d lw kw=>?_))
   have hA:b_ base (f+1) _ _ A _:=d.rs (i:=4) rfl
   exact W.ret (gC.of d (i:=4) rfl (hA.le (by omega)) (T:=λ_=>False) (Hr (by decide)) (λ_ _ h=>h) (λ_ h=>h.elim))
  ·have hka:ka=3:=by simpa using e
   ((with_reducible repeat refine W.a1 d ?_))
   refine W.ite (λc18=>?_) (λc18=>?_)
   ·have e18:=beq_iff_eq.1 c18
    have es:dA (f+2) x A next=(⟨A.pid,ag .i64 (A.pc+1),A.aH,A.box,A.aw⟩,⟨6,na,0,tk⟩):=by
     unfold dA gX cC fH eM
     rw [Vd]
     simp [e18,Tm.kd,Tm.nm,hka]
    rw [es]
    ((with_reducible repeat first|refine W.a1 d ?_|refine W.a5 d λhw d lw kw=>?_|refine W.a6 d ?_))
    have hA:b_ base (f+1) _ _ A _:=d.rs (i:=2) rfl
    exact W.ret (gC.of d (i:=2) rfl ((hA.nG (ag .i64 (A.pc+1))).le (by omega)) (T:=λ_=>False) mf (λ_ _ h=>h) (λ_ h=>h.elim))
   ·have X4:x.op=13:=c'.resolve_right λh=>c18 (by simp [h])
    have aez:x.b<=7:=b7.resolve_left (by omega)
    have eN:x.b.toNat<A.aH.length:=by omega
    ((with_reducible repeat first|refine W.a1 d ?_|refine W.a8 ?_))
    refine W.o4 (d.rs (i:=1) rfl) eN λkb nb sb ab lb eB tB rB hsb U1=>?_
    have En:=m4 _ (aQ eN)
    rw [eB] at En
    have Em:=jX (R:=A.aH) b0 eN
    rw [eB] at Em
    have es:dA (f+2) x A next=(⟨A.pid,ag .i64 (A.pc+1),A.aH,A.box,A.aw⟩,⟨3,na,0,.mk kb nb sb lb⟩):=by
     unfold dA gX cC fH eM
     rw [Vd,Em]
     simp [X4,Tm.kd,Tm.nm,hka]
    rw [es]
    obtain ⟨csB,jc,zD,t11,mz⟩:=dh (base:=base) (f+1) _ S1 _ _ tB.vq En d.ge (d.fK (i:=1) rfl)
    obtain ⟨k',n',s',a',m',rfl⟩:=t11.form
    obtain ⟨rfl,rfl,rfl,rfl⟩:=t11.eq
    have eV:=mz.1
    have d:=d.fb (bM.kp _ _) mz t11
    refine W.bs zD ?_
    ((try simp only [n1,n2,n3,n4,n5,n6] at d);(with_reducible repeat first|refine W.a1 d ?_|refine W.a2 ?_|refine W.a5 d λhw d lw kw=>?_|refine W.a6 d ?_))
    have hA:b_ base (f+1) _ _ A _:=d.rs (i:=2) rfl
    have hT:bM base (f+1) _ _ _ _:=d.rs (i:=4) rfl
    exact W.ret (gC.of d (i:=2) rfl ((hA.nG (ag .i64 (A.pc+1))).le (by omega)) (hT.le (by omega)) (λb h1 h2=>by omega) (λb hb=>⟨(d.Ab (i:=4) rfl rfl b hb).resolve_left λh=>h,d.fK (i:=4) rfl b hb⟩))
 have c':¬(x.op=13\/x.op=18):=by simpa using c
 simp only [beq_iff_eq] at Zq c11 c12
 refine W.ite (λc=>?_) (λc17=>?_)
 ·have e17:=beq_iff_eq.1 c
  have es:dA (f+2) x A next=(⟨A.pid,ag .i64 (A.pc+1),A.aH,A.box,A.aw⟩,⟨5,0,0,.mk ka na sa la⟩):=by
   unfold dA gX cC fH eM
   rw [Vd]
   simp [e17]
  rw [es]
  ((with_reducible repeat first|refine W.a1 d ?_|refine W.a5 d λhw d lw kw=>?_|refine W.a6 d ?_))
  have hA:b_ base (f+1) _ _ A _:=d.rs (i:=2) rfl
  have hT:bM base (f+1) _ _ _ _:=d.rs (i:=3) rfl
  exact W.ret (gC.of d (i:=2) rfl ((hA.nG (ag .i64 (A.pc+1))).le (by omega)) (hT.le (by omega)) (λb h1 h2=>by omega) (λb hb=>⟨(d.Ab (i:=3) rfl rfl b hb).resolve_left λh=>h,d.fK (i:=3) rfl b hb⟩))
 refine W.ite (λc=>?_) (λOH=>?_)
 ·have e19:=beq_iff_eq.1 c
  have es:dA (f+2) x A next=(A,⟨7,0,0,.mk ka na sa la⟩):=by
   unfold dA gX cC fH eM
   rw [Vd]
   simp [e19]
  rw [es]
  ((with_reducible repeat first|refine W.a1 d ?_|refine W.a5 d λhw d lw kw=>?_|refine W.a6 d ?_))
  have hA:b_ base (f+1) _ _ A _:=d.rs (i:=2) rfl
  have hT:bM base (f+1) _ _ _ _:=d.rs (i:=3) rfl
  exact W.ret (gC.of d (i:=2) rfl (hA.le (by omega)) (hT.le (by omega)) (λb h1 h2=>by omega) (λb hb=>⟨(d.Ab (i:=3) rfl rfl b hb).resolve_left λh=>h,d.fK (i:=3) rfl b hb⟩))
 simp only [beq_iff_eq] at c17 OH
 refine W.ite (λc=>?_) (λVe=>?_)
 ·have Vf:=beq_iff_eq.1 c
  ((with_reducible repeat refine W.a1 d ?_))
  refine W.ite (λe=>?_) (λe=>?_)
  ·have es:dA (f+2) x A next=(A,⟨2,0,0,tk⟩):=by
    unfold dA cC
    simp at e
    simp [Vf,e]
   rw [es]
   ((with_reducible repeat refine W.a1 d ?_))
   obtain ⟨csF,jc,zD,AF,mz⟩:=ju (base:=base) NL (d.rs (i:=0) rfl).Qp d.ge (d.fK (i:=0) rfl)
   obtain ⟨a4,b4,g4,rfl⟩:=AF.gY
   have d:=d.fb (b_.kp _ _) mz AF
   refine W.bs zD ?_
   ((try simp only [n1,n2,n3,n4,n5,n6] at d);(with_reducible repeat first|refine W.a1 d ?_|refine W.a2 ?_|refine W.a5 d λhw d lw kw=>?_))
   have hA:b_ base (f+1) _ _ A _:=d.rs (i:=4) rfl
   exact W.ret (gC.of d (i:=4) rfl (hA.le (by omega)) (T:=λ_=>False) mf (λ_ _ h=>h) (λ_ h=>h.elim))
  ·have eN:A.box.length≠0:=by simpa using e
   obtain ⟨t0,B0,eB⟩:∃ t0 B0,A.box=t0 :: B0:=by
    cases QE:A.box with
    | nil=>rw [QE] at eN;exact absurd rfl eN
    | cons t0 B0=>exact ⟨t0,B0,rfl⟩
   have es:dA (f+2) x A next=(⟨A.pid,ag .i64 (A.pc+1),A.aH.set x.a.toNat t0,B0,A.aw⟩,⟨1,0,0,tk⟩):=by
    unfold dA gX cC fH eM
    simp [Vf,eB]
    omega
   rw [es]
   have hA:b_ base (f+1) _ _ A _:=d.rs (i:=2) rfl
   obtain ⟨aa,bb,gg,k',n',s',a',m',jc,bV,g0,g1,g2,g3,w11,Vx,A11,mz,fw⟩:=hA.take Zw eB
   injection bV with c1 bV
   injection bV with c2 bV
   injection bV with c3 bV
   injection bV with c4 bV
   injection bV with c5 _
   injection c3 with c3 _ _;injection c4 with c4 _ _;injection c5 with c5 _ _
   subst c3;subst c4;subst c5
   ((with_reducible repeat first|refine W.a1 d ?_|refine W.bo ?_|refine W.a8 ?_))
   refine W.bI g0 (W.bI g1 (W.bT g2 (W.bS g3 ?_)))
   ((with_reducible repeat first|refine W.bo ?_|refine W.a8 ?_))
   have d:=d.aek (b_.kp _ _) (fz.at (i:=2) rfl) rfl mz A11 (λb hb=>.inl hb) (λb hb=>.inl hb)
   refine W.bs w11 ?_
   ((try simp only [n1,n2,n3,n4,n5,n6] at d);(with_reducible repeat refine W.a1 d ?_))
   refine W.aE ⟨by decide,by show (1:Int)<=(A.box.length:Int);omega,gb _,Vx _⟩ ?_
   ((with_reducible repeat first|refine W.a1 d ?_|refine W.a5 d λhw d lw kw=>?_|refine W.a6 d ?_))
   have zD:af (A.box.length:Int)-1=B0.length:=by rw [eB];simp
   have hA2:b_ base (f+1) _ _ _ _:=d.rs (i:=2) rfl
   rw [show af (A.box.length:Int)-af 1=B0.length from zD]
   exact W.ret (gC.of d (i:=2) rfl ((hA2.nG (ag .i64 (A.pc+1))).le (by omega)) (T:=λ_=>False) mf (λ_ _ h=>h) (λ_ h=>h.elim))
 simp only [beq_iff_eq] at Ve
 have J6:fH x.op=true:=by
  unfold fH
  simp [Zq,c11,c12,c17,OH]
  omega
 ((with_reducible repeat refine W.a1 d ?_))
 refine W.wb (F5 (f:=f) (next:=next) (d.rs (i:=0) rfl) hR8 Ji J6 Ve (by omega) m4 (d.fK (i:=0) rfl) d.ge) ?_
 rintro ⟨u,jc⟩ ⟨km,nm,sm,am,mm,bo,rfl,mz,qw⟩
 have qB:dA (f+2) x A next=match (match cu x A.aH A.pid next with|none=>none|some t=>if jo (f+2) t=true then some (A.aH.set x.a.toNat t,A.box) else none) with|none=>(A,vN)|some (R,B)=>(⟨A.pid,ag .i64 (A.pc+1),R,B,A.aw⟩,(cC x A.aH next).1):=by
  have nK:x.op≠13:=λh=>c' (.inl h)
  have ku:x.op≠18:=λh=>c' (.inr h)
  have ha2:(cC x A.aH next).2=true:=by unfold cC;simp [nK,ku,c17,OH];split<;>rfl
  have hj:eM (f+2) x A.aH=false:=by unfold eM;simp [Zq,c11,c12]
  unfold dA gX
  (simp [ha2,OH,Ve,J6,hj])<;>rfl
 rw [qB]
 cases Yv:cu x A.aH A.pid next with
 | none=>
  rw [Yv] at qw
  have qw:bo=false:=qw
  subst qw
  have d:=d.kN mz
  ((try simp only [n1,n2,n3,n4,n5,n6] at d);(with_reducible repeat first|refine W.a2 ?_|refine W.a3 ?_);(refine W.nD d λlZ d _ ak7=>?_);(with_reducible repeat refine W.a5 d λhw d lw kw=>?_))
  apply W.jb true d
  ·exact W.aE rfl (W.lb rfl rfl (KB.refl _ _))
  intro nK d jz
  ((try simp only [n1,n2,n3,n4,n5,n6] at d);(with_reducible repeat refine W.a2 ?_))
  refine W.aE rfl ?_
  ((with_reducible repeat refine W.a1 d ?_))
  obtain ⟨csF,A5,Vf,AF,IW⟩:=ju (base:=base) NL (d.rs (i:=0) rfl).Qp d.ge (d.fK (i:=0) rfl)
  obtain ⟨a4,b4,g4,rfl⟩:=AF.gY
  have d:=d.fb (b_.kp _ _) IW AF
  refine W.bs Vf ?_
  ((try simp only [n1,n2,n3,n4,n5,n6] at d);(with_reducible repeat refine W.a2 ?_))
  obtain ⟨px,e15,OI⟩:=oY (base:=base) (p:=A.pid) (c:=A.pc) (a:=a4) (b:=b4) (g:=g4) (x:=A.aH.length) (y:=A.box.length) (z:=A.aw.length) d.ge
  have d:=d.kN OI
  refine W.bs e15 ?_
  ((with_reducible repeat first|refine W.a1 d ?_|refine W.a2 ?_|refine W.a3 ?_|refine W.a5 d λhw d lw kw=>?_))
  have hA:b_ base (f+1) _ _ A _:=d.rs (i:=4) rfl
  exact W.ret (gC.of d (i:=4) rfl (hA.le (by omega)) (T:=λ_=>False) (Hr (by decide)) (λ_ _ h=>h) (λ_ h=>h.elim))
 | some t=>
  rw [Yv] at qw
  obtain ⟨rfl,t11⟩:=qw
  have eV:iO.length<=jc.length:=mz.1
  have d:=d.fb (bM.kp _ _) mz t11
  ((try simp only [n1,n2,n3,n4,n5,n6] at d);(with_reducible repeat first|refine W.a2 ?_|refine W.a3 ?_);(refine W.nD d λlZ d _ ak7=>?_);(with_reducible repeat refine W.a5 d λhw d lw kw=>?_))
  apply W.jb (!jo (f+2) t) d
  ·refine W.aU (by decide) ?_
   ((try simp only [n1,n2,n3,n4,n5,n6] at d);(with_reducible repeat refine W.a1 d ?_))
   have tt:bM base (f+2) _ _ t _:=d.rs (i:=4) rfl
   obtain ⟨nK,X4,Ft⟩:=iR (base:=base) tt.vq d.ge
   refine W.bs X4 ?_
   ((with_reducible repeat refine W.a2 ?_))
   exact W.lb rfl rfl Ft
  intro nK d jz
  ((try simp only [n1,n2,n3,n4,n5,n6] at d);(with_reducible repeat refine W.a2 ?_))
  refine W.ite (λe=>?_) (λe=>?_)
  ·have e':jo (f+2) t=false:=by simpa using e
   simp only [e']
   ((with_reducible repeat refine W.a1 d ?_))
   obtain ⟨csF,A5,Vf,AF,IW⟩:=ju (base:=base) NL (d.rs (i:=0) rfl).Qp d.ge (d.fK (i:=0) rfl)
   obtain ⟨a4,b4,g4,rfl⟩:=AF.gY
   have d:=d.fb (b_.kp _ _) IW AF
   refine W.bs Vf ?_
   ((try simp only [n1,n2,n3,n4,n5,n6] at d);(with_reducible repeat refine W.a2 ?_))
   obtain ⟨px,e15,OI⟩:=oY (base:=base) (p:=A.pid) (c:=A.pc) (a:=a4) (b:=b4) (g:=g4) (x:=A.aH.length) (y:=A.box.length) (z:=A.aw.length) d.ge
   have d:=d.kN OI
   refine W.bs e15 ?_
   ((with_reducible repeat first|refine W.a1 d ?_|refine W.a2 ?_|refine W.a3 ?_|refine W.a5 d λhw d lw kw=>?_))
   have hA:b_ base (f+1) _ _ A _:=d.rs (i:=5) rfl
   exact W.ret (gC.of d (i:=5) rfl (hA.le (by omega)) (T:=λ_=>False) (Hr (by decide)) (λ_ _ h=>h) (λ_ h=>h.elim))
  ·have e':jo (f+2) t=true:=by simpa using e
   simp only [e',if_true]
   refine W.join ?_
   ((with_reducible repeat refine W.a1 d ?_))
   refine W.ite (λc16=>?_) (λc16=>?_)
   ·have e16:=beq_iff_eq.1 c16
    have aez:x.b<=7:=b7.resolve_left (by omega)
    have eN:x.b.toNat<A.aH.length:=by omega
    ((with_reducible repeat first|refine W.a1 d ?_|refine W.a8 ?_))
    refine W.o4 (d.rs (i:=1) rfl) eN λkb nb sb ab lb eB tB rB hsb U1=>?_
    have En:=m4 _ (aQ eN)
    rw [eB] at En
    have Em:=jX (R:=A.aH) b0 eN
    rw [eB] at Em
    have ea:(cC x A.aH next).1=⟨4,next,x.n,.mk kb nb sb lb⟩:=by
     unfold cC
     rw [Em]
     simp [e16]
    rw [ea]
    obtain ⟨csB,A5,Vf,t14,IW⟩:=dh (base:=base) (f+1) _ S1 _ _ tB.vq En d.ge (d.fK (i:=1) rfl)
    obtain ⟨k',n',s',a',m',rfl⟩:=t14.form
    obtain ⟨rfl,rfl,rfl,rfl⟩:=t14.eq
    have mT:=IW.1
    have d:=d.fb (bM.kp _ _) IW t14
    refine W.bs Vf ?_
    ((try simp only [n1,n2,n3,n4,n5,n6] at d);(with_reducible repeat first|refine W.a2 ?_|refine W.a5 d λhw d lw kw=>?_|refine W.a6 d ?_))
    refine W.il ?_
    ((try simp only [n1,n2,n3,n4,n5,n6] at d);(with_reducible repeat first|refine W.a1 d ?_|refine W.a2 ?_|refine W.a8 ?_))
    have hA:b_ base (f+1) _ _ A _:=d.rs (i:=2) rfl
    have tt:bM base (f+2) _ _ t _:=d.rs (i:=4) rfl
    obtain ⟨aa,px,ec,w15,A15,OI,hK⟩:=(hA.le (show f+1<=f+2 by omega)).F1 Zw tt (λb h1 h2=>by omega)
    injection ec with ec
    injection ec with ec _ _
    subst ec
    ((with_reducible repeat refine W.bo ?_))
    have d:=d.kL (b_.kp _ _) (fz.at (i:=4) rfl) (fz.at (i:=2) rfl) rfl rfl OI A15 (λb hb=>.inl hb) (λb hb=>hb.elim .inl λh=>.inr (.inl h))
    refine W.bs w15 ?_
    ((try simp only [n1,n2,n3,n4,n5,n6] at d);(with_reducible repeat first|refine W.a1 d ?_|refine W.a5 d λhw d lw kw=>?_|refine W.a6 d ?_))
    have hA:b_ base (f+2) _ _ _ _:=d.rs (i:=2) rfl
    have hT:bM base (f+1) _ _ _ _:=d.rs (i:=5) rfl
    exact W.ret (gC.of d (i:=2) rfl (hA.nG (ag .i64 (A.pc+1))) (hT.le (by omega)) (λb h1 h2=>by omega) (λb hb=>⟨(d.Ab (i:=5) rfl rfl b hb).resolve_left λh=>h,d.fK (i:=5) rfl b hb⟩))
   ·refine W.il ?_
    have nK:x.op≠13:=λh=>c' (.inl h)
    have ku:x.op≠18:=λh=>c' (.inr h)
    have ak8:x.op≠16:=by simpa using c16
    have ea:(cC x A.aH next).1=⟨1,0,0,tk⟩:=by unfold cC;simp [nK,ku,c17,OH,ak8]
    rw [ea]
    ((with_reducible repeat first|refine W.a1 d ?_|refine W.a2 ?_|refine W.a8 ?_))
    have hA:b_ base (f+1) _ _ A _:=d.rs (i:=2) rfl
    have tt:bM base (f+2) _ _ t _:=d.rs (i:=4) rfl
    obtain ⟨aa,px,ec,w15,A15,OI,hK⟩:=(hA.le (show f+1<=f+2 by omega)).F1 Zw tt (λb h1 h2=>by omega)
    injection ec with ec
    injection ec with ec _ _
    subst ec
    ((with_reducible repeat refine W.bo ?_))
    have d:=d.kL (b_.kp _ _) (fz.at (i:=4) rfl) (fz.at (i:=2) rfl) rfl rfl OI A15 (λb hb=>.inl hb) (λb hb=>hb.elim .inl λh=>.inr (.inl h))
    refine W.bs w15 ?_
    ((try simp only [n1,n2,n3,n4,n5,n6] at d);(with_reducible repeat first|refine W.a1 d ?_|refine W.a5 d λhw d lw kw=>?_|refine W.a6 d ?_))
    have hA:b_ base (f+2) _ _ _ _:=d.rs (i:=2) rfl
    exact W.ret (gC.of d (i:=2) rfl (hA.nG (ag .i64 (A.pc+1))) (T:=λ_=>False) mf (λ_ _ h=>h) (λ_ h=>h.elim))
theorem im2{a c:Rs}{l:List Rs}(hc:c.mu=true)(ha:a.mu=false):∀ r∈[a,c],r.mu=false->∃ r0∈a :: l,r0.mu=false/\r0.S=r.S:=by
 intro r hr hm
 simp only [bn,kl,or_false] at hr
 rcases hr with rfl|rfl
 ·exact ⟨_,.head _,ha,rfl⟩
 ·rw [hc] at hm;cases hm
theorem W.s6{Q:β->Prop}{g:Nat}{l:List Sd}(hs:mA h p g l a)(hi:i<l.length){f:Int->Int->Int->Int->ByteArray->Option Addr×Nat->Option β}(w:∀ k n s a2 m,cD h p g l[i].t (ah k n s a2 m)->Wp (f l[i].kind l[i].pid k n s (a2,m)) Q):
  Wp (a.bind λad=>((Am.cell h ad.block (ad.off+i*6)).bind (au .i64)).bind λn1=>((Am.cell h ad.block (ad.off+i*6+1)).bind (au .i64)).bind λn2=>((Am.cell h ad.block (ad.off+i*6+1+1)).bind (au .i64)).bind λn3=>((Am.cell h ad.block (ad.off+i*6+1+1+1)).bind (au .i64)).bind λn4=>((Am.cell h ad.block (ad.off+i*6+1+1+1+1)).bind aK).bind λs5=>((Am.cell h ad.block (ad.off+i*6+1+1+1+1+1)).bind aN).bind λl6=>f n1 n2 n3 n4 s5 l6) Q:=by
 obtain ⟨ad,k,n,s,a2,m,rfl,_,g0,g1,g2,g3,g4,g5,hm⟩:=hs.get hi
 exact W.bs rfl (W.bI g0 (W.bI g1 (W.bI g2 (W.bI g3 (W.bT g4 (W.bS g5 (w k n s a2 m hm)))))))
theorem W.ra{Q:β->Prop}{g:Nat}{l:List Ac}(hs:js h p g l a)(hi:i<l.length){f:Int->Int->Option Addr×Nat->Option Addr×Nat->Option Addr×Nat->Option β}(w:∀ a b c,rH h p g l[i] (de l[i].pid l[i].pc a l[i].aH.length b l[i].box.length c l[i].aw.length)->Wp (f l[i].pid l[i].pc (a,l[i].aH.length) (b,l[i].box.length) (c,l[i].aw.length)) Q):
  Wp (a.bind λad=>((Am.cell h ad.block (ad.off+i*5)).bind (au .i64)).bind λn1=>((Am.cell h ad.block (ad.off+i*5+1)).bind (au .i64)).bind λn2=>((Am.cell h ad.block (ad.off+i*5+1+1)).bind aN).bind λl3=>((Am.cell h ad.block (ad.off+i*5+1+1+1)).bind aN).bind λl4=>((Am.cell h ad.block (ad.off+i*5+1+1+1+1)).bind aN).bind λl5=>f n1 n2 l3 l4 l5) Q:=by
 obtain ⟨ad,a,b,c,rfl,_,g0,g1,g2,g3,g4,hm,_⟩:=hs.get hi
 exact W.bs rfl (W.bI g0 (W.bI g1 (W.bS g2 (W.bS g3 (W.bS g4 (w a b c hm))))))
abbrev pE(p:Fp)(A:AH->Prop):Rs:=⟨p,false,A⟩
abbrev o0(base f:Nat)(S:Fp)(l:List Sd)(a:Option Addr):Rs:=⟨S,true,λy=>a_ base 82 6 (gz f) S y l a⟩
abbrev jg(base f:Nat)(S:Fp)(l:List Ac)(a:Option Addr):Rs:=⟨S,true,λy=>a_ base 53 5 (b_ base f) S y l a⟩
theorem Au{p:Fp}{l:List Sd}(hl:l.length<=1048576)(hB:∀ x∈l,jJ f x.t){h0:AH}:∀ (n i:Nat) (h:AH) (ao:Option Addr) (S:Fp),i+n=l.length->Hs base V h0 h [] [pE p λy=>mA y p f l a,o0 base f S (l.take i) ao] ->
  Wp (aF (GV base) [some (.slice ao i i),some (.slice a l.length l.length),some (.int .i64 (l.length:Int)),some (.int .i64 (i:Int))] h) λo=>∃ a' S',o.1=2/\o.2.1 = [some (.slice a' l.length l.length)]/\Hs base V h0 o.2.2 [] [pE p λy=>mA y p f l a,o0 base f S' l a']:=by
 intro n
 induction n with
 | zero=>
  intro i h ao S hi d
  have lL:i=l.length:=by omega
  subst lL
  rw [cG (aT _)] at d
  refine ⟨_,aC (by decide) (s':=[some (.slice ao l.length l.length)]) (h':=h) (e:=2) ?_,ao,S,rfl,rfl,d⟩
  rw [CK]
  exact Am.aU (by simp) rfl
 | succ n ih=>
  intro i h ao S hi d
  have aS:i<l.length:=by omega
  suffices w:Wp (GV base [some (.slice ao i i),some (.slice a l.length l.length),some (.int .i64 (l.length:Int)),some (.int .i64 (i:Int))] h) λo=>∃ a' S',o.1=0/\o.2.1 = [some (.slice a' (i+1) (i+1)),some (.slice a l.length l.length),some (.int .i64 (l.length:Int)),some (.int .i64 ((i+1:Nat):Int))]/\Hs base V h0 o.2.2 [] [pE p λy=>mA y p f l a,o0 base f S' (l.take (i+1)) a'] by
   obtain ⟨⟨o1,o2,h'⟩,e,a',S',y1,y2,d'⟩:=w
   simp only at y1 y2 d'
   subst y1;subst y2
   obtain ⟨o,eo,q⟩:=ih (i+1) h' a' S' (by omega) d'
   exact ⟨o,bl e eo,q⟩
  rw [CK]
  refine W.aE (decide_eq_true (by omega)) (W.aE ⟨by omega,by omega⟩ ?_)
  rw [aM]
  refine W.s6 (d.rs (i:=0) rfl) aS λk n s a2 m hm=>?_
  have d:=d.Nt (i:=0) rfl rfl _ hm (λU y y' k hs x=>cD.ax k hs _ _ _ x)
  ((try simp only [n1,n2,n3,n4,n5,n6] at d);(refine W.nD d λh1 d _ vQ=>?_);(with_reducible repeat first|refine W.a1 d ?_|refine W.a5 d λhw d lw kw=>?_))
  obtain ⟨cs,h2,e2,t2,k2⟩:=cK (base:=base) f _ p _ _ (d.rs (i:=2) rfl) (hB _ (aQ aS)) d.ge (d.fK (i:=0) rfl)
  obtain ⟨k',n',s',a',m',rfl⟩:=t2.form
  have sd:gz f (iS _ h2.length) h2 l[i] (dr l[i].kind l[i].pid k' n' s' a' m'):=⟨_,_,_,_,_,rfl,t2.d⟩
  have d:=d.fb (gz.kp _) k2 sd
  refine W.bs e2 ?_
  ((try simp only [n1,n2,n3,n4,n5,n6] at d);(with_reducible repeat first|refine W.a1 d ?_|refine W.a2 ?_|refine W.a5 d λhw d lw kw=>?_);(refine W.nD d λh3 d _ Ep=>?_))
  have kT:(l.take i).length=i:=by simp;omega
  obtain ⟨a4,h4,S4,e4,d,_,_,_⟩:=d.qn (i:=1) (j:=3) (bytes:=72) (gz.kp _) rfl rfl (by decide) (.head _) rfl (by decide) rfl (by rw [kT];omega) (by rw [kT];omega)
  rw [kT] at e4
  refine W.bs e4 ?_
  rw [<- ed aS] at d
  ((try simp only [n1,n2,n3,n4,n5,n6] at d);(with_reducible repeat refine W.a2 ?_))
  refine W.ret ⟨a4,S4,?_,?_,(d.tl.tl).kP 2⟩
  ·rfl
  ·simp only [bm (n:=(i:Int)+1) (by omega) (by omega)]
   rfl
theorem DT{p:Fp}{l:List Sd}(hl:l.length<=1048576)(hB:∀ x∈l,jJ f x.t)(hs:mA h p f l a)(hp:∀ b,p b->b<h.length)(hb:base<=h.length):
  ∃ a' h',run (Et base) 51 [.slice a l.length l.length] h=some (.slice a' l.length l.length,h')/\a_ base 82 6 (gz f) (iS h.length h'.length) h' l a'/\KB bp h h':=by
 suffices w:Wp (run (Et base) 51 [.slice a l.length l.length] h) λo=>∃ a',o.1 = .slice a' l.length l.length/\a_ base 82 6 (gz f) (iS h.length o.2.length) o.2 l a'/\KB bp h o.2 by
  obtain ⟨⟨u,h'⟩,e,a',rfl,q⟩:=w
  exact ⟨a',h',e,q⟩
 have d:=(Hs.start hb).IJ p _ hs (λU y y' k hs x=>mA.ax k hs x) hp (λx hx=>nomatch hx) rfl
 have d:=d.call (KB.refl bp _) (λ_=>False) (λy=>a_ base 82 6 (gz f) (λ_=>False) y [] none) a_.nil (λU y y' k hs x=>x.ax (gz.kp _) k hs) (λ_ h=>h.elim)
 refine W.of (λr hx=>Am.r51 hx) ?_
 refine W.wb (Au (base:=base) hl hB l.length 0 h none _ (by omega) d) ?_
 rintro ⟨o1,o2,h2⟩ ⟨a',S',y1,y2,d⟩
 simp only at y1 y2 d
 subst y1;subst y2
 refine W.aE rfl ?_
 ((with_reducible repeat refine W.a2 ?_))
 have rr:=d.rs (i:=1) rfl
 exact W.ret ⟨a',rfl,a_.mono rr λb hb=>⟨(d.Ab (i:=1) rfl rfl b hb).resolve_left λh=>h,d.fK (i:=1) rfl b hb⟩,d.kb⟩
theorem Av{p:Fp}{l:List Ac}{a0:Option Addr}(hl:l.length<=1048576)(hB:∀ A∈l,x_ f A){h0:AH}:∀ (n i:Nat) (h:AH) (ao:Option Addr) (S:Fp),i+n=l.length->Hs base V h0 h [(ob,32,dK a0 n0 ao i v g q)] [pE p λy=>js y p f l a,jg base f S (l.take i) ao] ->
  Wp (aF (GN base) [some (.pointer (ap rb)),some (.pointer (ap ob)),some (.slice a l.length l.length),some (.int .i64 (l.length:Int)),some (.int .i64 (i:Int))] h) λo=>∃ a' S',o.1=2/\o.2.1 = [some (.pointer (ap rb)),some (.pointer (ap ob))]/\Hs base V h0 o.2.2 [(ob,32,dK a0 n0 a' l.length v g q)] [pE p λy=>js y p f l a,jg base f S' l a']:=by
 intro n
 induction n with
 | zero=>
  intro i h ao S hi d
  have lL:i=l.length:=by omega
  subst lL
  rw [cG (aT _)] at d
  refine ⟨_,aC (by decide) (s':=[some (.pointer (ap rb)),some (.pointer (ap ob))]) (h':=h) (e:=2) ?_,ao,S,rfl,rfl,d⟩
  rw [Ce]
  exact Am.aU (by simp) rfl
 | succ n ih=>
  intro i h ao S hi d
  have aS:i<l.length:=by omega
  suffices w:Wp (GN base [some (.pointer (ap rb)),some (.pointer (ap ob)),some (.slice a l.length l.length),some (.int .i64 (l.length:Int)),some (.int .i64 (i:Int))] h) λo=>∃ a' S',o.1=0/\o.2.1 = [some (.pointer (ap rb)),some (.pointer (ap ob)),some (.slice a l.length l.length),some (.int .i64 (l.length:Int)),some (.int .i64 ((i+1:Nat):Int))]/\Hs base V h0 o.2.2 [(ob,32,dK a0 n0 a' (i+1) v g q)] [pE p λy=>js y p f l a,jg base f S' (l.take (i+1)) a'] by
   obtain ⟨⟨o1,o2,h'⟩,e,a',S',y1,y2,d'⟩:=w
   simp only at y1 y2 d'
   subst y1;subst y2
   obtain ⟨o,eo,q⟩:=ih (i+1) h' a' S' (by omega) d'
   exact ⟨o,bl e eo,q⟩
  rw [Ce]
  refine W.aE (decide_eq_true (by omega)) (W.aE ⟨by omega,by omega⟩ ?_)
  rw [aM]
  refine W.ra (d.rs (i:=0) rfl) aS λa1 b1 c1 hm=>?_
  have d:=d.Nt (i:=0) rfl rfl _ hm (λU y y' k hs x=>rH.ax k hs x)
  ((try simp only [n1,n2,n3,n4,n5,n6] at d);(refine W.nD d λh1 d _ vQ=>?_);(with_reducible repeat first|refine W.a1 d ?_|refine W.a5 d λhw d lw kw=>?_))
  obtain ⟨cs,h2,e2,t2,k2⟩:=pU (base:=base) (hB _ (aQ aS)) (d.rs (i:=2) rfl) d.ge (d.fK (i:=0) rfl)
  obtain ⟨a2,b2,c2,rfl⟩:=t2.gY
  have d:=d.fb (b_.kp _ _) k2 t2
  refine W.bs e2 ?_
  ((try simp only [n1,n2,n3,n4,n5,n6] at d);(with_reducible repeat first|refine W.a2 ?_|refine W.a6 d ?_|refine W.a7 ?_);(refine W.nD d λh3 d _ Ep=>?_))
  have kT:(l.take i).length=i:=by simp;omega
  obtain ⟨a4,h4,S4,e4,d,_,_,_⟩:=d.qn (i:=1) (j:=3) (bytes:=88) (b_.kp _ _) rfl rfl (by decide) (.head _) rfl (by decide) rfl (by rw [kT];omega) (by rw [kT];omega)
  rw [kT] at e4
  refine W.bs e4 ?_
  rw [<- ed aS] at d
  ((try simp only [n1,n2,n3,n4,n5,n6] at d);(with_reducible repeat first|refine W.a2 ?_|refine W.a5 d λhw d lw kw=>?_))
  refine W.ret ⟨a4,S4,rfl,?_,(d.tl.tl).kP 2⟩
  simp only [bm (n:=(i:Int)+1) (by omega) (by omega)]
  rfl
theorem lJ.of{h0:AH}{S1 S2 S3:Fp}(d:Hs base bp h0 h D R){k:Nat}(uM:i≠j)(hik:i≠k)(hjk:j≠k)(e1:R[i]? = some ⟨S1,true,λy=>bQ base 89 y a (cV P.code)⟩)(hS1:∀ x,bK a x->S1 x)(e2:R[j]? = some (jg base f S2 P.ai b))(e3:R[k]? = some (o0 base f S3 P.out g)):lJ base f (iS h0.length h.length) h P (dK a P.code.length b P.ai.length P.next g P.out.length):=by
 have dj:∀ {i j:Nat} {r s:Rs},i≠j->R[i]? = some r->R[j]? = some s->r.mu=true->∀ b,r.S b->¬s.S b:=by
  intro i j r s uM hr hs m
  obtain ⟨hi,rfl⟩:=bY.1 hr
  obtain ⟨hj,rfl⟩:=bY.1 hs
  rcases mV uM with aS|uC
  ·exact gx.1 d.dj i j hi hj aS (by rw [m];rfl)
  ·exact (gx.1 d.dj j i hj hi uC).symm (by rw [m];rfl)
 exact ⟨a,b,g,S1,S2,S3,rfl,d.rs e1,hS1,d.rs e2,d.rs e3,λx hx=>⟨(d.Ab e1 rfl x hx).resolve_left λh=>h,d.fK e1 x hx⟩,λx hx=>⟨(d.Ab e2 rfl x hx).resolve_left λh=>h,d.fK e2 x hx⟩,λx hx=>⟨(d.Ab e3 rfl x hx).resolve_left λh=>h,d.fK e3 x hx⟩,dj uM e1 e2 rfl,dj hik e1 e3 rfl,dj hjk e2 e3 rfl⟩
theorem Hs.QG{h0:AH}(d:Hs base V h0 h D R){l:List In}(hs:Sl h a (cV l))(hl:l.length<=1048576):
  ∃ a' h' S',Am.app base h 89 6 56 none 0 (br h a (l.length*6)) l.length=some (.slice a' l.length l.length,h')/\Hs base V h0 h' D (R++[⟨S',true,λy=>bQ base 89 y a' (cV l)⟩])/\(∀ x,bK a' x->S' x)/\KB bp h h':=by
 have hr:br h a (l.length*6)=some (cV l):=by
  have:=hs.BK (sI _)
  rw [jH] at this
  exact this
 obtain ⟨a1,h1,g1,g2,g3,g4⟩:=bQ.app (x:=(.inl ⟨rfl,rfl⟩:bQ base 89 h none [])) (bytes:=56) (n:=0) (m:=l.length) (sz:=6) (by simp) (by decide) hr d.ge (by omega) (by omega) (jH _)
 simp only [cQ,kj] at g1 g2
 have k:KB bp h h1:=g3.mono λi hi ⟨ad,e,_⟩=>by cases e
 refine ⟨a1,h1,bK a1,g1,d.call k (bK a1) _ g2 (λU y y' ky hs x=>x.ax ky hs) (λb hb=>⟨?_,(g2.lt hb).2⟩),λ_ h=>h,k⟩
 rcases g4 with ⟨_,e,_⟩|g4
 ·rw [e] at hb;obtain ⟨_,e,_⟩:=hb;cases e
 ·have:=g4 b hb;omega
theorem w_{p:Fp}(hB:Nx f P)(x:tL h p f P cs)(hp:∀ b,p b->b<h.length)(hb:base<=h.length):
  ∃ fy h',run (Et base) 21 [.agg cs.toArray] h=some (.agg fy.toArray,h')/\lJ base f (iS h.length h'.length) h' P fy/\KB bp h h':=by
 obtain ⟨a,b,g,rfl,hc,BL,ha,ho⟩:=x
 obtain ⟨b1,b2,b3,b4,b5,b6⟩:=hB
 suffices w:Wp (run (Et base) 21 [.agg (dK a P.code.length b P.ai.length P.next g P.out.length).toArray] h) λo=>∃ fy,o.1 = .agg fy.toArray/\lJ base f (iS h.length o.2.length) o.2 P fy/\KB bp h o.2 by
  obtain ⟨⟨u,h'⟩,e,fy,rfl,q⟩:=w
  exact ⟨fy,h',e,q⟩
 have d:=((Hs.start hb).IJ p _ ha (λU y y' k hs x=>js.ax k hs x) hp (λx hx=>nomatch hx) rfl).IJ p _ ho (λU y y' k hs x=>mA.ax k hs x) hp (λx hx=>nomatch hx) rfl
 refine W.of (λr hx=>Am.nM hx) ?_
 ((try simp only [n1,n2,n3,n4,n5,n6] at d);(refine W.nD d λh1 d _ vQ=>?_);(refine W.nD d λh2 d _ U'=>?_);(with_reducible repeat refine W.a1 d ?_))
 obtain ⟨a3,h3,S3,e3,d,IX,k3⟩:=d.QG (hc.ax d.kb λ_ _ h=>h) b1
 refine W.bs e3 ?_
 ((try simp only [n1,n2,n3,n4,n5,n6] at d);(with_reducible repeat first|refine W.a1 d ?_|refine W.a2 ?_|refine W.a6 d ?_))
 obtain ⟨a4,h4,e4,r4,k4⟩:=DT (base:=base) b5 b6 (d.rs (i:=1) rfl) (d.fK (i:=1) rfl) d.ge
 have d:=d.aej (gz.kp _) k4 r4
 refine W.bs e4 ?_
 ((try simp only [n1,n2,n3,n4,n5,n6] at d);(with_reducible repeat first|refine W.a2 ?_|refine W.a6 d ?_|refine W.a7 ?_);(refine W.nD d λh5 d _ kh5=>?_);(with_reducible repeat first|refine W.a1 d ?_|refine W.a5 d λhw d lw kw=>?_))
 have d:=d.call (KB.refl bp _) (λ_=>False) (λy=>a_ base 53 5 (b_ base f) (λ_=>False) y [] none) a_.nil (λU y y' k hs x=>x.ax (b_.kp _ _) k hs) (λ_ h=>h.elim)
 have d:=(d.cJ (gJ.at (i:=4) rfl)).cJ (gJ.at (i:=1) rfl)
 simp only [n1,n2,n5,n6] at d
 have d1:=Hs.part (D1:=[_]) (R1:=[_,_]) d
 refine W.wb (Av (base:=base) b3 b4 P.ai.length 0 _ none _ (by omega) d1) ?_
 rintro ⟨o1,o2,h6⟩ ⟨a6,S6,y1,y2,d6⟩
 simp only at y1 y2 d6
 subst y1;subst y2
 have d:=Hs.back (D1:=[_]) (R1:=[_,_]) d d6 (im2 rfl rfl)
 refine W.aE rfl ?_
 ((try simp only [n1,n2,n3,n4,n5,n6] at d);(with_reducible repeat first|refine W.a1 d ?_|refine W.a2 ?_|refine W.a5 d λhw d lw kw=>?_))
 exact W.ret ⟨_,rfl,lJ.of d (i:=3) (j:=1) (k:=4) (by decide) (by decide) (by decide) rfl IX rfl rfl,d.kb⟩
theorem Hs.Yy{sz nb n:Nat}{h0:AH}{new:List Value}(d:Hs base V h0 h ((nb,t,dp) :: D) R)(hn:dp.length=n*sz)(jk:0<sz)(hs:src=some new)(h1:(n+m)*bytes<=140737488355328)(h2:n+m<=9223372036854775807)(hm:new.length=m*sz):
  ∃ a' h' S',Am.app base h t sz bytes (ap nb) n src m=some (.slice a' (n+m) (n+m),h')/\Hs base V h0 h' D (R++[⟨S',true,λy=>bQ base t y a' (dp++new)⟩])/\(∀ x,bK a' x->S' x)/\KB (· = nb) h h'/\(∀ x,S' x->x=nb\/h.length<=x):=by
 have d':=d.Hg .here
 obtain ⟨a',h',e,o,k,q⟩:=bQ.app (x:=d.ol (.head _)) (bytes:=bytes) (m:=m) hn jk hs d.ge h1 h2 hm
 have k:KB (· = nb) h h':=k.mono λi _ hi=>aG.1 hi
 have n0:=d.kb.1
 have d2:=d'.Ns (r:=⟨(· = nb),true,λy=>bQ base t y (ap nb) dp⟩) (r':=⟨bK a',true,λy=>bQ base t y a' (dp++new)⟩) (R':=R++[⟨bK a',true,λy=>bQ base t y a' (dp++new)⟩]) (by
  clear d d' k q
  induction R with
  | nil=>exact .here
  | cons x R ih=>exact .there ih) rfl rfl k (λb hb=>.inl hb) o (λU y y' ky hs x=>x.ax ky hs) (λb hb=>by
   rcases q with ⟨_,e,_⟩|q
   ·have hb:bK a' b:=hb
    rw [e,aG] at hb
    exact .inl hb
   ·have e:=q b hb
    have:=(o.lt hb).2
    exact .inr ⟨by omega,this⟩)
 refine ⟨a',h',_,e,d2,λ_ h=>h,k,λb hb=>?_⟩
 have hb:bK a' b:=hb
 rcases q with ⟨_,e,_⟩|q
 ·rw [e,aG] at hb;exact .inl hb
 ·have:=q b hb;exact .inr (by omega)
theorem xd{p:Fp}{l:List Ac}{a0 a1 g1:Option Addr}{Yz q1:Nat}{v1:Int}(hl:l.length<=1048576)(hB:∀ A∈l,x_ f A){h0:AH}:∀ (n i:Nat) (h:AH) (ao:Option Addr) (S:Fp),i+n=l.length->Hs base V h0 h [(ob,32,dK a0 n0 ao i v g q),(pb,32,dK a1 Yz a l.length v1 g1 q1)] [pE p λy=>js y p f l a,jg base f S (l.take i) ao] ->
  Wp (aF (B7 base) [some (.pointer (ap pb)),some (.pointer (ap rb)),some (.pointer (ap ob)),some (.int .i64 (i:Int))] h) λo=>∃ a' S',o.1=2/\o.2.1 = [some (.pointer (ap pb)),some (.pointer (ap rb)),some (.pointer (ap ob))]/\Hs base V h0 o.2.2 [(ob,32,dK a0 n0 a' l.length v g q),(pb,32,dK a1 Yz a l.length v1 g1 q1)] [pE p λy=>js y p f l a,jg base f S' l a']:=by
 intro n
 induction n with
 | zero=>
  intro i h ao S hi d
  have lL:i=l.length:=by omega
  subst lL
  rw [cG (aT _)] at d
  suffices w:Wp (B7 base [some (.pointer (ap pb)),some (.pointer (ap rb)),some (.pointer (ap ob)),some (.int .i64 (l.length:Int))] h) λo=>o=(2,[some (.pointer (ap pb)),some (.pointer (ap rb)),some (.pointer (ap ob))],h) by
   obtain ⟨o,e,rfl⟩:=w
   exact ⟨_,aC (by decide) e,ao,S,rfl,rfl,d⟩
  rw [B_]
  ((with_reducible repeat refine W.a1 d ?_))
  exact W.aU (by simp) (W.ret rfl)
 | succ n ih=>
  intro i h ao S hi d
  have aS:i<l.length:=by omega
  suffices w:Wp (B7 base [some (.pointer (ap pb)),some (.pointer (ap rb)),some (.pointer (ap ob)),some (.int .i64 (i:Int))] h) λo=>∃ a' S',o.1=0/\o.2.1 = [some (.pointer (ap pb)),some (.pointer (ap rb)),some (.pointer (ap ob)),some (.int .i64 ((i+1:Nat):Int))]/\Hs base V h0 o.2.2 [(ob,32,dK a0 n0 a' (i+1) v g q),(pb,32,dK a1 Yz a l.length v1 g1 q1)] [pE p λy=>js y p f l a,jg base f S' (l.take (i+1)) a'] by
   obtain ⟨⟨o1,o2,h'⟩,e,a',S',y1,y2,d'⟩:=w
   simp only at y1 y2 d'
   subst y1;subst y2
   obtain ⟨o,eo,q⟩:=ih (i+1) h' a' S' (by omega) d'
   exact ⟨o,bl e eo,q⟩
  rw [B_]
  ((with_reducible repeat refine W.a1 d ?_))
  refine W.aE (decide_eq_true (by show (i:Int)<(l.length:Int);omega)) ?_
  ((with_reducible repeat first|refine W.a1 d ?_|refine W.a8 ?_))
  rw [aM]
  refine W.ra (d.rs (i:=0) rfl) aS λa1 b1 c1 hm=>?_
  have d:=d.Nt (i:=0) rfl rfl _ hm (λU y y' k hs x=>rH.ax k hs x)
  ((try simp only [n1,n2,n3,n4,n5,n6] at d))
  obtain ⟨cs,h2,e2,t2,k2⟩:=ju (base:=base) (hB _ (aQ aS)) (d.rs (i:=2) rfl) d.ge (d.fK (i:=0) rfl)
  obtain ⟨a2,b2,c2,rfl⟩:=t2.gY
  have d:=d.fb (b_.kp _ _) k2 t2
  refine W.bs e2 ?_
  ((try simp only [n1,n2,n3,n4,n5,n6] at d);(with_reducible repeat first|refine W.a2 ?_|refine W.a6 d ?_|refine W.a7 ?_);(refine W.nD d λh3 d _ Ep=>?_))
  have kT:(l.take i).length=i:=by simp;omega
  obtain ⟨a4,h4,S4,e4,d,_,_,_⟩:=d.qn (i:=1) (j:=3) (bytes:=88) (b_.kp _ _) rfl rfl (by decide) (.head _) rfl (by decide) rfl (by rw [kT];omega) (by rw [kT];omega)
  rw [kT] at e4
  refine W.bs e4 ?_
  rw [<- ed aS] at d
  ((try simp only [n1,n2,n3,n4,n5,n6] at d);(with_reducible repeat first|refine W.a2 ?_|refine W.a5 d λhw d lw kw=>?_))
  refine W.ret ⟨a4,S4,rfl,?_,(d.tl).kP 2⟩
  simp only [bm (n:=(i:Int)+1) (by omega) (by omega)]
  rfl
theorem xe{p:Fp}{l:List Sd}{a0 a1 g1:Option Addr}{Yz q1:Nat}{v1:Int}(hl:l.length<=1048576)(hB:∀ x∈l,jJ f x.t){h0:AH}:∀ (n i:Nat) (h:AH) (ao:Option Addr) (S:Fp),i+n=l.length->Hs base V h0 h [(ob,32,dK a0 n0 g q v ao i),(pb,32,dK a1 Yz g1 q1 v1 a l.length)] [pE p λy=>mA y p f l a,o0 base f S (l.take i) ao] ->
  Wp (aF (B6 base) [some (.pointer (ap pb)),some (.pointer (ap rb)),some (.pointer (ap ob)),some (.int .i64 (i:Int))] h) λo=>∃ a' S',o.1=4/\o.2.1 = [some (.pointer (ap rb)),some (.pointer (ap ob))]/\Hs base V h0 o.2.2 [(ob,32,dK a0 n0 g q v a' l.length),(pb,32,dK a1 Yz g1 q1 v1 a l.length)] [pE p λy=>mA y p f l a,o0 base f S' l a']:=by
 intro n
 induction n with
 | zero=>
  intro i h ao S hi d
  have lL:i=l.length:=by omega
  subst lL
  rw [cG (aT _)] at d
  suffices w:Wp (B6 base [some (.pointer (ap pb)),some (.pointer (ap rb)),some (.pointer (ap ob)),some (.int .i64 (l.length:Int))] h) λo=>o=(4,[some (.pointer (ap rb)),some (.pointer (ap ob))],h) by
   obtain ⟨o,e,rfl⟩:=w
   exact ⟨_,aC (by decide) e,ao,S,rfl,rfl,d⟩
  rw [B8]
  ((with_reducible repeat refine W.a1 d ?_))
  exact W.aU (by simp) (W.ret rfl)
 | succ n ih=>
  intro i h ao S hi d
  have aS:i<l.length:=by omega
  suffices w:Wp (B6 base [some (.pointer (ap pb)),some (.pointer (ap rb)),some (.pointer (ap ob)),some (.int .i64 (i:Int))] h) λo=>∃ a' S',o.1=0/\o.2.1 = [some (.pointer (ap pb)),some (.pointer (ap rb)),some (.pointer (ap ob)),some (.int .i64 ((i+1:Nat):Int))]/\Hs base V h0 o.2.2 [(ob,32,dK a0 n0 g q v a' (i+1)),(pb,32,dK a1 Yz g1 q1 v1 a l.length)] [pE p λy=>mA y p f l a,o0 base f S' (l.take (i+1)) a'] by
   obtain ⟨⟨o1,o2,h'⟩,e,a',S',y1,y2,d'⟩:=w
   simp only at y1 y2 d'
   subst y1;subst y2
   obtain ⟨o,eo,q⟩:=ih (i+1) h' a' S' (by omega) d'
   exact ⟨o,bl e eo,q⟩
  rw [B8]
  ((with_reducible repeat refine W.a1 d ?_))
  refine W.aE (decide_eq_true (by show (i:Int)<(l.length:Int);omega)) ?_
  ((with_reducible repeat first|refine W.a1 d ?_|refine W.a8 ?_))
  rw [aM]
  refine W.s6 (d.rs (i:=0) rfl) aS λk n s a2 m hm=>?_
  have d:=d.Nt (i:=0) rfl rfl _ hm (λU y y' k hs x=>cD.ax k hs _ _ _ x)
  ((try simp only [n1,n2,n3,n4,n5,n6] at d);(refine W.nD d λh1 d _ vQ=>?_);(with_reducible repeat first|refine W.a1 d ?_|refine W.a5 d λhw d lw kw=>?_))
  obtain ⟨cs,h2,e2,t2,k2⟩:=dh (base:=base) f _ p _ _ (d.rs (i:=2) rfl) (hB _ (aQ aS)) d.ge (d.fK (i:=0) rfl)
  obtain ⟨k',n',s',a',m',rfl⟩:=t2.form
  have sd:gz f (iS _ h2.length) h2 l[i] (dr l[i].kind l[i].pid k' n' s' a' m'):=⟨_,_,_,_,_,rfl,t2.d⟩
  have d:=d.fb (gz.kp _) k2 sd
  refine W.bs e2 ?_
  ((try simp only [n1,n2,n3,n4,n5,n6] at d);(with_reducible repeat first|refine W.a1 d ?_|refine W.a2 ?_|refine W.a5 d λhw d lw kw=>?_);(refine W.nD d λh3 d _ Ep=>?_))
  have kT:(l.take i).length=i:=by simp;omega
  obtain ⟨a4,h4,S4,e4,d,_,_,_⟩:=d.qn (i:=1) (j:=3) (bytes:=72) (gz.kp _) rfl rfl (by decide) (.head _) rfl (by decide) rfl (by rw [kT];omega) (by rw [kT];omega)
  rw [kT] at e4
  refine W.bs e4 ?_
  rw [<- ed aS] at d
  ((try simp only [n1,n2,n3,n4,n5,n6] at d);(with_reducible repeat first|refine W.a2 ?_|refine W.a5 d λhw d lw kw=>?_))
  refine W.ret ⟨a4,S4,rfl,?_,(d.tl.tl).kP 2⟩
  simp only [bm (n:=(i:Int)+1) (by omega) (by omega)]
  rfl
theorem DU{p:Fp}(hB:Nx f P)(x:tL h p f P cs)(hp:∀ b,p b->b<h.length)(hb:base<=h.length):
  ∃ fy h',run (Et base) 14 [.agg cs.toArray] h=some (.agg fy.toArray,h')/\lJ base f (iS h.length h'.length) h' P fy/\KB bp h h':=by
 obtain ⟨a,b,g,rfl,hc,BL,ha,ho⟩:=x
 obtain ⟨b1,b2,b3,b4,b5,b6⟩:=hB
 suffices w:Wp (run (Et base) 14 [.agg (dK a P.code.length b P.ai.length P.next g P.out.length).toArray] h) λo=>∃ fy,o.1 = .agg fy.toArray/\lJ base f (iS h.length o.2.length) o.2 P fy/\KB bp h o.2 by
  obtain ⟨⟨u,h'⟩,e,fy,rfl,q⟩:=w
  exact ⟨fy,h',e,q⟩
 have d:=((Hs.start hb).IJ p _ ha (λU y y' k hs x=>js.ax k hs x) hp (λx hx=>nomatch hx) rfl).IJ p _ ho (λU y y' k hs x=>mA.ax k hs x) hp (λx hx=>nomatch hx) rfl
 refine W.of (λr hx=>Am.rE hx) ?_
 ((try simp only [n1,n2,n3,n4,n5,n6] at d);(refine W.nD d λh1 d _ vQ=>?_);(refine W.nD d λh2 d _ U'=>?_);(refine W.nD d λh3 d _ Ep=>?_);(with_reducible repeat first|refine W.a1 d ?_|refine W.a7 ?_))
 have jC:br h3 a (P.code.length*6)=some (cV P.code):=by
  have:=(hc.ax d.kb λ_ _ h=>h).BK (sI _)
  rw [jH] at this
  exact this
 obtain ⟨a3,h4,S3,e3,d,IX,k3,_⟩:=Hs.Yy (n:=0) (m:=P.code.length) (bytes:=56) d (by rfl) (by decide) jC (by omega) (by omega) (jH _)
 simp only [cQ,kj] at e3 d
 refine W.bs e3 ?_
 ((try simp only [n1,n2,n3,n4,n5,n6] at d);(with_reducible repeat first|refine W.a1 d ?_|refine W.a2 ?_|refine W.a6 d ?_|refine W.a7 ?_);(refine W.nD d λh5 d _ kh5=>?_);(with_reducible repeat refine W.a5 d λhw d lw kw=>?_))
 have d:=d.call (KB.refl bp _) (λ_=>False) (λy=>a_ base 53 5 (b_ base f) (λ_=>False) y [] none) a_.nil (λU y y' k hs x=>x.ax (b_.kp _ _) k hs) (λ_ h=>h.elim)
 have d:=d.call (KB.refl bp _) (λ_=>False) (λy=>a_ base 82 6 (gz f) (λ_=>False) y [] none) a_.nil (λU y y' k hs x=>x.ax (gz.kp _) k hs) (λ_ h=>h.elim)
 have d:=(((d.front (.there (.there .here))).front (.there .here)).cJ (gJ.at (i:=3) rfl)).cJ (gJ.at (i:=1) rfl)
 simp only [n1,n2,n5,n6] at d
 have d1:=Hs.part (D1:=[_,_]) (R1:=[_,_]) d
 refine W.wb (xd (base:=base) b3 b4 P.ai.length 0 _ none _ (by omega) d1) ?_
 rintro ⟨o1,o2,h6⟩ ⟨a6,S6,y1,y2,d6⟩
 simp only at y1 y2 d6
 subst y1;subst y2
 have d:=Hs.back (D1:=[_,_]) (R1:=[_,_]) d d6 (im2 rfl rfl)
 refine W.aE rfl ?_
 ((try simp only [n1,n2,n3,n4,n5,n6] at d);(with_reducible repeat refine W.a2 ?_))
 have d:=(d.cJ (gJ.at (i:=4) rfl)).cJ (gJ.at (i:=3) rfl)
 simp only [n1,n2,n5,n6] at d
 have d1:=Hs.part (D1:=[_,_]) (R1:=[_,_]) d
 refine W.wb (xe (base:=base) b5 b6 P.out.length 0 _ none _ (by omega) d1) ?_
 rintro ⟨o1,o2,h7⟩ ⟨a7,S7,y1,y2,d7⟩
 simp only at y1 y2 d7
 subst y1;subst y2
 have d:=Hs.back (D1:=[_,_]) (R1:=[_,_]) d d7 (im2 rfl rfl)
 refine W.aE rfl ?_
 ((try simp only [n1,n2,n3,n4,n5,n6] at d);(with_reducible repeat first|refine W.a1 d ?_|refine W.a2 ?_|refine W.a5 d λhw d lw kw=>?_))
 exact W.ret ⟨_,rfl,lJ.of d (i:=4) (j:=3) (k:=1) (by decide) (by decide) (by decide) rfl IX rfl rfl,d.kb⟩
section
theorem kV{U:Fp}{n:Nat}(k:KB U h h')(hU:∀ b,bK a b->¬U b)(e:br h a n=some vs):br h' a n=some vs:=by
 unfold br at e ⊢
 split at e
 ·rename_i h0;rw [if_pos h0];exact e
 ·rename_i h0
  rw [if_neg h0]
  cases a with
  | none=>cases e
  | some ad=>
   simp only [Option.bind_some] at e ⊢
   cases hg:bD h ad.block with
   | none=>rw [hg] at e;cases e
   | some kk=>
    rw [k.2 _ (di hg) (hU _ ⟨ad,rfl,rfl⟩),hg]
    rw [hg] at e
    exact e
theorem kW{n:Nat}(hs:Sl h a vs)(hl:vs.all leaf=true)(hnm:n+m<=vs.length):br h (dm a n) m=some ((vs.drop n).take m):=by
 have h1:=hs.part hnm
 have h2:((vs.drop n).take m).all leaf=true:=by
  rw [List.all_eq_true] at hl ⊢
  exactλv hv=>hl v (rm (um hv))
 have:=h1.BK h2
 rw [show ((vs.drop n).take m).length=m from by simp;omega] at this
 exact this
namespace Hs
variable {base:Nat} {W:Fp} {h0 h:AH} {D:Ds} {R:List Rs}
theorem YA{n:Nat}{new:List Value}(d:Hs base W h0 h D R)(ei:R[i]? = some ⟨S,true,λx=>bQ base t x a dp⟩)(hS:∀ b,bK a b->S b)(hs:src=some new)(hw:0<w)(hn:dp.length=n*w)(hm:new.length=m*w)(h1:(n+m)*bytes<=140737488355328)(h2:n+m<=9223372036854775807):
  ∃ a' h',Am.app base h t w bytes a n src m=some (.slice a' (n+m) (n+m),h')/\Hs base W h0 h' D (R.set i ⟨bK a',true,λx=>bQ base t x a' (dp++new)⟩)/\(∀ b,bK a' b->S b\/b=h.length)/\KB S h h':=by
 obtain ⟨a',h',e,o,k,q⟩:=bQ.app (x:=d.rs ei) (bytes:=bytes) (m:=m) hn hw hs d.ge h1 h2 hm
 have k:KB S h h':=k.mono λb _ hb=>hS b hb
 have q':∀ b,bK a' b->S b\/b=h.length:=λb hb=>by
  rcases q with ⟨_,e,_⟩|q
  ·exact .inl (hS b (e ▸ hb))
  ·exact .inr (q b hb)
 exact ⟨a',h',e,d.Ns (fz.at ei) rfl rfl k (λb hb=>.inl hb) o (λU y y' ky hs x=>x.ax ky hs) (λb hb=>(q' b hb).imp id λe=>⟨by omega,(o.lt hb).2⟩),q',k⟩
theorem cut{P:Fp->AH->α->List Value->Prop}{S2:Fp}{l:List α}{a':Option Addr}(d:Hs base W h0 h D R)(kp:Kp P)(ei:R[i]? = some ⟨S,true,λx=>a_ base t w P S x l a⟩)(hq:q<l.length)(A0:∀ S h x cs,P S h x cs->cs.all leaf=true)(hw:0<w)(jC:br h a (l.length*w)=some vs)(uM:i≠j)(ej:R[j]? = some ⟨S2,true,λx=>bQ base t x a' (vs.take (q*w)++vs.drop ((q+1)*w))⟩)(hS2:∀ b,bK a' b->S2 b):
  ∃ C S',Hs base W h0 h D ((R.set i ⟨S',true,λx=>a_ base t w P S' x (l.take q++l.drop (q+1)) a'⟩).set j ⟨C,true,λx=>P C x l[q] (chunk w q vs)⟩)/\(∀ b,C b->S b)/\(∀ b,S' b->S b\/S2 b):=by
 have row:a_ base t w P S h l a:=d.rs ei
 obtain ⟨ji,T,er,ev,xA,hT,hb,ch⟩:=row.Nu A0 hw
 rw [er] at jC
 injection jC with jC
 subst jC
 obtain ⟨C,hC,YB,chd⟩:=ch.del ev hq
 have o:bQ base t h a' (ji.take (q*w)++ji.drop ((q+1)*w)):=d.rs ej
 have dj:∀ b,S2 b->¬S b:=by
  obtain ⟨hi,r1⟩:=bY.1 ei
  obtain ⟨hj,r2⟩:=bY.1 ej
  rcases mV uM with aS|uC
  ·have:=gx.1 d.dj i j hi hj aS
   rw [r1,r2] at this
   exactλb h1 h2=>this rfl b h2 h1
  ·have:=gx.1 d.dj j i hj hi uC
   rw [r1,r2] at this
   exactλb h1 h2=>this rfl b h1 h2
 have hle:=dD (w:=w) hq
 have A1:(ji.take (q*w)++ji.drop ((q+1)*w)).length=(l.take q++l.drop (q+1)).length*w:=by
  have e1:(l.length-(q+1))*w=l.length*w-(q*w+w):=by rw [Nat.sub_mul,mH,Hp]
  have e2:(q+1)*w=q*w+w:=by rw [mH,Hp]
  rw [py,py,iV,uo,iV,uo,pB (by omega),pB (by omega),ev,e2]
  have e3:=mH q (l.length-(q+1)) w
  omega
 refine ⟨C,λb=>S2 b\/(T b/\¬C b),?_,λb hb=>hT b (YB b hb),λb hb=>hb.elim .inr λh=>.inl (hT b h.1)⟩
 have ak9:a_ base t w P (λb=>S2 b\/(T b/\¬C b)) h (l.take q++l.drop (q+1)) a':=
  ⟨_,λb=>T b/\¬C b,o,A1,λb hb=>⟨.inl (hS2 b hb),λhh=>dj b (hS2 b hb) (hT b hh.1)⟩,λb hb=>.inr hb,chd⟩
 obtain ⟨i1,r1⟩:=bY.1 ei
 obtain ⟨j1,r2⟩:=bY.1 ej
 have ri:=d.iH _ (dX ei)
 have rj:=d.iH _ (dX ej)
 have get:∀ k (hk:k<((R.set i ⟨λb=>S2 b\/(T b/\¬C b),true,λx=>a_ base t w P (λb=>S2 b\/(T b/\¬C b)) x (l.take q++l.drop (q+1)) a'⟩).set j ⟨C,true,λx=>P C x l[q] (chunk w q ji)⟩).length),((R.set i ⟨λb=>S2 b\/(T b/\¬C b),true,λx=>a_ base t w P (λb=>S2 b\/(T b/\¬C b)) x (l.take q++l.drop (q+1)) a'⟩).set j ⟨C,true,λx=>P C x l[q] (chunk w q ji)⟩)[k]=if k=j then ⟨C,true,λx=>P C x l[q] (chunk w q ji)⟩ else if k=i then ⟨λb=>S2 b\/(T b/\¬C b),true,λx=>a_ base t w P (λb=>S2 b\/(T b/\¬C b)) x (l.take q++l.drop (q+1)) a'⟩ else R[k]'(by simpa using hk):=by
  intro k hk
  rw [Aw]
  by_cases e:j=k
  ·subst e;simp
  ·rw [if_neg e,if_neg (by omega),Aw]
   by_cases e2:i=k
   ·subst e2;simp
   ·rw [if_neg e2,if_neg (by omega)]
 refine ⟨d.ge,d.kb,d.own,d.nd,λr hr=>?_,?_⟩
 ·obtain ⟨k,hk,rfl⟩:=List.mem_iff_getElem.1 hr
  rw [get k hk]
  split
  ·exact ⟨hC,λU y y' ky hs x=>kp _ U y y' _ _ ky hs x,λb hb=>ri.2.2.1 b (hT b (YB b hb)),λ_ b hb=>ri.2.2.2.1 rfl b (hT b (YB b hb)),λx hx hb=>ri.2.2.2.2 x hx (hT _ (YB _ hb))⟩
  ·split
   ·refine ⟨ak9,λU y y' ky hs x=>x.ax kp ky hs,λb hb=>?_,λ_ b hb=>?_,λx hx hb=>?_⟩
    ·rcases hb with hb|hb
     ·exact rj.2.2.1 b hb
     ·exact ri.2.2.1 b (hT b hb.1)
    ·rcases hb with hb|hb
     ·exact rj.2.2.2.1 rfl b hb
     ·exact ri.2.2.2.1 rfl b (hT b hb.1)
    ·rcases hb with hb|hb
     ·exact rj.2.2.2.2 x hx hb
     ·exact ri.2.2.2.2 x hx (hT _ hb.1)
   ·exact d.iH _ (aQ _)
 ·rw [gx]
  intro k1 k2 O3 O2 aS
  have pJ:∀ (k:Nat) (hk:k<R.length) (b:Nat),k≠i->k≠j->(R[k]'hk).S b->¬S b/\¬S2 b:=by
   intro k hk b h1 h2 hb
   refine ⟨λhs=>?_,λhs=>?_⟩
   ·rcases mV h1 with hh|hh
    ·have:=gx.1 d.dj k i hk i1 hh
     rw [r1] at this
     exact this (by simp) b hb hs
    ·have:=gx.1 d.dj i k i1 hk hh
     rw [r1] at this
     exact this (by simp) b hs hb
   ·rcases mV h2 with hh|hh
    ·have:=gx.1 d.dj k j hk j1 hh
     rw [r2] at this
     exact this (by simp) b hb hs
    ·have:=gx.1 d.dj j k j1 hk hh
     rw [r2] at this
     exact this (by simp) b hs hb
  rw [get k1 O3,get k2 O2]
  intro e b jM jx
  by_cases c1:k1=j
  ·rw [if_pos c1] at jM
   have hs:S b:=hT b (YB b jM)
   rw [if_neg (by omega)] at jx
   by_cases c2:k2=i
   ·rw [if_pos c2] at jx
    rcases jx with jx|jx
    ·exact dj b jx hs
    ·exact jx.2 jM
   ·rw [if_neg c2] at jx
    exact (pJ k2 _ b c2 (by omega) jx).1 hs
  ·rw [if_neg c1] at jM
   by_cases c2:k1=i
   ·rw [if_pos c2] at jM
    have hs:S b\/S2 b:=jM.elim .inr λh=>.inl (hT b h.1)
    by_cases c3:k2=j
    ·rw [if_pos c3] at jx
     rcases jM with jM|jM
     ·exact dj b jM (hT b (YB b jx))
     ·exact jM.2 jx
    ·rw [if_neg c3,if_neg (by omega)] at jx
     have:=pJ k2 _ b (by omega) c3 jx
     exact hs.elim this.1 this.2
   ·rw [if_neg c2] at jM
    have o1:=pJ k1 _ b c2 c1 jM
    by_cases c3:k2=j
    ·rw [if_pos c3] at jx
     exact o1.1 (hT b (YB b jx))
    ·rw [if_neg c3] at jx
     by_cases c4:k2=i
     ·rw [if_pos c4] at jx
      exact jx.elim o1.2 λh=>o1.1 (hT b h.1)
     ·rw [if_neg c4] at jx
      rw [if_neg c1,if_neg c2,if_neg c3,if_neg c4] at e
      exact gx.1 d.dj k1 k2 (by simpa using O3) (by simpa using O2) aS e b jM jx
end Hs
end
def bW(v:Int)(l:List Int):List Int:=l.filter λn=>n != v
theorem vS{x:Int}:bW v (l++[x])=if (x != v)=true then bW v l++[x] else bW v l:=by
 unfold bW
 rw [List.filter_append]
 by_cases c:(x != v)=true
 ·rw [if_pos c];simp [c]
 ·rw [if_neg c];simp [c]
theorem kD:(bW v l).length<=l.length:=List.length_filter_le _ _
theorem W.ri{Q:β->Prop}(hs:Sl h a (iv .i64 zs))(hi:i<zs.length){f:Int->Option β}(w:Wp (f zs[i]) Q):Wp (a.bind λad=>((Am.cell h ad.block (ad.off+i*1)).bind (au .i64)).bind f) Q:=by
 obtain ⟨ad,rfl,g⟩:=pD hs hi
 exact W.bs rfl (W.bI g w)
theorem Ax(hl:zs.length<=1048576*4){h0:AH}(hs:Sl h0 a (iv .i64 zs)):∀ (n i:Nat) (h:AH) (ao:Option Addr) (S:Fp),i+n=zs.length->Hs base bp h0 h [] [⟨S,true,λy=>bQ base 3 y ao (iv .i64 (bW v (zs.take i)))⟩]->(∀ b,bK ao b->S b) ->
  Wp (aF (zw base) [some (.slice a zs.length zs.length),some (.int .i64 v),some (.slice ao (bW v (zs.take i)).length (bW v (zs.take i)).length),some (.int .i64 (i:Int))] h) λo=>∃ a' S',o.1=2/\o.2.1 = [some (.slice a' (bW v zs).length (bW v zs).length)]/\Hs base bp h0 o.2.2 [] [⟨S',true,λy=>bQ base 3 y a' (iv .i64 (bW v zs))⟩]/\(∀ b,bK a' b->S' b):=by
 intro n
 induction n with
 | zero=>
  intro i h ao S hi d hS
  have lL:i=zs.length:=by omega
  subst lL
  rw [cG (aT _)] at d ⊢
  refine ⟨_,aC (by decide) (s':=[some (.slice ao (bW v zs).length (bW v zs).length)]) (h':=h) (e:=2) ?_,ao,S,rfl,rfl,d,hS⟩
  rw [xX]
  exact Am.aU (by simp) rfl
 | succ n ih=>
  intro i h ao S hi d hS
  have aS:i<zs.length:=by omega
  have hsn:bW v (zs.take (i+1))=if (zs[i] != v)=true then bW v (zs.take i)++[zs[i]] else bW v (zs.take i):=by rw [ed aS,vS]
  suffices w:Wp (zw base [some (.slice a zs.length zs.length),some (.int .i64 v),some (.slice ao (bW v (zs.take i)).length (bW v (zs.take i)).length),some (.int .i64 (i:Int))] h) λo=>∃ a' S',o.1=0/\o.2.1 = [some (.slice a zs.length zs.length),some (.int .i64 v),some (.slice a' (bW v (zs.take (i+1))).length (bW v (zs.take (i+1))).length),some (.int .i64 ((i+1:Nat):Int))]/\Hs base bp h0 o.2.2 [] [⟨S',true,λy=>bQ base 3 y a' (iv .i64 (bW v (zs.take (i+1))))⟩]/\(∀ b,bK a' b->S' b) by
   obtain ⟨⟨o1,o2,h'⟩,e,a',S',y1,y2,d',Ek⟩:=w
   simp only at y1 y2 d'
   subst y1;subst y2
   obtain ⟨o,eo,q⟩:=ih (i+1) h' a' S' (by omega) d' Ek
   exact ⟨o,bl e eo,q⟩
  have hlen:(bW v (zs.take i)).length<=zs.length:=gi kD (by simp;omega)
  rw [xX]
  refine W.aE (decide_eq_true (by omega)) (W.join (W.aE ⟨by omega,by omega⟩ ?_))
  rw [aM]
  refine W.ri (hs.aj d.kb) aS (W.ite (λc=>?_) (λc=>?_))
  ·refine W.aE ⟨by omega,by omega⟩ (W.ri (hs.aj d.kb) aS ?_)
   ((refine W.nD d λh1 d _ vQ=>?_))
   obtain ⟨a2,h2,e2,d,q2,k2,_⟩:=d.Nv (w:=1) (i:=0) (n:=(bW v (zs.take i)).length) (bytes:=8) rfl hS (.head _) rfl (by decide) (by simp) rfl (by omega) (by omega)
   refine W.bs e2 ?_
   ((try simp only [n1,n2,n3,n4,n5,n6] at d);(with_reducible repeat refine W.a2 ?_))
   refine W.il ?_
   ((with_reducible repeat refine W.a2 ?_))
   rw [bm (n:=(i:Int)+1) (by omega) (by omega)]
   rw [hsn,if_pos c]
   refine W.ret ⟨a2,_,rfl,by simp,?_,λ_ h=>h⟩
   have:=d.tl
   rw [show [vI zs[i]]=iv .i64 [zs[i]] from rfl,lX] at this
   exact this
  ·refine W.il ?_
   ((with_reducible repeat refine W.a2 ?_))
   rw [bm (n:=(i:Int)+1) (by omega) (by omega)]
   rw [hsn,if_neg c]
   exact W.ret ⟨ao,S,rfl,rfl,d,hS⟩
theorem DV(hl:zs.length<=1048576*4)(hs:Sl h a (iv .i64 zs))(hb:base<=h.length):
  ∃ a' h',run (Et base) 120 [.slice a zs.length zs.length,.int .i64 v] h=some (.slice a' (bW v zs).length (bW v zs).length,h')/\bQ base 3 h' a' (iv .i64 (bW v zs))/\KB bp h h'/\(∀ b,bK a' b->h.length<=b):=by
 suffices w:Wp (run (Et base) 120 [.slice a zs.length zs.length,.int .i64 v] h) λo=>∃ a',o.1 = .slice a' (bW v zs).length (bW v zs).length/\bQ base 3 o.2 a' (iv .i64 (bW v zs))/\KB bp h o.2/\(∀ b,bK a' b->h.length<=b) by
  obtain ⟨⟨u,h'⟩,e,a',rfl,q⟩:=w
  exact ⟨a',h',e,q⟩
 have d:=Hs.start hb
 refine W.of (λr hx=>Am.akc hx) ?_
 ((refine W.nD d λh1 d _ vQ=>?_))
 have d:=d.Hg .here
 refine W.wb (Ax (base:=base) (v:=v) hl hs zs.length 0 h1 (ap h.length) _ (by omega) d λb hb=>aG.1 hb) ?_
 rintro ⟨o1,o2,h2⟩ ⟨a',S',y1,y2,d,hS⟩
 simp only at y1 y2 d
 subst y1;subst y2
 refine W.aE rfl ?_
 ((with_reducible repeat refine W.a2 ?_))
 exact W.ret ⟨a',rfl,d.rs (i:=0) rfl,d.kb,λb hb=>(d.Ab (i:=0) rfl rfl b (hS b hb)).resolve_left λh=>h⟩
def mg(pid:Int)(ai:List Ac):Bool:=if decide (bX pid 0 ai<0)=true then true else decide (((ai.getD (bX pid 0 ai).toNat a0).box.length:Int)>=(30:Int))
def ly(pid:Int)(t:Tm)(ai:List Ac):List Ac:=if mg pid ai=true then ai else ai.set (bX pid 0 ai).toNat { (ai.getD (bX pid 0 ai).toNat a0) with box:=(ai.getD (bX pid 0 ai).toNat a0).box++[t] }
theorem a_.IY{P:Fp->AH->α->List Value->Prop}{l:List α}(x:a_ base t w P S h l a):∀ b,bK a b->S b:=by
 obtain ⟨vs,T,_,_,x3,_⟩:=x
 exactλb hb=>(x3 b hb).1
theorem DW{p:Fp}{t:Tm}{IU:List Value}{h0:AH}(hn:P.ai.length<=1048576)(QE:∀ A∈P.ai,A.box.length<=1048576)(hB:jJ f t)(hf:f<=F)(d:Hs base V h0 h [(pb,32,dK a P.code.length b P.ai.length P.next g P.out.length)] [pE p λy=>cD y p f t IU,jg base F S P.ai b]):
  Wp (run (Et base) 90 [.pointer (ap pb),.int .i64 pid,.agg IU.toArray] h) λr=>r.1 = .bool (!mg pid P.ai)/\∃ S',Hs base V h0 r.2 [(pb,32,dK a P.code.length b P.ai.length P.next g P.out.length)] [pE p λy=>cD y p f t IU,jg base F S' (ly pid t P.ai) b]:=by
 obtain ⟨k0,m0,s0,ta,tl,rfl⟩:=cD.form (d.rs (i:=0) rfl)
 refine W.of (λr hx=>Am.r90 hx) ?_
 ((refine W.nD d λh1 d _ vQ=>?_);(with_reducible repeat first|refine W.a1 d ?_|refine W.bo ?_))
 obtain ⟨h2,e2,k2⟩:=jt (base:=base) (P:=P) (v:=pid) (a:=a) (g:=g) (by omega) (a_.wj (d.rs (i:=1) rfl)) d.ge
 have d:=d.kN k2
 refine W.bs e2 ?_
 ((with_reducible repeat refine W.a2 ?_))
 have aS:=fG pid P.ai 0
 apply W.jb (mg pid P.ai) d
 ·unfold mg
  refine W.ite (λc=>?_) (λc=>?_)
  ·rw [if_pos c]
   exact W.lb rfl rfl (KB.refl _ _)
  ·rw [if_neg c]
   have c':¬bX pid 0 P.ai<0:=by simpa using c
   have hi:(bX pid 0 P.ai).toNat<P.ai.length:=by omega
   ((with_reducible repeat first|refine W.a1 d ?_|refine W.bo ?_|refine W.a8 ?_))
   obtain ⟨ad,x1,x2,x3,rfl,eN,g0,g1,g2,g3,g4,yN,th⟩:=js.get (a_.wj (d.rs (i:=1) rfl)) hi
   refine W.bs rfl (W.bS g3 ?_)
   rw [aD hi]
   exact W.lb rfl rfl (KB.refl _ _)
 intro h3 d n3
 ((with_reducible repeat refine W.a2 ?_))
 refine W.ite (λc=>?_) (λc=>?_)
 ·rw [c]
  refine W.ret ⟨rfl,S,?_⟩
  unfold ly
  rw [if_pos c]
  exact d.tl
 ·have c2:=c
  unfold mg at c2
  have c':¬bX pid 0 P.ai<0:=λh=>c2 (by rw [if_pos (decide_eq_true h)])
  have hi:(bX pid 0 P.ai).toNat<P.ai.length:=by omega
  have IX:∀ b,S b->b<h3.length:=d.fK (i:=1) rfl
  ((with_reducible repeat first|refine W.a1 d ?_|refine W.bo ?_|refine W.a7 ?_);(refine W.nD d λh4 d _ kh4=>?_);(with_reducible repeat first|refine W.a1 d ?_|refine W.bo ?_|refine W.a7 ?_|refine W.a8 ?_))
  have row:a_ base 53 5 (b_ base F) S h4 P.ai b:=d.rs (i:=1) rfl
  obtain ⟨C,OJ,ad,hA,nI,rfl,cells,oX,pA,wi,mod⟩:=row.mod (b_.kp _ _) (by decide) hi (d.fK (i:=1) rfl)
  have NM:=hA
  obtain ⟨ra,rb,rc,S1,S2,S3,rfl,q1,q2,q3,qg,t1,t2,t3,d12,d13,d23⟩:=hA
  refine W.bs rfl (W.gt (ma (n:=h3.length) (by have:=IX _ pA;omega)) (W.bS (cells 3 _ rfl) ?_))
  have eN:=QE _ (aQ hi)
  obtain ⟨vs,T2,er,ev,_,Vc,_,ch2⟩:=a_.Nu (w:=4) (λS h x cs y=>by obtain ⟨_,_,_,_,_,rfl⟩:=bM.form y;rfl) (by decide) q2
  obtain ⟨a5,h5,S5,e5,d,hS5,k5,l5⟩:=Hs.Yy (n:=0) (m:=P.ai[(bX pid 0 P.ai).toNat].box.length) (bytes:=56) d (by rfl) (by decide) er (by omega) (by omega) ev
  simp only [cQ,kj] at e5 d
  refine W.bs e5 ?_
  ((try simp only [n1,n2,n3,n4,n5,n6] at d);(with_reducible repeat first|refine W.a1 d ?_|refine W.a2 ?_|refine W.a6 d ?_|refine W.a7 ?_))
  obtain ⟨cs6,h6,e6,t6,k6⟩:=dh (base:=base) f _ p _ _ (d.rs (i:=0) rfl) hB d.ge (d.fK (i:=0) rfl)
  obtain ⟨x1,x2,x3,x4,x5,rfl⟩:=t6.form
  have d:=d.fb (bM.kp _ _) k6 t6
  refine W.bs e6 ?_
  ((try simp only [n1,n2,n3,n4,n5,n6] at d);(with_reducible repeat first|refine W.a2 ?_|refine W.a6 d ?_|refine W.a7 ?_);(refine W.nD d λh7 d _ Zx=>?_))
  obtain ⟨a8,h8,e8,d,q8,k8,n8⟩:=d.Nv (w:=4) (i:=2) (n:=P.ai[(bX pid 0 P.ai).toNat].box.length) (bytes:=56) rfl hS5 (.head _) rfl (by decide) ev rfl (by omega) (by omega)
  refine W.bs e8 ?_
  ((try simp only [n1,n2,n3,n4,n5,n6] at d);(with_reducible repeat first|refine W.a2 ?_|refine W.bo ?_|refine W.a6 d ?_|refine W.a8 ?_))
  have n4:h3.length<h4.length:=by omega
  have n6:=k6.1
  have n5:=k5.1
  have k48:KB (λb=>h3.length<=b) h4 h8:=KB.trans (KB.trans (KB.trans k5 k6 (T:=λb=>h3.length<=b) (λi _ hi=>by omega) (λ_ _ h=>h.elim)) Zx (λ_ _ h=>h) (λ_ _ h=>h.elim)) k8 (λ_ _ h=>h) (λi hi hs=>by have:=l5 i hs;omega)
  have pJ:∀ b,S b->¬h3.length<=b:=λb hb=>by have:=IX b hb;omega
  have o8:bQ base 56 h8 a8 _:=d.rs (i:=2) rfl
  have t8:bM base f (iS h5.length h6.length) h8 t _:=d.rs (i:=3) rfl
  have n5h:h4.length<=h5.length:=n5
  have ch8:bC 4 (bM base F) (λb=>T2 b\/iS h5.length h6.length b) h8 (P.ai[(bX pid 0 P.ai).toNat].box++[t]) (vs++ah x1 x2 x3 x4 x5):=
   (ch2.ax (bM.kp _ _) k48 λb hb=>pJ b (oX b (t2 b (Vc b hb)))).snoc (t8.le hf) (λb hb cy=>by have:=IX b (oX b (t2 b (Vc b cy)));omega) (λb hb=>.inl hb) (λb hb=>.inr hb) (λq hq=>dc (by have:=dD (w:=4) hq;omega)) (eL rfl ev)
  have NN:∀ b,bK a8 b->h7.length<=b:=λb hb=>by have:=q8 b hb;omega
  have Ys:a_ base 56 4 (bM base F) (λb=>S2 b\/bK a8 b\/iS h5.length h6.length b) h8 (P.ai[(bX pid 0 P.ai).toNat].box++[t]) a8:=
   ⟨_,_,o8,by simp [ev];omega,λb hb=>⟨.inr (.inl hb),λhh=>by
    have:=NN b hb
    rcases hh with hh|hh
    ·have:=IX b (oX b (t2 b (Vc b hh)));omega
    ·omega⟩,λb hb=>hb.elim (λh=>.inl (Vc b h)) (λh=>.inr (.inr h)),ch8⟩
  have hP:∀ h2,KB (· = ad.block) h8 h2->b_ base F (λb=>C b\/bK a8 b\/iS h5.length h6.length b) h2 { P.ai[(bX pid 0 P.ai).toNat] with box:=P.ai[(bX pid 0 P.ai).toNat].box++[t] } (setAt (de P.ai[(bX pid 0 P.ai).toNat].pid P.ai[(bX pid 0 P.ai).toNat].pc ra P.ai[(bX pid 0 P.ai).toNat].aH.length rb P.ai[(bX pid 0 P.ai).toNat].box.length rc P.ai[(bX pid 0 P.ai).toNat].aw.length) 3 [vL a8 (P.ai[(bX pid 0 P.ai).toNat].box.length+1)]):=by
   intro h2 k2
   have kk:KB (λb=>h3.length<=b\/b=ad.block) h4 h2:=KB.trans k48 k2 (λ_ _ h=>.inl h) (λ_ _ h=>.inr h)
   have aeA:∀ b,C b->¬(h3.length<=b\/b=ad.block):=λb hb hh=>by
    rcases hh with hh|hh
    ·exact pJ b (oX b hb) hh
    ·exact wi (hh ▸ hb)
   refine ⟨ra,a8,rc,S1,λb=>S2 b\/bK a8 b\/iS h5.length h6.length b,S3,by simp [setAt],q1.ax (bM.kp _ _) kk λb hb=>aeA b (t1 b hb),Ys.ax (bM.kp _ _) k2 λb hb hk=>?_,q3.ax kk λb hb=>aeA b (t3 b (qg b hb)),qg,λb hb=>.inl (t1 b hb),λb hb=>hb.elim (λh=>.inl (t2 b h)) .inr,λb hb=>.inl (t3 b hb),λb h1 h2=>?_,d13,λb h1 h2=>?_⟩
   ·have h3b:=IX _ pA
    rcases hb with hb|hb|hb
    ·exact wi (hk ▸ t2 b hb)
    ·have:=NN b hb;omega
    ·omega
   ·have h3b:=IX _ (oX _ (t1 b h1))
    rcases h2 with h2|h2|h2
    ·exact d12 b h1 h2
    ·have:=NN b h2;omega
    ·omega
   ·have h3b:=IX _ (oX _ (t3 b h2))
    rcases h1 with h1|h1|h1
    ·exact d23 b h1 h2
    ·have:=NN b h1;omega
    ·omega
  obtain ⟨h9,e9,r9,k9,l9⟩:=mod (λb=>h3.length<=b) (λb=>C b\/bK a8 b\/iS h5.length h6.length b) h8 _ [vL a8 (P.ai[(bX pid 0 P.ai).toNat].box.length+1)] 3 { P.ai[(bX pid 0 P.ai).toNat] with box:=P.ai[(bX pid 0 P.ai).toNat].box++[t] } k48 (λb hb hs=>absurd hb (pJ b hs)) (by simp) (by simp) rfl hP (λb hb hs=>by
   rcases hb with hb|hb|hb
   ·exact hb
   ·have:=NN b hb;have:=IX b hs;omega
   ·have:=IX b hs;omega)
  refine W.bs e9 (W.ret ⟨?_,?_⟩)
  ·have:mg pid P.ai=false:=by simpa using c
   rw [this];rfl
  ·have d:=d.join (r':=⟨λb=>bK a8 b\/iS h5.length h6.length b,true,λ_=>True⟩) (fz.at (i:=3) rfl) (fz.at (i:=2) rfl) rfl rfl rfl (KB.refl bp _) (λ_ h=>h.elim) trivial (λ_ _ _ _ _ h=>h) (λb hb=>hb.elim .inl λh=>.inr (.inl h))
   have d:=d.oT (b_.kp _ _) (fz.at (i:=2) rfl) (fz.at (i:=1) rfl) rfl rfl k9 r9 (λb hb=>.inl (by rw [hb];exact pA)) (λb hb=>by
    rcases hb with hb|hb|hb
    ·exact .inl hb
    ·exact .inl (oX b hb)
    ·exact .inr (.inl hb))
   unfold ly
   rw [if_neg c,aD hi]
   exact ⟨_,(d.tl.tl).kP 2⟩
def gZ(v:Int)(A:Ac):Ac:=⟨A.pid,A.pc,A.aH,A.box,bW v A.aw⟩
def eX(k:Nat)(l:List Ac):List Ac:=l.take k++l.drop (k+1)
def dL(ok:Bool)(t:Tm):Nat->Int->Pl->Pl
 | 0,_,P=>P
 | n+1,pid,P=>if decide (bX pid 0 P.ai<0)=true then P else
   if ok=true then ⟨P.code,(eX (bX pid 0 P.ai).toNat P.ai).map (gZ pid),P.next,fN P.out 3 pid t⟩
   else (P.ai.getD (bX pid 0 P.ai).toNat a0).aw.foldl (λQ m=>dL ok t n m Q) ⟨P.code,(eX (bX pid 0 P.ai).toNat P.ai).map (gZ pid),P.next,fN P.out 3 pid t⟩
def PE(P:Pl):Prop:=P.ai.length<=1048576/\P.out.length<=1048576/\∀ A∈P.ai,A.aw.length<=1048576
theorem mh{k:Nat}{l:List Ac}(h:k<l.length):(eX k l).length+1=l.length:=by unfold eX;simp;omega
theorem mi{k:Nat}{l:List Ac}(h:A∈eX k l):A∈l:=by
 rcases List.mem_append.1 h with h|h
 ·exact um h
 ·exact rm h
theorem Ay{l:List Sd}{kind:Int}{t:Tm}(h:l.length<=1048576):(fN l kind pid t).length<=1048576:=by
 unfold fN
 split
 ·exact h
 ·rename_i c;simp at c ⊢;omega
theorem iC(ok:Bool)(t:Tm):∀ n pid P,(dL ok t n pid P).code=P.code/\(dL ok t n pid P).next=P.next
 | 0,_,P=>⟨rfl,rfl⟩
 | n+1,pid,P=>by
  rw [dL]
  split
  ·exact ⟨rfl,rfl⟩
  split
  ·exact ⟨rfl,rfl⟩
  ·have:∀ (l:List Int) (Q:Pl),(l.foldl (λQ m=>dL ok t n m Q) Q).code=Q.code/\(l.foldl (λQ m=>dL ok t n m Q) Q).next=Q.next:=by
    intro l
    induction l with
    | nil=>intro Q;exact ⟨rfl,rfl⟩
    | cons m l ih=>intro Q;obtain ⟨h1,h2⟩:=ih (dL ok t n m Q);obtain ⟨h3,h4⟩:=iC ok t n m Q;exact ⟨h1.trans h3,h2.trans h4⟩
   exact this _ _
theorem Az(ok:Bool)(t:Tm):∀ n pid P,PE P->PE (dL ok t n pid P)/\(dL ok t n pid P).ai.length<=P.ai.length
 | 0,_,P,h=>⟨h,aT _⟩
 | n+1,pid,P,h=>by
  rw [dL]
  split
  ·exact ⟨h,aT _⟩
  rename_i c
  have c:¬bX pid 0 P.ai<0:=by simpa using c
  have aS:=fG pid P.ai 0
  have hi:(bX pid 0 P.ai).toNat<P.ai.length:=by omega
  have hc:=mh hi
  have h1:PE ⟨P.code,(eX (bX pid 0 P.ai).toNat P.ai).map (gZ pid),P.next,fN P.out 3 pid t⟩:=by
   refine ⟨by simp;have:=h.1;omega,Ay h.2.1,λA hA=>?_⟩
   obtain ⟨B,hB,rfl⟩:=dR.1 hA
   exact gi kD (h.2.2 B (mi hB))
  split
  ·exact ⟨h1,by simp;omega⟩
  ·have:∀ (l:List Int) (Q:Pl),PE Q->PE (l.foldl (λQ m=>dL ok t n m Q) Q)/\(l.foldl (λQ m=>dL ok t n m Q) Q).ai.length<=Q.ai.length:=by
    intro l
    induction l with
    | nil=>intro Q hQ;exact ⟨hQ,aT _⟩
    | cons m l ih=>
     intro Q hQ
     obtain ⟨h1,h2⟩:=Az ok t n m Q hQ
     obtain ⟨h3,h4⟩:=ih _ h1
     exact ⟨h3,gi h4 h2⟩
   obtain ⟨h2,h3⟩:=this (P.ai.getD (bX pid 0 P.ai).toNat a0).aw _ h1
   exact ⟨h2,gi h3 (by simp;omega)⟩
theorem b_.rn{U:Fp}{h2:AH}{a':Option Addr}(x:b_ base F C h A cs)(k:KB U h h2)(hU:∀ b,C b->¬U b)(o:bQ base 3 h2 a' (iv .i64 zs))(hd:∀ b,bK a' b->¬C b):b_ base F (λb=>C b\/bK a' b) h2 ⟨A.pid,A.pc,A.aH,A.box,zs⟩ (setAt cs 4 [.slice a' zs.length zs.length]):=by
 obtain ⟨ra,rb,rc,S1,S2,S3,rfl,q1,q2,q3,qg,t1,t2,t3,d12,d13,d23⟩:=x
 exact ⟨ra,rb,a',S1,S2,bK a',rfl,q1.ax (bM.kp _ _) k λb hb=>hU b (t1 b hb),q2.ax (bM.kp _ _) k λb hb=>hU b (t2 b hb),o,λ_ h=>h,λb hb=>.inl (t1 b hb),λb hb=>.inl (t2 b hb),λb hb=>.inr hb,d12,λb h1 h2=>hd b h2 (t1 b h1),λb h1 h2=>hd b h2 (t2 b h1)⟩
theorem DX{f:α->α}{l:List α}(h:i<l.length):((l.take i).map f++l.drop i).set i (f l[i])=(l.take (i+1)).map f++l.drop (i+1):=by
 rw [uq _ _ (by simp only [pF,iV];omega),dJ h]
 have:i-((l.take i).map f).length=0:=by rw [pF,iV];omega
 rw [this,Ht,ed h,List.map_append]
 simp
theorem Hu{f:α->α}{l:List α}(h:i<l.length)(h2:i<((l.take i).map f++l.drop i).length):((l.take i).map f++l.drop i)[i]=l[i]:=by
 rw [List.getElem_append_right (by simp only [pF,iV];omega)]
 have:i-((l.take i).map f).length=0:=by rw [pF,iV];omega
 simp only [this,List.getElem_drop]
 simp
theorem DY{tb:Nat}{lk:Option Addr}{lm:Nat}(hl:P.ai.length<=1048576)(th:∀ A∈P.ai,A.aw.length<=1048576){h0:AH}:∀ (n i:Nat) (h:AH) (S:Fp),i+n=P.ai.length->Hs base V h0 h [(pb,32,dK a P.code.length b P.ai.length P.next g P.out.length)] [jg base F S ((P.ai.take i).map (gZ v)++P.ai.drop i) b] ->
  Wp (aF (C6 base) [some (.pointer (ap pb)),some (.int .i64 v),some (.pointer (ap tb)),some (.slice lk lm lm),some (.int .i64 (i:Int))] h) λo=>o.1=2/\o.2.1 = [some (.pointer (ap pb)),some (.int .i64 v),some (.pointer (ap tb)),some (.slice lk lm lm)]/\∃ S',Hs base V h0 o.2.2 [(pb,32,dK a P.code.length b P.ai.length P.next g P.out.length)] [jg base F S' (P.ai.map (gZ v)) b]:=by
 intro n
 induction n with
 | zero=>
  intro i h S hi d
  have lL:i=P.ai.length:=by omega
  subst lL
  rw [cG (aT _),sM (aT _),List.append_nil] at d
  suffices w:Wp (C6 base [some (.pointer (ap pb)),some (.int .i64 v),some (.pointer (ap tb)),some (.slice lk lm lm),some (.int .i64 (P.ai.length:Int))] h) λo=>o=(2,[some (.pointer (ap pb)),some (.int .i64 v),some (.pointer (ap tb)),some (.slice lk lm lm)],h) by
   obtain ⟨o,e,rfl⟩:=w
   exact ⟨_,aC (by decide) e,rfl,rfl,S,d⟩
  rw [C8]
  ((with_reducible repeat first|refine W.a1 d ?_|refine W.bo ?_))
  exact W.aU (by simp) (W.ret rfl)
 | succ n ih=>
  intro i h S hi d
  have aS:i<P.ai.length:=by omega
  have jl:i<((P.ai.take i).map (gZ v)++P.ai.drop i).length:=by simp;omega
  suffices w:Wp (C6 base [some (.pointer (ap pb)),some (.int .i64 v),some (.pointer (ap tb)),some (.slice lk lm lm),some (.int .i64 (i:Int))] h) λo=>o.1=0/\o.2.1 = [some (.pointer (ap pb)),some (.int .i64 v),some (.pointer (ap tb)),some (.slice lk lm lm),some (.int .i64 ((i+1:Nat):Int))]/\∃ S',Hs base V h0 o.2.2 [(pb,32,dK a P.code.length b P.ai.length P.next g P.out.length)] [jg base F S' ((P.ai.take (i+1)).map (gZ v)++P.ai.drop (i+1)) b] by
   obtain ⟨⟨o1,o2,h'⟩,e,y1,y2,S',d'⟩:=w
   simp only at y1 y2 d'
   subst y1;subst y2
   obtain ⟨o,eo,q⟩:=ih (i+1) h' S' (by omega) d'
   exact ⟨o,bl e eo,q⟩
  have nP:=d.fK (i:=0) rfl
  have row:a_ base 53 5 (b_ base F) S h _ b:=d.rs (i:=0) rfl
  obtain ⟨C,OJ,ad,hA,nI,rfl,cells,oX,pA,wi,mod⟩:=row.mod (b_.kp _ _) (by decide) jl nP
  rw [Hu aS] at hA
  have NM:=hA
  obtain ⟨ra,rb,rc,rfl⟩:=hA.gY
  obtain ⟨_,_,rc',_,_,S3,bV,_,_,q3,qg,_,_,t3,_⟩:=hA
  injection bV with _ bV
  injection bV with _ bV
  injection bV with _ bV
  injection bV with _ bV
  injection bV with bV _
  injection bV with bV _ _
  subst bV
  rw [C8]
  ((with_reducible repeat first|refine W.a1 d ?_|refine W.bo ?_))
  refine W.aE (decide_eq_true (by show (i:Int)<(P.ai.length:Int);omega)) ?_
  ((with_reducible repeat first|refine W.a1 d ?_|refine W.bo ?_|refine W.a8 ?_))
  rw [aM]
  refine W.bS (cells 4 _ rfl) ?_
  have YC:=th _ (aQ aS)
  obtain ⟨a2,h2,e2,o2,k2,f2⟩:=DV (base:=base) (v:=v) (zs:=P.ai[i].aw) (by omega) q3.sl d.ge
  have d:=d.call k2 (bK a2) (λy=>bQ base 3 y a2 (iv .i64 (bW v P.ai[i].aw))) o2 (λU y y' k hs x=>bQ.ax x k hs) (λb hb=>⟨f2 b hb,(o2.lt hb).2⟩)
  refine W.bs e2 ?_
  ((try simp only [n1,n2,n3,n4,n5,n6] at d);(with_reducible repeat first|refine W.a2 ?_|refine W.bo ?_|refine W.a6 d ?_|refine W.a8 ?_))
  obtain ⟨h3,e3,r3,k3,z3⟩:=mod bp (λb=>C b\/bK a2 b) h2 _ [.slice a2 (bW v P.ai[i].aw).length (bW v P.ai[i].aw).length] 4 (gZ v P.ai[i]) k2 (λb h=>(h:False).elim) (aT 5) (by simp) rfl (λh4 k4=>b_.rn NM (KB.trans (T:=(· = ad.block)) k2 k4 (λ_ _ h=>(h:False).elim) λ_ _ h=>h) (λb hb e=>wi (e ▸ hb)) ((d.rs (i:=1) rfl:bQ base 3 h2 a2 _).ax k4 λb hb e=>by have:=f2 b hb;have:=nP _ pA;omega) (λb hb hc=>by have:=f2 b hb;have:=nP _ (oX b hc);omega)) (λb hb hs=>hb.resolve_right λhc=>by have:=f2 b hc;have:=nP _ hs;omega)
  refine W.bs e3 ?_
  skip
  rw [bm (n:=(i:Int)+1) (by omega) (by omega)]
  refine W.ret ⟨rfl,rfl,λb=>S b\/C b\/bK a2 b,?_⟩
  rw [DX aS] at r3
  exact (d.oT (b_.kp _ _) (fz.at (i:=1) rfl) (fz.at (i:=0) rfl) rfl rfl (k3.mono λb _ h=>h) r3 (λb hb=>.inl (hb ▸ pA)) (λb hb=>hb.elim .inl λhb=>hb.elim (λhb=>.inl (oX b hb)) λhb=>.inr (.inl hb))).kP 1
theorem Vg{a c e:Rs}{l:List Rs}(hc:c.mu=true)(he:e.mu=true)(ha:a.mu=false):∀ r∈[a,c,e],r.mu=false->∃ r0∈a :: l,r0.mu=false/\r0.S=r.S:=by
 intro r hr hm
 simp only [bn,kl,or_false] at hr
 rcases hr with rfl|rfl|rfl
 ·exact ⟨_,.head _,ha,rfl⟩
 ·rw [hc] at hm;cases hm
 ·rw [he] at hm;cases hm
def pz(k n:Int)(s:ByteArray)(m:Nat):Bool:=Nw k n s m (⟨#[111,107]⟩:ByteArray)
def Hv(base F f pb:Nat)(p:Fp)(t:Tm)(k0 m0:Int)(s0:ByteArray)(ta:Option Addr)(tl:Nat)(ok:Bool)(G n:Nat):Prop:=∀ (P:Pl) (pid:Int) (a b g:Option Addr) (S So V:Fp) (h0 h:AH),P.ai.length<=n->PE P->Hs base V h0 h [(pb,32,dK a P.code.length b P.ai.length P.next g P.out.length)] [pE p λy=>cD y p f t (ah k0 m0 s0 ta tl),jg base F S P.ai b,o0 base f So P.out g] ->
 Wp (run (Et base) G [.pointer (ap pb),.int .i64 pid,.agg (ah k0 m0 s0 ta tl).toArray] h) λr=>r.1 = .tuple #[]/\∃ b' g' S' ja,Hs base V h0 r.2 [(pb,32,dK a P.code.length b' (dL ok t n pid P).ai.length P.next g' (dL ok t n pid P).out.length)] [pE p λy=>cD y p f t (ah k0 m0 s0 ta tl),jg base F S' (dL ok t n pid P).ai b',o0 base f ja (dL ok t n pid P).out g']
theorem AB{tb n:Nat}{p:Fp}{t:Tm}{k0 m0:Int}{s0:ByteArray}{tl:Nat}(hB:jJ f t)(ih:Hv base F f pb p t k0 m0 s0 ta tl (pz k0 m0 s0 tl) 91 n){ls:List Int}{lk:Option Addr}{A:AH->Prop}{h0:AH}(hA:∀ h,A h->Sl h lk (iv .i64 ls))(hls:ls.length<=1048576):∀ (m i:Nat) (h:AH) (b g:Option Addr) (S So:Fp) (P:Pl),i+m=ls.length->P.ai.length<=n->PE P->Hs base V h0 h [(pb,32,dK a P.code.length b P.ai.length P.next g P.out.length),(tb,56,ah k0 m0 s0 ta tl)] [pE p λy=>cD y p f t (ah k0 m0 s0 ta tl),jg base F S P.ai b,o0 base f So P.out g,⟨C,true,A⟩] ->
  Wp (aF (C5 base) [some (.pointer (ap pb)),some (.pointer (ap tb)),some (.slice lk ls.length ls.length),some (.int .i64 (i:Int))] h) λo=>o.1=4/\∃ b' g' S' ja,Hs base V h0 o.2.2 [(pb,32,dK a P.code.length b' (if pz k0 m0 s0 tl=true then P else (ls.drop i).foldl (λQ m=>dL (pz k0 m0 s0 tl) t n m Q) P).ai.length P.next g' (if pz k0 m0 s0 tl=true then P else (ls.drop i).foldl (λQ m=>dL (pz k0 m0 s0 tl) t n m Q) P).out.length),(tb,56,ah k0 m0 s0 ta tl)] [pE p λy=>cD y p f t (ah k0 m0 s0 ta tl),jg base F S' (if pz k0 m0 s0 tl=true then P else (ls.drop i).foldl (λQ m=>dL (pz k0 m0 s0 tl) t n m Q) P).ai b',o0 base f ja (if pz k0 m0 s0 tl=true then P else (ls.drop i).foldl (λQ m=>dL (pz k0 m0 s0 tl) t n m Q) P).out g',⟨C,true,A⟩]:=by
 intro m
 induction m with
 | zero=>
  intro i h b g S So P hi hn hP d
  have lL:i=ls.length:=by omega
  subst lL
  have e0:(if pz k0 m0 s0 tl=true then P else (ls.drop ls.length).foldl (λQ m=>dL (pz k0 m0 s0 tl) t n m Q) P)=P:=by
   rw [sM (aT _)];split<;>rfl
  rw [e0]
  suffices w:Wp (C5 base [some (.pointer (ap pb)),some (.pointer (ap tb)),some (.slice lk ls.length ls.length),some (.int .i64 (ls.length:Int))] h) λo=>o=(4,[],h) by
   obtain ⟨o,e,rfl⟩:=w
   exact ⟨_,aC (by decide) e,rfl,b,g,S,So,d⟩
  rw [C7]
  skip
  refine W.join (W.aU (by simp) (W.il ?_))
  ((with_reducible repeat refine W.a2 ?_))
  exact W.aU (by decide) (W.ret rfl)
 | succ m ihm=>
  intro i h b g S So P hi hn hP d
  have aS:i<ls.length:=by omega
  suffices w:Wp (C5 base [some (.pointer (ap pb)),some (.pointer (ap tb)),some (.slice lk ls.length ls.length),some (.int .i64 (i:Int))] h) λo=>if pz k0 m0 s0 tl=true then (∃ h',o=(4,[],h')/\Hs base V h0 h' [(pb,32,dK a P.code.length b P.ai.length P.next g P.out.length),(tb,56,ah k0 m0 s0 ta tl)] [pE p λy=>cD y p f t (ah k0 m0 s0 ta tl),jg base F S P.ai b,o0 base f So P.out g,⟨C,true,A⟩]) else o.1=0/\o.2.1 = [some (.pointer (ap pb)),some (.pointer (ap tb)),some (.slice lk ls.length ls.length),some (.int .i64 ((i+1:Nat):Int))]/\∃ b' g' S' ja,Hs base V h0 o.2.2 [(pb,32,dK a P.code.length b' (dL (pz k0 m0 s0 tl) t n ls[i] P).ai.length P.next g' (dL (pz k0 m0 s0 tl) t n ls[i] P).out.length),(tb,56,ah k0 m0 s0 ta tl)] [pE p λy=>cD y p f t (ah k0 m0 s0 ta tl),jg base F S' (dL (pz k0 m0 s0 tl) t n ls[i] P).ai b',o0 base f ja (dL (pz k0 m0 s0 tl) t n ls[i] P).out g',⟨C,true,A⟩] by
   obtain ⟨⟨o1,o2,h'⟩,e,q⟩:=w
   by_cases c:pz k0 m0 s0 tl=true
   ·rw [if_pos c] at q
    obtain ⟨h2,e2,d2⟩:=q
    injection e2 with e3 e4
    injection e4 with e4 e5
    subst e3;subst e4;subst e5
    refine ⟨_,aC (by decide) e,rfl,b,g,S,So,?_⟩
    rw [if_pos c]
    exact d2
   ·rw [if_neg c] at q
    obtain ⟨y1,y2,b',g',S',ja,d'⟩:=q
    simp only at y1 y2 d'
    subst y1;subst y2
    obtain ⟨q1,q2⟩:=Az (pz k0 m0 s0 tl) t n ls[i] P hP
    obtain ⟨q3,q4⟩:=iC (pz k0 m0 s0 tl) t n ls[i] P
    obtain ⟨o,eo,q⟩:=ihm (i+1) h' b' g' S' ja (dL (pz k0 m0 s0 tl) t n ls[i] P) (by omega) (by omega) q1 (by rw [q3,q4];exact d')
    refine ⟨o,bl e eo,?_⟩
    rw [if_neg c] at q ⊢
    rw [q3,q4] at q
    rw [dJ aS,List.foldl_cons]
    exact q
  rw [C7]
  skip
  refine W.join (W.aE (decide_eq_true (by omega)) ?_)
  ((with_reducible repeat refine W.a1 d ?_))
  obtain ⟨h1,e1,k1⟩:=vC (base:=base) (h:=h) (w:=(⟨#[111,107]⟩:ByteArray)) d.ge
  have d:=d.kN k1
  refine W.bs e1 ?_
  ((with_reducible repeat first|refine W.a2 ?_|refine W.a6 d ?_))
  obtain ⟨h2,e2,k2⟩:=sF (base:=base) (h:=h1) (k:=k0) (n:=m0) (s:=s0) (a:=ta) (m:=tl) (w:=(⟨#[111,107]⟩:ByteArray)) d.ge
  have d:=d.kN k2
  refine W.bs e2 ?_
  ((with_reducible repeat refine W.a2 ?_))
  refine W.il ?_
  ((with_reducible repeat refine W.a2 ?_))
  show Wp (if (!pz k0 m0 s0 tl)=true then _ else _) _
  by_cases c:pz k0 m0 s0 tl=true
  ·refine W.aU (by rw [c];decide) (W.ret ?_)
   rw [if_pos c]
   exact ⟨_,rfl,d⟩
  ·refine W.aE (by simpa using c) (W.aE ⟨by omega,by omega⟩ ?_)
   rw [aM]
   refine W.ri (hA _ (d.rs (i:=3) rfl)) aS ?_
   ((with_reducible repeat refine W.a1 d ?_))
   have d1:=Hs.part (D1:=[_]) (R1:=[_,_,_]) d
   refine W.wb (ih P ls[i] a b g S So _ _ _ hn hP d1) ?_
   rintro ⟨u,h3⟩ ⟨y1,b',g',S',ja,d3⟩
   simp only at y1 d3
   subst y1
   have d:=Hs.back (D1:=[_]) (R1:=[_,_,_]) d d3 (Vg rfl rfl rfl)
   ((try simp only [n1,n2,n3,n4,n5,n6] at d);(with_reducible repeat refine W.a3 ?_))
   rw [bm (n:=(i:Int)+1) (by omega) (by omega)]
   refine W.ret ?_
   rw [if_neg c]
   exact ⟨rfl,rfl,b',g',S',ja,d⟩
theorem mj:∀ S h x cs,b_ base F S h x cs->cs.all leaf=true:=λS h x cs y=>by
 obtain ⟨ra,rb,rc,rfl⟩:=y.gY
 rfl
theorem Sl.at{h:AH}{a:Option Addr}{vs:List Value}{i:Nat}{v:Value}(x:Sl h a vs)(e:vs[i]? = some v):∃ ad,a=some ad/\Am.cell h ad.block (ad.off+i)=some v:=by
 rcases x with rfl|⟨ad,k,rfl,e2,e3,e4⟩
 ·simp at e
 ·exact ⟨ad,rfl,by simp [Am.cell,e2,e4 _ _ e]⟩
theorem tn{p:Fp}{t:Tm}{k0 m0:Int}{s0:ByteArray}{tl:Nat}(hB:jJ f t):∀ n,Hv base F f pb p t k0 m0 s0 ta tl (pz k0 m0 s0 tl) 91 n:=by
 intro n
 induction n with
 | zero=>
  intro P pid a b g S So V h0 h hn hP d
  have hz:P.ai = []:=iL (by omega)
  refine W.of (λr hx=>Am.r91 hx) ?_
  ((refine W.nD d λh1 d _ vQ=>?_);(with_reducible repeat first|refine W.a1 d ?_|refine W.bo ?_))
  obtain ⟨h2,e2,k2⟩:=jt (base:=base) (P:=P) (v:=pid) (a:=a) (g:=g) (by omega) (a_.wj (d.rs (i:=1) rfl)) d.ge
  have d:=d.kN k2
  refine W.bs e2 ?_
  ((with_reducible repeat refine W.a2 ?_))
  refine W.aE (by rw [hz];rfl) (W.ret ⟨rfl,b,g,S,So,?_⟩)
  exact d.tl
 | succ n ih=>
  intro P pid a b g S So V h0 h hn hP d
  obtain ⟨p1,p2,p3⟩:=hP
  refine W.of (λr hx=>Am.r91 hx) ?_
  ((refine W.nD d λh1 d _ vQ=>?_);(with_reducible repeat first|refine W.a1 d ?_|refine W.bo ?_))
  obtain ⟨h2,e2,k2⟩:=jt (base:=base) (P:=P) (v:=pid) (a:=a) (g:=g) (by omega) (a_.wj (d.rs (i:=1) rfl)) d.ge
  have d:=d.kN k2
  refine W.bs e2 ?_
  ((with_reducible repeat refine W.a2 ?_))
  refine W.ite (λc=>?_) (λc=>?_)
  ·refine W.ret ⟨rfl,b,g,S,So,?_⟩
   rw [dL,if_pos c]
   exact d.tl
  have aS:=fG pid P.ai 0
  have c':¬bX pid 0 P.ai<0:=by simpa using c
  have hi:(bX pid 0 P.ai).toNat<P.ai.length:=by omega
  obtain ⟨q,eq⟩:∃ q,(bX pid 0 P.ai).toNat=q:=⟨_,rfl⟩
  have Zy:bX pid 0 P.ai=(q:Int):=by omega
  rw [eq] at hi
  rw [Zy] at c ⊢
  ((with_reducible repeat first|refine W.a1 d ?_|refine W.bo ?_|refine W.a8 ?_))
  rw [aM]
  have AD:a_ base 53 5 (b_ base F) S h2 P.ai b:=d.rs (i:=1) rfl
  have YD:kS base h2 b 53:=by obtain ⟨_,_,o,_⟩:=AD;exact kS.own o
  obtain ⟨vs,T,er,ev,xA,hT,hTb,ch⟩:=AD.Nu mj (by decide)
  have YE:=ch.leaf mj (by decide) ev
  obtain ⟨CC,_,_,c3⟩:=ch
  obtain ⟨ra,rb,rc,ech⟩:=(c3 q _ (List.getElem?_eq_getElem hi)).gY
  have hq5:q*5+4<vs.length:=by omega
  have e4:vs[q*5+4]? = some (.slice rc P.ai[q].aw.length P.ai[q].aw.length):=by
   have:(chunk 5 q vs)[4]? = some (.slice rc P.ai[q].aw.length P.ai[q].aw.length):=by rw [ech];rfl
   rw [chunk,bJ (by decide),bZ] at this
   exact this
  obtain ⟨ad,rfl,g4⟩:=xA.at e4
  refine W.bs rfl (W.bS g4 ?_)
  ((refine W.nD d λh3 d _ Ep=>?_);(with_reducible repeat first|refine W.a1 d ?_|refine W.bo ?_|refine W.a7 ?_))
  have ok3:=YD.aj Ep
  have xA:Sl h3 (some ad) vs:=xA.aj Ep
  have er:br h3 (some ad) (P.ai.length*5)=some vs:=kV Ep (λ_ _ h=>h) er
  have er1:br h3 (dm (some ad) (0*5)) ((q-0)*5)=some (vs.take (q*5)):=by
   have:=kW (n:=0) (m:=q*5) xA YE (by omega)
   rw [cH] at this
   simpa using this
  refine W.aE ⟨by omega,by omega,by show (q:Int)<=(P.ai.length:Int);omega,rfl⟩ ?_
  rw [show af 0=0 from rfl,er1]
  have eN:∀ x,bK (some ad) x->x<h2.length:=λx hx=>by obtain ⟨rv,e',rfl⟩:=hx;injection e' with e';subst e';exact (YD ad rfl).1
  obtain ⟨a4,h4,S4,e4,d,hS4,k4,l4⟩:=Hs.Yy (n:=0) (m:=q) (sz:=5) (bytes:=88) d (by rfl) (by decide) (rfl:some (vs.take (q*5))=some _) (by omega) (by omega) (by simp;omega)
  simp only [cQ,kj,Nat.sub_zero] at e4 d ⊢
  refine W.bs e4 ?_
  have u4:∀ b,bK (some ad) b->¬b=h2.length:=λb hb=>by have:=eN b hb;omega
  have ok4:=ok3.ax k4 u4
  have xA:=xA.ax k4 λb hb hu=>u4 b hb hu
  have er:=kV k4 u4 er
  ((try simp only [n1,n2,n3,n4,n5,n6] at d);(with_reducible repeat first|refine W.a1 d ?_|refine W.a2 ?_|refine W.bo ?_|refine W.a6 d ?_|refine W.a7 ?_))
  refine W.gt (YD.ne (aT _)) (W.gt (ok3.Ho k4 u4) ?_)
  rw [bm (n:=(q:Int)+1) (by omega) (by omega)]
  refine W.aE ⟨by omega,by show (q:Int)+1<=(P.ai.length:Int);omega,gb _,ok4.ok _⟩ ?_
  have eq1:af ((q:Int)+1)=q+1:=by omega
  have er2:br h4 (dm (some ad) ((q+1)*5)) ((P.ai.length-(q+1))*5)=some (vs.drop ((q+1)*5)):=by
   have:=kW (n:=(q+1)*5) (m:=(P.ai.length-(q+1))*5) xA YE (by omega)
   rw [this,cG (by simp;omega)]
  simp only [eq1,aM]
  rw [er2]
  obtain ⟨a5,h5,e5,d,q5,k5⟩:=d.YA (i:=3) (w:=5) (n:=q) (m:=P.ai.length-(q+1)) (bytes:=88) rfl hS4 (rfl:some (vs.drop ((q+1)*5))=some _) (by decide) (by simp;omega) (by simp;omega) (by omega) (by omega)
  refine W.bs e5 ?_
  have u5:∀ b,bK (some ad) b->¬S4 b:=λb hb hs=>by have:=eN b hb;have:=l4 b hs;omega
  have er:=kV k5 u5 er
  obtain ⟨C,S5,d,hC,hS5⟩:=d.cut (b_.kp _ _) (i:=1) (j:=3) (q:=q) rfl hi mj (by decide) er (by decide) rfl (λb h=>h)
  ((try simp only [n1,n2,n3,n4,n5,n6] at d);(with_reducible repeat first|refine W.a2 ?_|refine W.bo ?_|refine W.a5 d λhw d lw kw=>?_))
  have ecl:q+(P.ai.length-(q+1))=(eX q P.ai).length:=by have:=mh hi;omega
  have ala:=mh hi
  have d:=d.front (.there .here)
  simp only [ecl] at d ⊢
  have d:Hs base V h0 hw [(pb,32,dK a P.code.length a5 (eX q P.ai).length P.next g P.out.length),(h.length,56,ah k0 m0 s0 ta tl)] [pE p λy=>cD y p f t (ah k0 m0 s0 ta tl),jg base F S5 (eX q P.ai) a5,o0 base f So P.out g,⟨C,true,λx=>b_ base F C x P.ai[q] (chunk 5 q vs)⟩]:=d
  have d:=d.cJ (gJ.at (i:=1) rfl)
  have d1:=Hs.part (D1:=[_]) (R1:=[_]) d
  have w1:=DY (base:=base) (F:=F) (pb:=pb) (tb:=h.length) (P:=⟨P.code,eX q P.ai,P.next,P.out⟩) (a:=a) (b:=a5) (g:=g) (lk:=rc) (lm:=P.ai[q].aw.length) (v:=pid) (by show (eX q P.ai).length<=_;omega) (λA hA=>p3 A (mi hA)) (eX q P.ai).length 0 hw S5 (by show 0+(eX q P.ai).length=(eX q P.ai).length;omega) (by simpa using d1)
  refine W.wb w1 ?_
  rintro ⟨o1,o2,h6⟩ ⟨y1,y2,S6,d6⟩
  simp only at y1 y2 d6
  subst y1;subst y2
  have d:=Hs.back (D1:=[_]) (R1:=[_]) d d6 (λr hr hm=>by simp only [bn,kl,or_false] at hr;subst hr;cases hm)
  have d:=d.cJ (gJ.at (i:=1) rfl)
  refine W.aE rfl ?_
  ((try simp only [n1,n2,n3,n4,n5,n6] at d);(with_reducible repeat first|refine W.a1 d ?_|refine W.a2 ?_|refine W.bo ?_))
  obtain ⟨a7,h7,e7,r7,k7,n7⟩:=oW (base:=base) (f:=f) h6 So P.out g 3 pid p t k0 m0 s0 ta tl (d.rs (i:=2) rfl) p2 (d.rs (i:=0) rfl) hB (d.fK (i:=2) rfl) (d.fK (i:=0) rfl) d.ge
  have vU:a_ base 82 6 (gz f) So h6 P.out g:=d.rs (i:=2) rfl
  have d:=d.IK (gz.kp _) (fz.at (i:=2) rfl) rfl k7 r7 (λb hb=>.inl (vU.IY b hb)) (λb hb=>hb)
  refine W.bs e7 ?_
  ((try simp only [n1,n2,n3,n4,n5,n6] at d);(with_reducible repeat first|refine W.a2 ?_|refine W.bo ?_|refine W.a5 d λhw d lw kw=>?_))
  have em:((eX q P.ai).map (gZ pid)).length=(eX q P.ai).length:=pF _
  have d:Hs base V h0 hw [(pb,32,dK a P.code.length a5 (eX q P.ai).length P.next a7 (fN P.out 3 pid t).length),(h.length,56,ah k0 m0 s0 ta tl)] [pE p λy=>cD y p f t (ah k0 m0 s0 ta tl),jg base F S6 ((eX q P.ai).map (gZ pid)) a5,o0 base f (λb=>So b\/(h6.length<=b/\b<h7.length)) (fN P.out 3 pid t) a7,⟨C,true,λx=>b_ base F C x P.ai[q] (chunk 5 q vs)⟩]:=d
  rw [<- em] at d
  have hA:∀ y,b_ base F C y P.ai[q] (chunk 5 q vs)->Sl y rc (iv .i64 P.ai[q].aw):=λy x=>by
   obtain ⟨_,_,rc',_,_,S3,bV,_,_,q3,_⟩:=x
   rw [ech] at bV
   injection bV with _ bV
   injection bV with _ bV
   injection bV with _ bV
   injection bV with _ bV
   injection bV with bV _
   injection bV with bV _ _
   subst bV
   exact q3.sl
  have hPE:PE ⟨P.code,(eX q P.ai).map (gZ pid),P.next,fN P.out 3 pid t⟩:=by
   refine ⟨by show ((eX q P.ai).map (gZ pid)).length<=_;omega,Ay p2,λA hA=>?_⟩
   obtain ⟨B,hB,rfl⟩:=dR.1 hA
   exact gi kD (p3 B (mi hB))
  refine W.wb (AB (base:=base) hB ih (A:=λx=>b_ base F C x P.ai[q] (chunk 5 q vs)) hA (p3 _ (aQ hi)) P.ai[q].aw.length 0 hw a5 a7 S6 _ ⟨P.code,(eX q P.ai).map (gZ pid),P.next,fN P.out 3 pid t⟩ (by omega) (by show ((eX q P.ai).map (gZ pid)).length<=_;omega) hPE d) ?_
  rintro ⟨o1,o2,h8⟩ ⟨y1,b8,g8,S8,So8,d8⟩
  simp only at y1 d8
  subst y1
  refine W.aE rfl (W.ret ⟨rfl,b8,g8,S8,So8,?_⟩)
  have ee:dL (pz k0 m0 s0 tl) t (n+1) pid P=if pz k0 m0 s0 tl=true then ⟨P.code,(eX q P.ai).map (gZ pid),P.next,fN P.out 3 pid t⟩ else (P.ai[q].aw.drop 0).foldl (λQ m=>dL (pz k0 m0 s0 tl) t n m Q) ⟨P.code,(eX q P.ai).map (gZ pid),P.next,fN P.out 3 pid t⟩:=by
   rw [dL,Zy,if_neg c,aM,aD hi,cH]
  rw [ee]
  have d9:=(d8.front (.there .here)).tl
  exact d9.kP 3
def IZ(w:Int):Int:=if w<0 then 0 else w % 8
def AE(w:Int):Int:=if w<0 then 0 else w / 8
def mkW(t v:Int):Int:=if dx t 0 6=true then (if dx v 0 4000000=true then t+8*v else 0) else 0
structure Gn where
 pJ:List Int
 ml:List Int
 mark:Int
def wOk(n:Int):Prop:=-9223372036854775808<=n/\n<=9223372036854775807
def Gn.Ok(G:Gn):Prop:=G.pJ.length<=1048576/\G.ml.length<=1048576/\(∀ n∈G.pJ,wOk n)/\∀ n∈G.ml,wOk n
def ati(l:List Int)(p:Int):Option Int:=if 0<=p then l[p.toNat]? else none
def gwd(G:Gn)(p:Int):Option Int:=if 100000<=p then ati G.ml (p-100000) else ati G.pJ p
def aeB(w:Int):Bool:=dx (IZ w) 4 6
def prt(G:Gn)(p:Int):Int:=if p<100000 then 0 else if p-100000<G.mark then 1 else 2
theorem p1:(128:Int) ^ 1=128:=by decide
theorem p2:(128:Int) ^ 2=16384:=by decide
theorem Hs.mn{W:Fp}{h0:AH}(d:Hs base W h0 h D R)(n:Nat):Hs base W h0 h (D.take n) R:=
 ⟨d.ge,d.kb,λx hx=>d.own x (um hx),by rw [List.map_take];exact d.nd.sublist (List.take_sublist _ _),λr hr=>by
  obtain ⟨r1,r2,r3,r4,r5⟩:=d.iH r hr
  exact ⟨r1,r2,r3,r4,λx hx=>r5 x (um hx)⟩,d.dj⟩
theorem kS.lt(x:kS base h a t):∀ b,bK a b->b<h.length:=λb ⟨ad,e,e2⟩=>e2 ▸ (x ad e).1
def wid(G:Gn)(w:Int):Int:=if IZ w=5 then 2 else (gwd G (AE w)).getD 0+1
structure Sw where
 pJ:List Int
 ml:List Int
 wn:Int->Option Int
def Sw.len(σ:Sw)(o:Bool):Nat:=if o=true then σ.pJ.length else σ.ml.length
def Sw.app(σ:Sw)(o:Bool)(l:List Int):Sw:=if o=true then ⟨σ.pJ++l,σ.ml,σ.wn⟩ else ⟨σ.pJ,σ.ml++l,σ.wn⟩
def Sw.set(σ:Sw)(o:Bool)(i:Nat)(x:Int):Sw:=if o=true then ⟨σ.pJ.set i x,σ.ml,σ.wn⟩ else ⟨σ.pJ,σ.ml.set i x,σ.wn⟩
def Sw.put(σ:Sw)(p v:Int):Sw:=⟨σ.pJ,σ.ml,λq=>if q=p then some v else σ.wn q⟩
def alb(G:Gn)(w:Int):List Int:=(dM (wid G w).toNat).map λ(i:Nat)=>(gwd G (AE w+(i:Int))).getD 0
def alc(w:Int)(i:Nat):Bool:=IZ w==5||(IZ w==4&&decide (0<i))
def F7(G:Gn)(w:Int)(o:Bool)(at_:Nat)(go:Int->Sw->Int×Sw):Nat->Nat->Sw->Sw
 | 0,_,σ=>σ
 | r+1,i,σ=>
  if alc w i=true then F7 G w o at_ go r (i+1) ((go ((gwd G (AE w+(i:Int))).getD 0) σ).2.set o (at_+i) (go ((gwd G (AE w+(i:Int))).getD 0) σ).1)
  else F7 G w o at_ go r (i+1) (σ.set o (at_+i) ((gwd G (AE w+(i:Int))).getD 0))
def plc(o:Bool)(n:Nat):Int:=if o=true then (n:Int) else 100000+(n:Int)
def YF(G:Gn)(all:Bool)(w:Int):Bool:=all||prt G (AE w)==1
def stay(G:Gn)(all:Bool)(w:Int):Bool:=!aeB w||(prt G (AE w)==0 && !all)
def cp(fill:Bool)(G:Gn)(all:Bool):Nat->Int->Sw->Int×Sw
 | 0,w,σ=>(w,σ)
 | n+1,w,σ=>if stay G all w=true then (w,σ) else
  match σ.wn (AE w) with
  | some v=>(mkW (IZ w) v,σ)
  | none=>(mkW (IZ w) (plc (YF G all w) (σ.len (YF G all w))),
    F7 G w (YF G all w) (σ.len (YF G all w)) (cp fill G all n) (wid G w).toNat 0
     ((σ.app (YF G all w) (if fill=true then alb G w else List.replicate (wid G w).toNat 0)).put (AE w) (plc (YF G all w) (σ.len (YF G all w)))))
def Vh(D:Nat->Prop)(l m:List Int):Prop:=l.length=m.length/\∀ i,¬D i->l[i]? = m[i]?
structure Ag (D:Bool->Nat->Prop) (σ τ:Sw):Prop where
 o:Vh (D true) σ.pJ τ.pJ
 y:Vh (D false) σ.ml τ.ml
 w:σ.wn=τ.wn
theorem Vh.mono{D E:Nat->Prop}{m:List Int}(x:Vh D l m)(h:∀ i,D i->E i):Vh E l m:=⟨x.1,λi hi=>x.2 i λhd=>hi (h i hd)⟩
theorem Ag.mono{D E:Bool->Nat->Prop}{σ τ:Sw}(x:Ag D σ τ)(h:∀ o i,D o i->E o i):Ag E σ τ:=⟨x.o.mono (h true),x.y.mono (h false),x.w⟩
theorem Vh.set{D E:Nat->Prop}{m:List Int}(x:Vh D l m)(j:Nat)(v:Int)(h:∀ i,D i->i≠j->E i):Vh E (l.set j v) (m.set j v):=by
 refine ⟨by simp [x.1],λi hi=>?_⟩
 by_cases e:j=i
 ·subst e
  by_cases hj:j<l.length
  ·rw [vp hj,vp (by rw [<- x.1];exact hj)]
  ·rw [cE (by simp;omega),cE (by simp;rw [<- x.1];omega)]
 ·rw [qp e,qp e]
  exact x.2 i λhd=>hi (h i hd (Ne.symm e))
theorem Ag.set{D E:Bool->Nat->Prop}{σ τ:Sw}(x:Ag D σ τ)(o:Bool)(j:Nat)(v:Int)(h:∀ p i,D p i->¬(p=o/\i=j)->E p i):Ag E (σ.set o j v) (τ.set o j v):=by
 cases o
 ·exact ⟨x.o.mono λi hi=>h true i hi (by simp),x.y.set j v λi hi dv=>h false i hi (by simp;exact dv),x.w⟩
 ·exact ⟨x.o.set j v λi hi dv=>h true i hi (by simp;exact dv),x.y.mono λi hi=>h false i hi (by simp),x.w⟩
def plI(i:Nat):Int:=if i<1000 then (i:Int) else 100000+((i:Int)-1000)
def gone(σ:Sw):Nat:=(dM 2000).countP λi=>(σ.wn (plI i)).isSome
def Sw.In(σ:Sw):Prop:=σ.pJ.length+σ.ml.length<=1000+50*gone σ
theorem Sw.In.set{σ:Sw}(x:σ.In)(o:Bool)(i:Nat)(v:Int):(σ.set o i v).In:=by
 unfold Sw.In gone at x ⊢
 cases o<;>simpa [Sw.set] using x
structure Cx where
 pid:Int
 pc:Int
 aH:List Int
 box:List Int
 aw:List Int
 home:Int
def Cx.Le(C:Cx):Prop:=C.aH.length<=1048576/\C.box.length<=1048576/\C.aw.length<=1048576
theorem Hs.aeC{sz n:Nat}{h0:AH}{new:List Value}(d:Hs base V h0 h D R)(ei:R[i]? = some ⟨S,true,λx=>bQ base t x a dp⟩)(hS:∀ b,bK a b->S b)(hn:dp.length=n*sz)(jk:0<sz)(hs:src=some new)(h1:(n+m)*bytes<=140737488355328)(h2:n+m<=9223372036854775807)(hm:new.length=m*sz):
  ∃ a' h',Am.app base h t sz bytes a n src m=some (.slice a' (n+m) (n+m),h')/\Hs base V h0 h' D (R.set i ⟨bK a',true,λy=>bQ base t y a' (dp++new)⟩)/\KB (bK a) h h':=by
 obtain ⟨a',h',e,o,k,q⟩:=bQ.app (x:=d.rs ei) (bytes:=bytes) (m:=m) hn jk hs d.ge h1 h2 hm
 refine ⟨a',h',e,d.Ns (fz.at ei) rfl rfl k (λb hb=>.inl (hS b hb)) o (λU y y' ky hs x=>x.ax ky hs) (λb hb=>?_),k⟩
 rcases q with ⟨_,e,_⟩|q
 ·have hb:bK a' b:=hb
  rw [e] at hb
  exact .inl (hS b hb)
 ·have e:=q b hb
  have:=(o.lt hb).2
  exact .inr ⟨by omega,this⟩
abbrev rW(base:Nat)(a:Option Addr)(l:List Int):Rs:=⟨bK a,true,λy=>bQ base 3 y a (iv .i64 l)⟩
theorem I0(hj:j<l.length):setAt (iv .i64 l) j [.int .i64 v]=iv .i64 (l.set j v):=by
 unfold setAt iv
 rw [List.set_eq_take_append_cons_drop,if_pos hj]
 simp
theorem Hs.aeD{h0:AH}(d:Hs base V h0 h D R)(ei:R[i]? = some (rW base a l))(hj:j<l.length):
  ∃ ad h',a=some ad/\Am.wr base h ad.block (ad.off+j) [.int .i64 v]=some h'/\Hs base V h0 h' D (R.set i (rW base a (l.set j v)))/\KB (bK a) h h':=by
 obtain ⟨ad,h',ea,ew,ow,kw,_⟩:=bQ.wrA (d.rs ei:bQ base 3 h a (iv .i64 l)) (i:=j) (new:=[.int .i64 v]) (by simp;omega) (by simp)
 rw [I0 hj] at ow
 exact ⟨ad,h',ea,ew,d.Ns (r:=rW base a l) (r':=rW base a (l.set j v)) (fz.at ei) rfl rfl kw (λb hb=>.inl hb) ow (λU y y' k hs z=>z.ax k hs) (λb hb=>.inl hb),kw⟩
theorem Hs.YG{h0:AH}{new:List Int}(d:Hs base V h0 h D R)(ei:R[i]? = some (rW base a l))(hs:src=some (iv .i64 new))(hm:new.length=m)(hl:l.length+m<=1000000):
  ∃ a' h',Am.app base h 3 1 8 a l.length src m=some (.slice a' (l.length+m) (l.length+m),h')/\Hs base V h0 h' D (R.set i (rW base a' (l++new)))/\KB (bK a) h h':=by
 obtain ⟨a',h',e,d,k⟩:=d.aeC (i:=i) (n:=l.length) (m:=m) (sz:=1) (bytes:=8) ei (λb hb=>hb) (by simp) (by decide) hs (by omega) (by omega) (by simp [hm])
 rw [lX] at d
 exact ⟨a',h',e,d,k⟩
theorem Hs.aeE{b:Nat}{h0:AH}(d:Hs base V h0 h ((b,t,[]) :: D) R)(hs:src=some vs)(hm:vs.length=m)(h1:m<=1048576*4)(Vy:bytes<=16):
  ∃ a' h',Am.app base h t 1 bytes (ap b) 0 src m=some (.slice a' m m,h')/\Hs base V h0 h' D (R++[⟨bK a',true,λy=>bQ base t y a' vs⟩]):=by
 have d:=d.Hg (gJ.at (i:=0) rfl)
 simp only [n5,n6] at d
 have hbm:(0+m)*bytes<=140737488355328:=by
  have:(0+m)*bytes<=(1048576*4)*16:=Nat.mul_le_mul (by omega) Vy
  omega
 obtain ⟨a2,h2,e2,d,k2⟩:=d.aeC (i:=R.length) (n:=0) (m:=m) (sz:=1) (bytes:=bytes) (a:=ap b) (t:=t) (dp:=[]) (S:=(· = b)) (by simp) (λb hb=>(aG.1 hb)) (by simp) (by decide) hs hbm (by omega) (by omega)
 simp only [kj,cQ] at e2 d
 refine ⟨a2,h2,e2,?_⟩
 have e:∀ (x y:Rs),(R++[x]).set R.length y=R++[y]:=by intro x y;simp
 rw [e] at d
 exact d
theorem QH(x:Sl h a (iv .i64 l)):br h a (l.length*1)=some (iv .i64 l):=by
 have:=x.BK (t_ _ _)
 simpa using this
theorem Hs.NO{h0:AH}{R':List Rs}(d:Hs base V h0 h D R)(u:R'.Sublist R):Hs base V h0 h D R':=
 ⟨d.ge,d.kb,d.own,d.nd,λr hr=>d.iH r (u.subset hr),d.dj.sublist u⟩
theorem W.rj{Q:β->Prop}(hs:Sl h a (iv .i64 zs))(hi:i<zs.length){f:Int->Option β}(w:Wp (f zs[i]) Q):Wp (a.bind λad=>((Am.cell h ad.block (ad.off+i*1)).bind (au .i64)).bind f) Q:=by
 obtain ⟨ad,rfl,g⟩:=pD hs hi
 exact W.bs rfl (W.bI g w)
def kI(l:List Int)(v:Int):Nat->Nat
 | 0=>0
 | k+1=>if decide (l.getD k 0>v)=true then kI l v k else k+1
def gK(v:Int)(l:List Int):List Int:=if qs v l=true then l else l.take (kI l v l.length)++v :: l.drop (kI l v l.length)
theorem DZ{l:List Int}{v:Int}:∀ k,kI l v k<=k
 | 0=>aT _
 | k+1=>by
  rw [kI]
  split
  ·exact Nat.le_succ_of_le (DZ k)
  ·exact aT _
theorem uv{k:Nat}(h:k<=l.length):(l.take k++z :: l.drop k).length=l.length+1:=by simp;omega
theorem Hw{k:Nat}(h:k<l.length)(h2:k<(l.take (k+1)++z :: l.drop (k+1)).length):(l.take (k+1)++z :: l.drop (k+1))[k]=l.getD k 0:=by
 rw [List.getElem_append_left (by simp;omega)]
 simp [h]
theorem QI{k:Nat}(h:k<l.length):(l.take (k+1)++z :: l.drop (k+1)).set (k+1) (l.getD k 0)=l.take k++l.getD k 0 :: l.drop k:=by
 have e:l.take (k+1)=l.take k++[l.getD k 0]:=by rw [List.take_add_one];simp [h]
 have e2:l.drop k=l.getD k 0 :: l.drop (k+1):=by rw [dJ h];simp [h]
 rw [uq _ _ (by simp;omega)]
 have:k+1-(l.take (k+1)).length=0:=by simp;omega
 rw [this,Ht,e,e2]
 simp
theorem NP{k:Nat}(h:k<=l.length):(l.take k++z :: l.drop k).set k v=l.take k++v :: l.drop k:=by
 rw [uq _ _ (by simp;omega)]
 have:k-(l.take k).length=0:=by simp;omega
 rw [this,Ht]
theorem D0{h0:AH}(hl:l.length<=1000):∀ (k:Nat) (h:AH) (z:Int),k<=l.length->Hs base V h0 h [] [rW base a (l.take k++z :: l.drop k)] ->
  Wp (aF (vm base) [some (.int .i64 v),some (.slice a (l.length+1) (l.length+1)),some (.int .i64 (k:Int))] h) λo=>o.1=2/\o.2.1 = [some (.int .i64 v),some (.slice a (l.length+1) (l.length+1)),some (.int .i64 (kI l v k:Int))]/\∃ z',Hs base V h0 o.2.2 [] [rW base a (l.take (kI l v k)++z' :: l.drop (kI l v k))]:=by
 intro k
 induction k with
 | zero=>
  intro h z hk d
  suffices w:Wp (vm base [some (.int .i64 v),some (.slice a (l.length+1) (l.length+1)),some (.int .i64 ((0:Nat):Int))] h) λo=>o=(2,[some (.int .i64 v),some (.slice a (l.length+1) (l.length+1)),some (.int .i64 ((0:Nat):Int))],h) by
   obtain ⟨o,e,rfl⟩:=w
   exact ⟨_,aC (by decide) e,rfl,rfl,z,d⟩
  rw [xY]
  refine W.join (W.aU (by decide) (W.il ?_))
  ((with_reducible repeat refine W.a2 ?_))
  exact W.aU (by decide) (W.ret rfl)
 | succ k ih=>
  intro h z hk d
  have el:=uv (z:=z) hk
  have hS:Sl h a (iv .i64 (l.take (k+1)++z :: l.drop (k+1))):=bQ.sl (d.rs (i:=0) rfl:bQ base 3 h a _)
  suffices w:Wp (vm base [some (.int .i64 v),some (.slice a (l.length+1) (l.length+1)),some (.int .i64 ((k+1:Nat):Int))] h) λo=>if decide (l.getD k 0>v)=true then o.1=0/\o.2.1 = [some (.int .i64 v),some (.slice a (l.length+1) (l.length+1)),some (.int .i64 (k:Int))]/\Hs base V h0 o.2.2 [] [rW base a (l.take k++l.getD k 0 :: l.drop k)] else o=(2,[some (.int .i64 v),some (.slice a (l.length+1) (l.length+1)),some (.int .i64 ((k+1:Nat):Int))],h) by
   obtain ⟨⟨o1,o2,h'⟩,e,q⟩:=w
   rw [kI]
   by_cases c:decide (l.getD k 0>v)=true
   ·rw [if_pos c] at q
    obtain ⟨y1,y2,d'⟩:=q
    simp only at y1 y2 d'
    subst y1;subst y2
    obtain ⟨o,eo,q⟩:=ih h' _ (by omega) d'
    refine ⟨o,bl e eo,?_⟩
    rw [if_pos c]
    exact q
   ·rw [if_neg c] at q
    injection q with q1 q2
    injection q2 with q2 q3
    subst q1;subst q2;subst q3
    rw [if_neg c]
    exact ⟨_,aC (by decide) e,rfl,rfl,z,d⟩
  rw [xY]
  have e1:ag .i64 (((k+1:Nat):Int)-(1:Int))=(k:Int):=by
   rw [bm (by omega) (by omega)];omega
  refine W.join (W.aE (by simp) ?_)
  rw [e1]
  refine W.aE ⟨by omega,by omega⟩ ?_
  rw [aM]
  refine W.rj hS (by omega) ?_
  rw [Hw hk]
  refine W.il ?_
  ((with_reducible repeat refine W.a2 ?_))
  refine W.ite (λc=>?_) (λc=>?_)
  ·show Wp (if 0<=ag .i64 (((k+1:Nat):Int)-(1:Int))/\_ then _ else _) _
   rw [e1]
   refine W.aE ⟨by omega,by dsimp only;omega⟩ ?_
   rw [aM]
   refine W.rj hS (by omega) ?_
   rw [Hw hk]
   refine W.aE ⟨by omega,by dsimp only;omega⟩ ?_
   obtain ⟨ad,h2,ea,ew,d2,_⟩:=d.aeD (i:=0) (j:=k+1) (v:=l.getD k 0) rfl (by omega)
   subst ea
   rw [QI hk] at d2
   refine W.bo ?_
   rw [aM,kh]
   refine W.bs ew ?_
   exact W.ret (by rw [if_pos c];exact ⟨rfl,rfl,d2⟩)
  ·exact W.ret (by rw [if_neg c])
theorem F8(hl:l.length<=1000)(hs:Sl h a (iv .i64 l))(hb:base<=h.length):
  ∃ a' h',run (Et base) 121 [.slice a l.length l.length,.int .i64 v] h=some (.slice a' (gK v l).length (gK v l).length,h')/\KB bp h h'/\((a'=a/\gK v l=l)\/(bQ base 3 h' a' (iv .i64 (gK v l))/\∀ b,bK a' b->h.length<=b)):=by
 have d:=Hs.start hb
 suffices w:Wp (run (Et base) 121 [.slice a l.length l.length,.int .i64 v] h) λo=>∃ a',o.1 = .slice a' (gK v l).length (gK v l).length/\KB bp h o.2/\((a'=a/\gK v l=l)\/(bQ base 3 o.2 a' (iv .i64 (gK v l))/\∀ b,bK a' b->h.length<=b)) by
  obtain ⟨⟨u,h'⟩,e,a',rfl,q⟩:=w
  exact ⟨a',h',e,q⟩
 refine W.of (λr hx=>Am.akd hx) ?_
 refine W.bs (vJ (base:=base) (by omega) hs) ?_
 ((with_reducible repeat refine W.a2 ?_))
 unfold gK
 refine W.ite (λc=>?_) (λc=>?_)
 ·rw [if_pos c]
  exact W.ret ⟨a,rfl,KB.refl _ _,.inl ⟨rfl,rfl⟩⟩
 rw [if_neg c]
 ((refine W.nD d λh3 d _ Ep=>?_))
 obtain ⟨a4,h4,e4,d⟩:=d.aeE (t:=3) (bytes:=8) (m:=l.length) (QH (hs.aj Ep)) (by simp) (by omega) (by omega)
 refine W.bs e4 ?_
 ((try simp only [n1,n2,n3,n4,n5,n6] at d);(with_reducible repeat refine W.a2 ?_);(refine W.nD d λh6 d _ kh6=>?_))
 obtain ⟨a7,h7,e7,d,k7⟩:=d.YG (i:=0) (m:=1) (new:=[v]) (l:=l) rfl (by
  have:=(d.ol (.head _):bQ base 3 h6 (ap h4.length) [.int .i64 v]).sl.BK (by rfl)
  simpa [iv] using this) rfl (by omega)
 refine W.bs e7 ?_
 ((try simp only [n1,n2,n3,n4,n5,n6] at d);(with_reducible repeat refine W.a2 ?_))
 rw [show ag .i64 (((l.length+1:Nat):Int)-(1:Int))=(l.length:Int) from by rw [bm (by omega) (by omega)];omega]
 have d:Hs base bp h h7 [] [rW base a7 (l.take l.length++v :: l.drop l.length)]:=by
  have:=d.mn 0
  rw [cG (aT _),sM (aT _)]
  exact this
 refine W.wb (D0 (base:=base) (v:=v) hl l.length h7 v (aT _) d) ?_
 rintro ⟨q1,q2,h8⟩ ⟨y1,y2,z',d⟩
 simp only at y1 y2 d
 subst y1;subst y2
 have hk:=DZ (l:=l) (v:=v) l.length
 generalize kI l v l.length=k at hk d ⊢
 have el:=uv (z:=z') hk
 refine W.aE rfl ?_
 ((with_reducible repeat first|refine W.a2 ?_|refine W.a8 ?_))
 obtain ⟨ad,h9,ea,ew,d,_⟩:=d.aeD (i:=0) (j:=k) (v:=v) rfl (by omega)
 subst ea
 rw [NP hk] at d
 refine W.bo ?_
 rw [aM,kh]
 refine W.bs ew ?_
 have el2:=uv (z:=v) hk
 have o9:bQ base 3 h9 (some ad) (iv .i64 (l.take k++v :: l.drop k)):=d.rs (i:=0) rfl
 exact W.ret (Exists.intro (some ad) (And.intro (by dsimp only;rw [el2]) (And.intro d.kb (Or.inr (And.intro o9 λb hb=>(d.Ab (i:=0) rfl rfl b hb).resolve_left λh=>h)))))
def jY(v:Int)(A:Ac):Ac:=⟨A.pid,A.pc,A.aH,A.box,gK v A.aw⟩
theorem b_.aw(x:b_ base F C h A cs):∃ a,cs[4]? = some (.slice a A.aw.length A.aw.length)/\bQ base 3 h a (iv .i64 A.aw):=by
 obtain ⟨ra,rb,rc,S1,S2,S3,rfl,q1,q2,q3,_⟩:=x
 exact ⟨rc,rfl,q3⟩
theorem Vi{h0:AH}(d:Hs base V h0 h D [jg base F S ai b])(hi:i<ai.length)(th:ai[i].aw.length<=1000):
  ∃ ad lk a' h1 h2 S',b=some ad/\Am.cell h ad.block (ad.off+i*5+4)=some (.slice lk ai[i].aw.length ai[i].aw.length)/\run (Et base) 121 [.slice lk ai[i].aw.length ai[i].aw.length,.int .i64 v] h=some (.slice a' (gK v ai[i].aw).length (gK v ai[i].aw).length,h1)/\Hs base V h0 h1 D [jg base F S ai b]/\Am.wr base h1 ad.block (ad.off+i*5+4) [.slice a' (gK v ai[i].aw).length (gK v ai[i].aw).length]=some h2/\Hs base V h0 h2 D [jg base F S' (ai.set i (jY v ai[i])) b]/\KB S h1 h2:=by
 have nP:=d.fK (i:=0) rfl
 have row:a_ base 53 5 (b_ base F) S h ai b:=d.rs (i:=0) rfl
 obtain ⟨C,OJ,ad,hA,nI,rfl,cells,oX,pA,wi,mod⟩:=row.mod (b_.kp _ _) (by decide) hi nP
 obtain ⟨rc,e4,ol⟩:=hA.aw
 obtain ⟨a2,h2,e2,k2,q2⟩:=F8 (base:=base) (v:=v) th ol.sl d.ge
 have d1:=d.kN k2
 rcases q2 with ⟨rfl,ez⟩|⟨o2,f2⟩
 ·have es:jY v ai[i]=ai[i]:=by unfold jY;rw [ez]
  have ec:setAt OJ 4 [.slice a2 ai[i].aw.length ai[i].aw.length]=OJ:=by
   obtain ⟨ra,rb,rc',rfl⟩:=hA.gY
   simp only [de,List.getElem?_cons_succ,List.getElem?_cons_zero] at e4
   injection e4 with e4
   simp only [de,e4]
   rfl
  obtain ⟨h3,e3,r3,k3,z3⟩:=mod bp C h2 OJ [.slice a2 ai[i].aw.length ai[i].aw.length] 4 ai[i] k2 (λb h=>(h:False).elim) (by simp) (by simp) ec.symm (λh4 k4=>b_.kp _ _ _ _ _ _ _ _ (KB.trans (T:=(· = ad.block)) k2 k4 (λ_ _ h=>(h:False).elim) λ_ _ h=>h) (λb hb e=>wi (e ▸ hb)) hA) (λb hb _=>hb)
  refine ⟨ad,a2,a2,h2,h3,(λb=>S b\/C b),rfl,cells 4 _ e4,e2,d1,by rw [ez];exact e3,?_,k3.mono λb _ h=>(show S b from (show b=ad.block from h) ▸ pA)⟩
  rw [es]
  exact d1.Ns (r':=jg base F (λb=>S b\/C b) (ai.set i ai[i]) (some ad)) (fz.at (i:=0) rfl) rfl rfl k3 (λb hb=>.inl ((show b=ad.block from hb) ▸ pA)) r3 (λU y y' ky hs x=>a_.ax (b_.kp _ _) x ky hs) (λb hb=>.inl (hb.elim id (oX b)))
 ·have d2:=d.call k2 (bK a2) (λy=>bQ base 3 y a2 (iv .i64 (gK v ai[i].aw))) o2 (λU y y' k hs x=>bQ.ax x k hs) (λb hb=>⟨f2 b hb,(o2.lt hb).2⟩)
  obtain ⟨h3,e3,r3,k3,z3⟩:=mod bp (λb=>C b\/bK a2 b) h2 _ [.slice a2 (gK v ai[i].aw).length (gK v ai[i].aw).length] 4 (jY v ai[i]) k2 (λb h=>(h:False).elim) (aT 5) (by simp) rfl (λh4 k4=>b_.rn hA (KB.trans (T:=(· = ad.block)) k2 k4 (λ_ _ h=>(h:False).elim) λ_ _ h=>h) (λb hb e=>wi (e ▸ hb)) ((d2.rs (i:=1) rfl:bQ base 3 h2 a2 _).ax k4 λb hb e=>by have:=f2 b hb;have:=nP _ pA;omega) (λb hb hc=>by have:=f2 b hb;have:=nP _ (oX b hc);omega)) (λb hb hs=>hb.resolve_right λhc=>by have:=f2 b hc;have:=nP _ hs;omega)
  refine ⟨ad,rc,a2,h2,h3,(λb=>S b\/C b\/bK a2 b),rfl,cells 4 _ e4,e2,d1,e3,?_,k3.mono λb _ h=>(show S b from (show b=ad.block from h) ▸ pA)⟩
  exact (d2.oT (b_.kp _ _) (fz.at (i:=1) rfl) (fz.at (i:=0) rfl) rfl rfl (k3.mono λb _ h=>h) r3 (λb hb=>.inl (hb ▸ pA)) (λb hb=>hb.elim .inl λhb=>hb.elim (λhb=>.inl (oX b hb)) λhb=>.inr (.inl hb))).kP 1
def rp(pid other:Int)(ai:List Ac):Bool:=
 if decide (bX other 0 ai<0)=true then true else if (bX other 0 ai==bX pid 0 ai)=true then true
 else if decide (((ai.getD (bX pid 0 ai).toNat a0).aw.length:Int)>=(50:Int))=true then true else decide (((ai.getD (bX other 0 ai).toNat a0).aw.length:Int)>=(50:Int))
def nH(pid other:Int)(ai:List Ac):List Ac:=
 if rp pid other ai=true then ai else
  (ai.set (bX pid 0 ai).toNat (jY other (ai.getD (bX pid 0 ai).toNat a0))).set (bX other 0 ai).toNat (jY pid (ai.getD (bX other 0 ai).toNat a0))
theorem D3{other:Int}{h0:AH}(hn:P.ai.length<=1048576)(th:∀ A∈P.ai,A.aw.length<=1000)(pV:¬bX pid 0 P.ai<0)(d:Hs base V h0 h [(pb,32,dK a P.code.length b P.ai.length P.next g P.out.length)] [jg base F S P.ai b]):
  Wp (run (Et base) 95 [.pointer (ap pb),.int .i64 pid,.int .i64 other] h) λr=>r.1 = .tuple #[]/\∃ S',Hs base V h0 r.2 [(pb,32,dK a P.code.length b P.ai.length P.next g P.out.length)] [jg base F S' (nH pid other P.ai) b]:=by
 refine W.of (λr hx=>Am.r95 hx) ?_
 ((with_reducible repeat first|refine W.a1 d ?_|refine W.bo ?_))
 obtain ⟨h2,e2,k2⟩:=jt (base:=base) (P:=P) (v:=pid) (a:=a) (g:=g) (by omega) (a_.wj (d.rs (i:=0) rfl)) d.ge
 have d:=d.kN k2
 refine W.bs e2 ?_
 ((with_reducible repeat first|refine W.a1 d ?_|refine W.a2 ?_|refine W.bo ?_))
 obtain ⟨h3,e3,k3⟩:=jt (base:=base) (P:=P) (v:=other) (a:=a) (g:=g) (by omega) (a_.wj (d.rs (i:=0) rfl)) d.ge
 have d:=d.kN k3
 refine W.bs e3 ?_
 ((with_reducible repeat refine W.a2 ?_))
 have aS:=fG pid P.ai 0
 have jl:=fG other P.ai 0
 have hi:(bX pid 0 P.ai).toNat<P.ai.length:=by omega
 apply W.jb (rp pid other P.ai) d
 ·unfold rp
  refine W.ite (λc=>?_) (λc=>?_)
  ·rw [if_pos c]
   exact W.lb rfl rfl (KB.refl _ _)
  rw [if_neg c]
  have c':¬bX other 0 P.ai<0:=by simpa using c
  have hj:(bX other 0 P.ai).toNat<P.ai.length:=by omega
  refine W.ite (λc=>?_) (λc=>?_)
  ·rw [if_pos c]
   exact W.lb rfl rfl (KB.refl _ _)
  rw [if_neg c]
  ((with_reducible repeat first|refine W.a1 d ?_|refine W.bo ?_|refine W.a8 ?_))
  obtain ⟨ad,x1,x2,x3,rfl,eN,g0,g1,g2,g3,g4,yN,YC⟩:=js.get (a_.wj (d.rs (i:=0) rfl)) hi
  refine W.bs rfl (W.bS g4 ?_)
  rw [aD hi]
  refine W.ite (λc=>?_) (λc=>?_)
  ·rw [if_pos c]
   exact W.lb rfl rfl (KB.refl _ _)
  rw [if_neg c]
  ((with_reducible repeat first|refine W.a1 d ?_|refine W.bo ?_|refine W.a8 ?_))
  obtain ⟨qW,x1,x2,x3,fT,eN,g0,g1,g2,g3,QJ,yN,aeF⟩:=js.get (a_.wj (d.rs (i:=0) rfl)) hj
  injection fT with fT
  subst fT
  refine W.bS QJ ?_
  rw [aD hj]
  exact W.lb rfl rfl (KB.refl _ _)
 intro h4 d n4
 ((with_reducible repeat refine W.a2 ?_))
 unfold nH
 refine W.ite (λc=>?_) (λc=>?_)
 ·rw [if_pos c]
  exact W.ret ⟨rfl,S,d⟩
 rw [if_neg c]
 unfold rp at c
 have c1:¬bX other 0 P.ai<0:=λh=>c (by rw [if_pos (decide_eq_true h)])
 have c2:¬(bX other 0 P.ai==bX pid 0 P.ai)=true:=λh=>c (by rw [if_neg (by simpa using c1),if_pos h])
 have hj:(bX other 0 P.ai).toNat<P.ai.length:=by omega
 have dv:(bX pid 0 P.ai).toNat≠(bX other 0 P.ai).toNat:=by
  intro h
  apply c2
  rw [beq_iff_eq]
  omega
 ((with_reducible repeat first|refine W.a1 d ?_|refine W.bo ?_|refine W.a8 ?_))
 obtain ⟨ad,lk,a5,h5,h6,S6,rfl,g4,e5,d5,e6,d6,k6⟩:=Vi (v:=other) d hi (th _ (aQ hi))
 refine W.bo ?_
 refine W.bS g4 ?_
 refine W.bs e5 ?_
 have d:=d5
 ((with_reducible repeat first|refine W.a2 ?_|refine W.bo ?_|refine W.a6 d ?_|refine W.a8 ?_))
 refine W.bs e6 ?_
 have d:=d6
 have hj2:(bX other 0 P.ai).toNat<(P.ai.set (bX pid 0 P.ai).toNat (jY other P.ai[(bX pid 0 P.ai).toNat])).length:=by simpa using hj
 have ej:(P.ai.set (bX pid 0 P.ai).toNat (jY other P.ai[(bX pid 0 P.ai).toNat]))[(bX other 0 P.ai).toNat]=P.ai[(bX other 0 P.ai).toNat]:=by
  rw [List.getElem_set_ne dv]
 ((with_reducible repeat first|refine W.a1 d ?_|refine W.bo ?_|refine W.a8 ?_))
 obtain ⟨qW,lk2,a7,h7,h8,S8,fT,QJ,e7,d7,e8,d8,k8⟩:=Vi (v:=pid) d hj2 (by rw [ej];exact th _ (aQ hj))
 injection fT with fT
 subst fT
 rw [ej] at QJ e7 e8 d8
 refine W.bS QJ ?_
 refine W.bs e7 ?_
 have d:=d7
 ((with_reducible repeat first|refine W.a2 ?_|refine W.bo ?_|refine W.a6 d ?_|refine W.a8 ?_))
 refine W.bs e8 ?_
 have d:=d8
 rw [aD hi,aD hj]
 exact W.ret ⟨rfl,S8,d⟩
def Tm.len:Tm->Nat
 | .mk _ _ _ l=>l.length
theorem Vj(hs:s.size<=1048576):bM base (f+1) S h (.mk k n s []) (ah k n s none 0)/\jJ (f+1) (.mk k n s []):=
 ⟨⟨by simp only [maxLen];omega,by simp [maxLen],none,rfl,a_.nil⟩,hs,by simp,λt h=>nomatch h⟩
theorem Hs.zR{h0:AH}(d:Hs base V h0 h D R)(mu:Bool)(A:AH->Prop)(hA:A h)(ok:∀ (U:Fp) (h h':AH),KB U h h'->A h->A h'):Hs base V h0 h D (⟨λ_=>False,mu,A⟩ :: R):=
 ⟨d.ge,d.kb,d.own,d.nd,λr hr=>by
  rcases bn.1 hr with rfl|hr
  ·exact ⟨hA,λU h h' k _ x=>ok U h h' k x,λb hb=>hb.elim,λ_ b hb=>hb.elim,λx _ hb=>hb.elim⟩
  ·exact d.iH r hr,List.pairwise_cons.2 ⟨λr hr _ b hb=>hb.elim,d.dj⟩⟩
def D4(t:Tm):Bool:=match t with|.mk k n s l=>pz k n s l.length
def AG(t:Tm)(pid:Int)(P:Pl):Pl:=dL (D4 t) t P.ai.length pid P
def mq:Tm:=.mk 2 0 ⟨#[102,117,108,108]⟩ []
def rq(P:Pl):Bool:=if decide ((P.ai.length:Int)>=(20:Int))=true then true else decide (P.next>=(90000:Int))
def gM(F:Nat)(pid:Int)(x:IQ)(P:Pl):Pl×Bool:=
 if (x.kind==(2:Int))=true then (P,false)
 else if (x.kind==(3:Int))=true then (⟨P.code,ly x.pid x.t P.ai,P.next,P.out⟩,true)
 else if (x.kind==(4:Int))=true then
  if rq P=true then (AG mq pid P,false)
  else (⟨P.code,P.ai++[vK F x.pid x.pc x.t],ag .i64 (P.next+(1:Int)),fN P.out 1 x.pid x.t⟩,true)
 else if (x.kind==(5:Int))=true then (⟨P.code,P.ai,P.next,fN P.out 2 pid x.t⟩,true)
 else if (x.kind==(6:Int))=true then (⟨P.code,nH pid x.pid P.ai,P.next,P.out⟩,true)
 else if (x.kind==(7:Int))=true then (AG x.t pid P,false)
 else (P,true)
def aeG(base F pb:Nat)(V:Fp)(h0:AH)(p:Fp)(t:Tm)(IU:List Value)(a:Option Addr)(n:Nat)(q:Pl×Bool)(r:Value×AH):Prop:=
 r.1 = .bool q.2/\∃ b' g' S' ja,Hs base V h0 r.2 [(pb,32,dK a n b' q.1.ai.length q.1.next g' q.1.out.length)] [pE p λy=>cD y p F t IU,jg base F S' q.1.ai b',o0 base F ja q.1.out g']
theorem yg{t:Tm}:(ly pid t ai).length=ai.length:=by
 unfold ly
 split<;>simp
theorem yh{other:Int}:(nH pid other ai).length=ai.length:=by
 unfold nH
 split<;>simp
def PSz(P:Pl):Prop:=P.ai.length<=1000/\P.out.length<=1048576/\(∀ A∈P.ai,A.aw.length<=1000)/\∀ A∈P.ai,A.box.length<=1048576
theorem PSz.e(x:PSz P):PE P:=⟨by have:=x.1;omega,x.2.1,λA hA=>by have:=x.2.2.1 A hA;omega⟩
theorem F9{p:Fp}{So:Fp}{x:IQ}{l:List Tm}{h0:AH}(et:x.t = .mk k n s l)(hP:PSz P)(pV:¬bX pid 0 P.ai<0)(hB:jJ (f+1) x.t)(d:Hs base V h0 h [(pb,32,dK a P.code.length b P.ai.length P.next g P.out.length)] [pE p λy=>cD y p (f+1) x.t (ah k n s ta l.length),jg base (f+1) S P.ai b,o0 base (f+1) So P.out g]):
  Wp (run (Et base) 47 [.pointer (ap pb),.int .i64 pid,.agg (i_ x.kind x.pid x.pc k n s ta l.length).toArray] h) (aeG base (f+1) pb V h0 p x.t (ah k n s ta l.length) a P.code.length (gM (f+1) pid x P)):=by
 have hlen:=hP.1
 refine W.of (λr hx=>Am.UC hx) ?_
 ((refine W.nD d λh1 d _ vQ=>?_);(with_reducible repeat refine W.a1 d ?_))
 have e0:Hs base V h0 h1 [(pb,32,dK a P.code.length b P.ai.length P.next g P.out.length)] [pE p λy=>cD y p (f+1) x.t (ah k n s ta l.length),jg base (f+1) S P.ai b,o0 base (f+1) So P.out g]:=d.tl
 unfold gM
 refine W.ite (λc=>?_) (λc=>?_)
 ·rw [if_pos c]
  exact W.ret ⟨rfl,b,g,S,So,e0⟩
 rw [if_neg c]
 refine W.ite (λc=>?_) (λc=>?_)
 ·rw [if_pos c]
  ((with_reducible repeat refine W.a1 d ?_))
  have d:=d.front (gJ.at (i:=1) rfl)
  have d1:=Hs.part (D1:=[_]) (R1:=[_,_]) d
  refine W.wb (DW (base:=base) (by omega) hP.2.2.2 hB (aT _) d1) ?_
  rintro ⟨u,h2⟩ ⟨y1,S',d2⟩
  simp only at y1 d2
  subst y1
  have d:=Hs.back (D1:=[_]) (R1:=[_,_]) d d2 (λr hr hm=>by
   simp only [bn,kl,or_false] at hr
   rcases hr with rfl|rfl
   ·exact ⟨_,.head _,hm,rfl⟩
   ·cases hm)
  ((try simp only [n1,n2,n3,n4,n5,n6] at d);(with_reducible repeat refine W.a2 ?_))
  refine W.ret ⟨rfl,b,g,S',So,?_⟩
  have d:=d.mn 1
  dsimp only
  rw [yg]
  exact d
 rw [if_neg c]
 refine W.ite (λc=>?_) (λc=>?_)
 ·rw [if_pos c]
  apply W.jb (rq P) d
  ·unfold rq
   ((with_reducible repeat first|refine W.a1 d ?_|refine W.bo ?_))
   refine W.ite (λc=>?_) (λc=>?_)
   ·rw [if_pos c]
    exact W.lb rfl rfl (KB.refl _ _)
   ·rw [if_neg c]
    ((with_reducible repeat first|refine W.a1 d ?_|refine W.bo ?_))
    exact W.lb rfl rfl (KB.refl _ _)
  intro h2 d n2
  ((with_reducible repeat refine W.a2 ?_))
  refine W.ite (λc=>?_) (λc=>?_)
  ·rw [if_pos c]
   obtain ⟨h3,e3,k3⟩:=vC (base:=base) (h:=h2) (w:=(⟨#[102,117,108,108]⟩:ByteArray)) d.ge
   have d:=d.kN k3
   refine W.bs e3 ?_
   ((with_reducible repeat refine W.a2 ?_))
   obtain ⟨tf,bf⟩:=Vj (base:=base) (f:=f) (S:=λ_=>False) (h:=h3) (k:=2) (n:=0) (s:=(⟨#[102,117,108,108]⟩:ByteArray)) (by decide)
   have d:=d.front (gJ.at (i:=1) rfl)
   have d:=d.cJ (gJ.at (i:=2) rfl)
   have d:=d.cJ (gJ.at (i:=2) rfl)
   have d:=d.zR false (λy=>cD y (λ_=>False) (f+1) mq (ah 2 0 ⟨#[102,117,108,108]⟩ none 0)) tf.vq (λU h h' k x=>cD.ax k (λ_ h _=>h.elim) _ _ _ x)
   have d1:=Hs.part (D1:=[_]) (R1:=[_,_,_]) d
   refine W.wb (tn (base:=base) (t:=mq) bf P.ai.length P pid a b g S So _ _ _ (aT _) hP.e d1) ?_
   rintro ⟨u,h4⟩ ⟨y1,b',g',S',ja,d4⟩
   simp only at y1 d4
   subst y1
   have d:=Hs.back (D1:=[_]) (R1:=[_,_,_]) d d4 (Vg rfl rfl rfl)
   ((try simp only [n1,n2,n3,n4,n5,n6] at d);(with_reducible repeat refine W.a3 ?_))
   obtain ⟨_,en⟩:=iC (D4 mq) mq P.ai.length pid P
   refine W.ret ⟨rfl,b',g',S',ja,?_⟩
   have d:=(d.mn 1).cJ (gJ.at (i:=3) rfl)
   have d:=d.NO (R':=[_,_,_]) ((List.Sublist.refl [_]).append (List.sublist_cons_self _ [_,_]))
   dsimp only
   unfold AG
   rw [en]
   exact d
  ·rw [if_neg c]
   have c20:P.ai.length<20/\¬P.next>=90000:=by
    unfold rq at c
    split at c
    ·exact absurd rfl c
    ·rename_i c1
     simp at c c1
     omega
   ((with_reducible repeat first|refine W.a1 d ?_|refine W.bo ?_))
   have tr:cD h2 p (f+1) x.t (ah k n s ta l.length):=d.rs (i:=0) rfl
   obtain ⟨cs3,h3,e3,t3,k3⟩:=DQ (base:=base) (f:=f) h2 p x.t _ x.pid x.pc tr hB d.ge (d.fK (i:=0) rfl)
   obtain ⟨x1,x2,x3,rfl⟩:=t3.gY
   have d:=d.fb (b_.kp _ _) k3 t3
   refine W.bs e3 ?_
   ((with_reducible repeat first|refine W.a2 ?_|refine W.a6 d ?_|refine W.a7 ?_);(refine W.nD d λh4 d _ kh4=>?_))
   obtain ⟨a5,h5,S5,e5,d,_,n5,_⟩:=d.qn (i:=1) (j:=3) (bytes:=88) (b_.kp _ _) rfl rfl (by decide) (.head _) rfl (by decide) rfl (by omega) (by omega)
   refine W.bs e5 ?_
   ((try simp only [n1,n2,n3,n4,n5,n6] at d);(with_reducible repeat first|refine W.a1 d ?_|refine W.a2 ?_|refine W.bo ?_|refine W.a5 d λhw d lw kw=>?_))
   obtain ⟨a7,h7,e7,r7,k7,n7⟩:=oW (base:=base) (f:=f+1) hw So P.out g 1 x.pid p x.t k n s ta l.length (d.rs (i:=2) rfl) hP.2.1 (d.rs (i:=0) rfl) hB (d.fK (i:=2) rfl) (d.fK (i:=0) rfl) d.ge
   have vU:a_ base 82 6 (gz (f+1)) So hw P.out g:=d.rs (i:=2) rfl
   obtain ⟨So2,eS⟩:∃ X:Fp,X=λb=>So b\/(hw.length<=b/\b<h7.length):=⟨_,rfl⟩
   rw [<- eS] at r7
   have d:=d.IK (gz.kp _) (fz.at (i:=2) rfl) rfl k7 r7 (λb hb=>.inl (vU.IY b hb)) (λb hb=>by rw [eS] at hb;exact hb)
   refine W.bs e7 ?_
   ((try simp only [n1,n2,n3,n4,n5,n6] at d);(with_reducible repeat first|refine W.a2 ?_|refine W.bo ?_|refine W.a5 d λhw d lw kw=>?_))
   refine W.ret ⟨rfl,a5,a7,S5,So2,?_⟩
   have d:=d.front (gJ.at (i:=2) rfl)
   have d:=(d.mn 1).kP 3
   dsimp only
   rw [py]
   exact d
 rw [if_neg c]
 refine W.ite (λc=>?_) (λc=>?_)
 ·rw [if_pos c]
  ((with_reducible repeat first|refine W.a1 d ?_|refine W.bo ?_))
  obtain ⟨a7,h7,e7,r7,k7,n7⟩:=oW (base:=base) (f:=f+1) h1 So P.out g 2 pid p x.t k n s ta l.length (d.rs (i:=2) rfl) hP.2.1 (d.rs (i:=0) rfl) hB (d.fK (i:=2) rfl) (d.fK (i:=0) rfl) d.ge
  have vU:a_ base 82 6 (gz (f+1)) So h1 P.out g:=d.rs (i:=2) rfl
  have d:=d.IK (gz.kp _) (fz.at (i:=2) rfl) rfl k7 r7 (λb hb=>.inl (vU.IY b hb)) (λb hb=>hb)
  refine W.bs e7 ?_
  ((try simp only [n1,n2,n3,n4,n5,n6] at d);(with_reducible repeat first|refine W.a2 ?_|refine W.bo ?_|refine W.a5 d λhw d lw kw=>?_))
  refine W.ret ⟨rfl,b,a7,S,(λb=>So b\/(h1.length<=b/\b<h7.length)),?_⟩
  have d:=d.front (gJ.at (i:=1) rfl)
  exact d.mn 1
 rw [if_neg c]
 refine W.ite (λc=>?_) (λc=>?_)
 ·rw [if_pos c]
  ((with_reducible repeat refine W.a1 d ?_))
  have d:=d.front (gJ.at (i:=1) rfl)
  have d:=d.cJ (gJ.at (i:=1) rfl)
  have d1:=Hs.part (D1:=[_]) (R1:=[_]) d
  refine W.wb (D3 (base:=base) (by omega) hP.2.2.1 pV d1) ?_
  rintro ⟨u,h2⟩ ⟨y1,S',d2⟩
  simp only at y1 d2
  subst y1
  have d:=Hs.back (D1:=[_]) (R1:=[_]) d d2 (λr hr hm=>by
   simp only [bn,kl,or_false] at hr
   subst hr
   cases hm)
  ((try simp only [n1,n2,n3,n4,n5,n6] at d);(with_reducible repeat refine W.a3 ?_))
  refine W.ret ⟨rfl,b,g,S',So,?_⟩
  have d:=(d.mn 1).cJ (gJ.at (i:=1) rfl)
  dsimp only
  rw [yh]
  exact d
 rw [if_neg c]
 refine W.ite (λc=>?_) (λc=>?_)
 ·rw [if_pos c]
  ((with_reducible repeat refine W.a1 d ?_))
  have d:=d.front (gJ.at (i:=1) rfl)
  have d1:=Hs.part (D1:=[_]) (R1:=[_,_,_]) d
  refine W.wb (tn (base:=base) (t:=x.t) hB P.ai.length P pid a b g S So _ _ _ (aT _) hP.e d1) ?_
  rintro ⟨u,h4⟩ ⟨y1,b',g',S',ja,d4⟩
  simp only at y1 d4
  subst y1
  have d:=Hs.back (D1:=[_]) (R1:=[_,_,_]) d d4 (Vg rfl rfl rfl)
  ((try simp only [n1,n2,n3,n4,n5,n6] at d);(with_reducible repeat refine W.a3 ?_))
  have eo:D4 x.t=pz k n s l.length:=by rw [et];rfl
  obtain ⟨_,en⟩:=iC (D4 x.t) x.t P.ai.length pid P
  refine W.ret ⟨rfl,b',g',S',ja,?_⟩
  have d:=d.mn 1
  dsimp only
  unfold AG
  rw [en,eo]
  exact d
 rw [if_neg c]
 exact W.ret ⟨rfl,b,g,S,So,e0⟩
end Go.Proofs.YtkdenmdijdmnjaaGreat.Am
