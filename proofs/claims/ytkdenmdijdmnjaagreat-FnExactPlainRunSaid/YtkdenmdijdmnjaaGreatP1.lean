/- What the functions of this law compute, lemma by lemma, up to the law.
Conditions: none. -/
import Derived.Test.YtkdenmdijdmnjaaGreatMd
import Derived.Test.YtkdenmdijdmnjaaGreatEq1
import Derived.Test.YtkdenmdijdmnjaaGreatEq2
import Derived.Test.YtkdenmdijdmnjaaGreatEq3
import Derived.Test.YtkdenmdijdmnjaaGreatEq4
import Derived.Test.YtkdenmdijdmnjaaGreatEq5
import Derived.IntWalk
import Derived.Laws.BitsLemmas
set_option linter.unusedSimpArgs false
set_option linter.unusedVariables false
namespace Go.Proofs.YtkdenmdijdmnjaaGreat.Am
open Go Go.RowKit
open _root_.Bool renaming and_assoc->kM,and_false->Ye,and_true->FG,false_and->FH,false_eq_true->vw,false_or->iM,or_false->Yg,true_and->fx,true_or->lH
open _root_.ByteArray renaming size_append->Na
open _root_.Go.IntKind renaming wrap->ag
open _root_.Int renaming le_refl->gb,tdiv->zF,tmod->ga,toNat->af,toNat_natCast->aM
open _root_.List renaming append_nil->Fw,drop_append->Ng,drop_eq_getElem_cons->dJ,drop_eq_nil_of_le->dZ,drop_succ_cons->zW,drop_zero->cH,eq_nil_of_length_eq_zero->iL,ext_getElem?->io,forall_mem_cons->aA,getElem?_append_left->gE,getElem?_drop->bZ,getElem?_eq_getElem->bk,getElem?_eq_none->cE,getElem?_eq_some_iff->bY,getElem?_of_mem->Yc,getElem?_set_ne->qp,getElem?_set_self->vp,getElem?_take_of_lt->bJ,getElem_mem->aQ,length->ae,length_append->py,length_cons->g_,length_nil->G7,length_singleton->Qn,map_cons->mD,mem_append->dQ,mem_cons->bn,mem_map->dR,mem_of_getElem?->dX,mem_singleton->dY,nodup_cons->mY,pairwise_append->iU,pairwise_cons->ib,range->dM,replicate->G',take_append_of_le_length->Qo,take_of_length_le->cG,take_succ_cons->ui,take_succ_eq_append_getElem->G_,take_zero->uj
open _root_.Nat renaming add_assoc->bO,ble->dC,le_of_ble_eq_true->iK,le_trans->gi,lt_of_lt_of_le->cW,lt_or_gt_of_ne->mV,mul_one->kh,toUInt8->Hc,zero_add->cQ
open _root_.Option renaming bind_some->aJ

variable{h h' h1:AH}{y:Bool}{s:ByteArray}{c k left nn op:Int}{xs zs:List Int}{cs vs:List Value}{b base f f2 i j m n o ob t w:Nat}{p:Nat->Prop}{a:Option Addr}{x:Option Value}{α β:Type}{v:Value}{L:az}
theorem bm{n:Int}(h0 : -9223372036854775808<=n)(h1:n<=9223372036854775807):IntKind.i64.wrap n=n:=IntWalk.i64_in n ⟨h0,h1⟩
theorem lets{x:α}{f:α->Option β}{r:Option β}(h:∀ y,y=x->f y=r):(some x).bind f=r:=h x rfl
abbrev ap(b:Nat):Option Addr:=some ⟨b,0,none⟩
theorem aG{x:Nat}:bK (ap b) x↔x=b:=⟨λ⟨ad,e,h⟩=>by injection e with e;subst e;exact h.symm,λe=>⟨_,rfl,e.symm⟩⟩
theorem aI(hb:base<=h.length)(e:h1=h++[some ⟨cs,t⟩]):bQ base t h1 (ap h.length) cs/\KB bp h h1/\h1.length=h.length+1:=by
 subst e
 exact ⟨bQ.new base t h cs hb,KB.push _ _ _,by simp⟩
theorem bQ.ap(x:bQ base t h (ap b) vs)(hi:vs[i]? = some v):Am.cell h b i=some v:=by
 obtain ⟨ad,e,hc⟩:=x.sl.cell hi
 injection e with e
 subst e
 simpa using hc
theorem bQ.fF(x:bQ base t h (Am.ap b) vs){new:List Value}(hi:i+new.length<=vs.length)(h0:0<new.length):
  ∃ h',Am.wr base h b i new=some h'/\bQ base t h' (Am.ap b) (setAt vs i new)/\KB (· = b) h h'/\h'.length=h.length:=by
 obtain ⟨ad,h',e,h1,h2,h3,h4⟩:=x.wr hi h0
 injection e with e
 subst e
 refine ⟨h',by simpa using h1,h2,h3.mono λi _ hb=>aG.1 hb,h4⟩
theorem bQ.aj(x:bQ base t h a vs)(k:KB bp h h'):bQ base t h' a vs:=x.ax k λ_ _ h=>h.elim
theorem Sl.aj(x:Sl h a vs)(k:KB bp h h'):Sl h' a vs:=x.ax k λ_ _ h=>h.elim
theorem bQ.bF(x:bQ base t h a vs)(k:KB (· = b) h h')(hb:∀ i,bK a i->i≠b):bQ base t h' a vs:=x.ax k λi h1 h2=>hb i h1 h2
theorem Sl.bF{h0:AH}(x:Sl h a vs)(k:KB (· = b) h h')(hb:vs = []\/∀ i,bK a i->i≠b):Sl h' a vs:=by
 rcases hb with e|hb
 ·exact .inl e
 ·exact x.ax k λi h1 h2=>hb i h1 h2
theorem l_(x:Sl h a vs):vs = []\/∀ i,bK a i->i<h.length:=by
 by_cases e:vs = []
 ·exact .inl e
 ·exact .inr λi hi=>by
   rcases x with h|⟨ad,k,h1,h2,_⟩
   ·exact absurd h e
   ·obtain ⟨rv,e1,e2⟩:=hi
    rw [h1] at e1
    injection e1 with e1
    subst e1;subst e2
    exact di h2
theorem iP{R:Type}{p:Prop}{x:Option R}(h:p):gate p x=x:=by unfold gate;rw [if_pos h]
theorem bs{x:Option α}{v:α}(h:x=some v){f:α->Option β}{r:Option β}(hf:f v=r):x.bind f=r:=by rw [h];exact hf
theorem aU{c:Prop}[Decidable c]{a b r:Option β}(h:¬c)(hb:b=r):(if c then a else b)=r:=by rw [if_neg h];exact hb
theorem aE{c:Prop}[Decidable c]{a b r:Option β}(h:c)(ha:a=r):(if c then a else b)=r:=by rw [if_pos h];exact ha
theorem jn{T:Type}{q:T}{k:T->Option β}{r:Option β}(h:k q=r):bH (Sum.inl q:Sum T β) k=r:=h
theorem bI{k:IntKind}{n:Int}(h:x=some (.int k n)){f:Int->Option β}{r:Option β}(hf:f n=r):(x.bind (au k)).bind f=r:=by subst h;simpa [au] using hf
theorem bS{c:Nat}(h:x=some (.slice a n c)){f:Option Addr×Nat->Option β}{r:Option β}(hf:f (a,n)=r):(x.bind aN).bind f=r:=by subst h;exact hf
theorem bT(h:x=some (.string s)){f:ByteArray->Option β}{r:Option β}(hf:f s=r):(x.bind aK).bind f=r:=by subst h;exact hf
theorem bB{b:Bool}(h:x=some (.bool b)){f:Bool->Option β}{r:Option β}(hf:f b=r):(x.bind aO).bind f=r:=by subst h;exact hf
theorem nw{zs:List Value}{f:AH->Option β}{z:Option β}(hb:base<=h.length)(hl:cs.length=zs.length)(hf:∀ y,y=h++[some ⟨cs,t⟩]->f y=z):
  ((some (h++[some ⟨zs,t⟩])).bind λx=>(Am.wr base x h.length 0 cs).bind f)=z:=by
 have:Am.wr base (h++[some ⟨zs,t⟩]) h.length 0 cs=some (h++[some ⟨cs,t⟩]):=by
  unfold Am.wr
  rw [if_pos hb,dU]
  simp only [aJ]
  rw [if_pos (by simp;omega)]
  have e:setAt zs 0 cs=cs:=by unfold setAt;simp [hl]
  rw [e]
  congr 1
  simp [List.set_append]
 simp only [aJ]
 rw [this]
 exact hf _ rfl
theorem bj{T:Type}{x:Option (Sum T β)}{k:T->Option β}{r:Option β}(q:T)(h:x=some (.inl q))(hf:k q=r):(x.bind λj=>bH j k)=r:=by rw [h];exact hf
theorem bl{b:Body}{s s':az}{r:Option (Nat×az×AH)}(hb:b s h=some (0,s',h'))(hr:aF b s' h'=r):aF b s h=r:=by
 rw [cg,hb]
 exact hr
theorem aC{b:Body}{s s':az}{e:Nat}(he:e≠0)(hb:b s h=some (e,s',h')):aF b s h=some (e,s',h'):=by
 rw [cg,hb]
 simp only [aJ]
 rw [if_neg he]
theorem G6(hl:cs.all leaf=true)(hn:cs≠[]):br (h++[some ⟨cs,t⟩]) (some ⟨h.length,0,none⟩) cs.length=some cs:=by
 have hp:cs.length≠0:=λe=>hn (iL e)
 unfold br
 rw [if_neg hp]
 simp only [aJ,dU]
 rw [if_pos ⟨by simp,by simpa using hl⟩]
 simp
theorem kN{a b c:AH}(x:KB bp a b)(y:KB bp b c):KB bp a c:=KB.trans x y (λ_ _ h=>h) (λ_ _ h=>h)
theorem X2{S:Nat->Prop}{a b c:AH}(x:KB bp a b)(y:KB S b c):KB S a c:=KB.trans x y (λ_ _ h=>h.elim) (λ_ _ h=>h)
theorem bR{S:Nat->Prop}{a b c:AH}(x:KB bp a b)(y:KB S b c)(hS:∀ i,S i->a.length<=i):KB bp a c:=KB.trans x y (λ_ _ h=>h) (λi hi hs=>by have:=hS i hs;omega)
theorem qn{bytes:Nat}{dp:List Value}{sz:Nat}(x:bQ base t h a dp)(hn:dp.length=n*sz)(hc:cs.length=sz)(jk:0<sz)(A0:cs.all leaf=true)(hb:base<=h.length)(h1:(n+1)*bytes<=140737488355328)(h2:n+1<=9223372036854775807):
  ∃ a' h',Am.app base (h++[some ⟨cs,t⟩]) t sz bytes a n (br (h++[some ⟨cs,t⟩]) (some ⟨h.length,0,none⟩) (1*sz)) 1=some (.slice a' (n+1) (n+1),h')/\bQ base t h' a' (dp++cs)/\KB (bK a) h h'/\(∀ b,bK a' b->b=h.length+1)/\h.length+1<=h'.length:=by
 have hr:br (h++[some ⟨cs,t⟩]) (some ⟨h.length,0,none⟩) (1*sz)=some cs:=by
  rw [Nat.one_mul,<- hc]
  exact G6 A0 (by intro e;rw [e] at hc;simp at hc;omega)
 obtain ⟨a',h',e,o,k,d⟩:=bQ.app (x.aj (KB.push bp h (some ⟨cs,t⟩))) (n:=n) (m:=1) (sz:=sz) (bytes:=bytes) hn jk hr (by simp;omega) h1 h2 (by omega)
 refine ⟨a',h',e,o,X2 (KB.push bp _ _) k,?_,by have:=k.1;simp at this;omega⟩
 rcases d with ⟨h0,_⟩|d
 ·exact absurd h0 (by decide)
 ·intro b cy
  have:=d b cy
  simpa using this
theorem su(kk:KB bp h h')(g:Am.cell h b i=some v):Am.cell h' b i=some v:=by
 have eN:b<h.length:=by
  have:=g
  unfold Am.cell at this
  cases hg:bD h b with
  | none=>rw [hg] at this;cases this
  | some b=>exact di hg
 rw [<- g]
 unfold Am.cell
 rw [kk.2 b eN (λh=>h)]
theorem d_(kk:KB bp h h')(g:Am.cell h b i=some v):bc h h' (some ⟨b,i,none⟩) n:=by
 intro x hx
 injection hx with hx
 subst hx
 have eN:b<h.length:=by
  have:=g
  unfold Am.cell at this
  cases hg:bD h b with
  | none=>rw [hg] at this;cases this
  | some b=>exact di hg
 have e:=kk.2 b eN (λh=>h)
 exact ⟨λj _=>by unfold Am.cell;rw [e],by rw [e]⟩
theorem aed(x:Sl h a vs)(dv:vs≠[])(hb:bK a b):b<h.length:=by
 rcases x with e|⟨ad,k,h1,h2,_⟩
 ·exact absurd e dv
 ·obtain ⟨rv,e1,e2⟩:=hb
  rw [h1] at e1
  injection e1 with e1
  subst e1;subst e2
  exact di h2
section
def Wp(o:Option β)(Q:β->Prop):Prop:=∃ r,o=some r/\Q r
namespace W
variable {α β γ:Type} {Q:β->Prop}
theorem of{F R:Option β}(h:∀ r,F=some r->R=some r)(w:Wp F Q):Wp R Q:=by
 obtain ⟨r,e,q⟩:=w
 exact ⟨r,h r e,q⟩
theorem ret{v:β}(q:Q v):Wp (some v) Q:=⟨v,rfl,q⟩
theorem bs{x:Option α}{v:α}(h:x=some v){f:α->Option β}(w:Wp (f v) Q):Wp (x.bind f) Q:=by rw [h];exact w
theorem wb{x:Option α}{P:α->Prop}(h:Wp x P){f:α->Option β}(w:∀ v,P v->Wp (f v) Q):Wp (x.bind f) Q:=by
 obtain ⟨v,e,p⟩:=h
 rw [e]
 exact w v p
theorem bI{k:IntKind}{n:Int}(h:x=some (.int k n)){f:Int->Option β}(w:Wp (f n) Q):Wp ((x.bind (au k)).bind f) Q:=by subst h;simpa [au] using w
theorem bS{c:Nat}(h:x=some (.slice a n c)){f:Option Addr×Nat->Option β}(w:Wp (f (a,n)) Q):Wp ((x.bind aN).bind f) Q:=by subst h;exact w
theorem bT(h:x=some (.string s)){f:ByteArray->Option β}(w:Wp (f s) Q):Wp ((x.bind aK).bind f) Q:=by subst h;exact w
theorem bB{b:Bool}(h:x=some (.bool b)){f:Bool->Option β}(w:Wp (f b) Q):Wp ((x.bind aO).bind f) Q:=by subst h;exact w
theorem bA{a:Addr}(h:x=some (.pointer (some a))){f:Addr->Option β}(w:Wp (f a) Q):Wp ((x.bind HF).bind f) Q:=by subst h;exact w
theorem aE{c:Prop}[Decidable c]{a b:Option β}(h:c)(w:Wp a Q):Wp (if c then a else b) Q:=by rw [if_pos h];exact w
theorem aU{c:Prop}[Decidable c]{a b:Option β}(h:¬c)(w:Wp b Q):Wp (if c then a else b) Q:=by rw [if_neg h];exact w
theorem ite{c:Prop}[Decidable c]{a b:Option β}(h1:c->Wp a Q)(h2:¬c->Wp b Q):Wp (if c then a else b) Q:=by
 by_cases h:c
 ·rw [if_pos h];exact h1 h
 ·rw [if_neg h];exact h2 h
theorem gt{p:Prop}{x:Option β}(h:p)(w:Wp x Q):Wp (gate p x) Q:=by rw [iP h];exact w
theorem mp{x:Option β}{P:Sum γ β->Prop}(w:Wp x λr=>P (.inr r)):Wp (x.map Sum.inr) P:=by
 obtain ⟨r,e,q⟩:=w
 exact ⟨.inr r,by rw [e];rfl,q⟩
theorem join{x:Option (Sum γ β)}{k:γ->Option β}(w:Wp x (Sum.elim (λq=>Wp (k q) Q) Q)):Wp (x.bind λj=>bH j k) Q:=by
 obtain ⟨r,e,q⟩:=w
 rw [e]
 cases r with
 | inl r=>exact q
 | inr r=>exact ⟨r,rfl,q⟩
theorem kL(P:γ->Prop){x:Option (Sum γ β)}{k:γ->Option β}(w:Wp x (Sum.elim P Q))(h:∀ q,P q->Wp (k q) Q):Wp (x.bind λj=>bH j k) Q:=by
 obtain ⟨r,e,q⟩:=w
 rw [e]
 cases r with
 | inl r=>exact h r q
 | inr r=>exact ⟨r,rfl,q⟩
theorem inl{P:γ->Prop}{v:γ}(q:P v):Wp (some (Sum.inl v:Sum γ β)) (Sum.elim P Q):=⟨_,rfl,q⟩
theorem box{f:AH->Option β}(hb:base<=h.length)(w:∀ h1,bQ base t h1 (ap h.length) cs->KB bp h h1->h1.length=h.length+1->Wp (f h1) Q):Wp ((some (h++[some ⟨cs,t⟩])).bind f) Q:=by
 obtain ⟨o1,k1,q1⟩:=aI (base:=base) (t:=t) (h:=h) (cs:=cs) hb rfl
 exact w _ o1 k1 q1
theorem nw{base t:Nat}{h:AH}{zs cs:List Value}{f:AH->Option β}(hb:base<=h.length)(hl:cs.length=zs.length)(w:∀ h1,bQ base t h1 (ap h.length) cs->KB bp h h1->h1.length=h.length+1->Wp (f h1) Q):
  Wp ((some (h++[some ⟨zs,t⟩])).bind λx=>(Am.wr base x h.length 0 cs).bind f) Q:=by
 obtain ⟨o1,k1,q1⟩:=aI (base:=base) (t:=t) (h:=h) (cs:=cs) hb rfl
 obtain ⟨r,e,q⟩:=w _ o1 k1 q1
 exact ⟨r,Am.nw hb hl λy ey=>by rw [ey];exact e,q⟩
theorem fF{base t b i:Nat}{h:AH}{vs new:List Value}{f:AH->Option β}(o:bQ base t h (ap b) vs)(hi:i+new.length<=vs.length)(h0:0<new.length)(w:∀ h1,bQ base t h1 (ap b) (setAt vs i new)->KB (· = b) h h1->h1.length=h.length->Wp (f h1) Q):Wp ((Am.wr base h b i new).bind f) Q:=by
 obtain ⟨h1,e,o1,k1,l1⟩:=o.fF hi h0
 rw [e]
 exact w h1 o1 k1 l1
end W
theorem Wp.run{x:Option (Value×AH)}{P:AH->Prop}(w:Wp x λr=>r.1=v/\P r.2):∃ h',x=some (v,h')/\P h':=by
 obtain ⟨⟨u,h⟩,e,q,p⟩:=w
 exact ⟨h,by rw [e];simp only at q;rw [q],p⟩
end
inductive Tm where
 | mk (k n:Int) (s:ByteArray) (l:List Tm)
variable{l:List Tm}
def cD(h:AH)(p:Nat->Prop):Nat->Tm->List Value->Prop
 | 0,_,_=>False
 | f+1,.mk k n s l,cs=>s.size<=maxLen/\l.length<=maxLen/\∃ a vs,cs = [.int .i64 k,.int .i64 n,.string s,.slice a l.length l.length]/\Sl h a vs/\(vs = []\/∀ b,bK a b->p b)/\vs.length=l.length*4 /\
   ∀ i t,l[i]? = some t->cD h p f t ((vs.drop (i*4)).take 4)
def iQ(h:AH)(p:Nat->Prop)(f:Nat)(l:List Tm)(a:Option Addr):Prop:=
 ∃ vs,Sl h a vs/\(vs = []\/∀ b,bK a b->p b)/\vs.length=l.length*4/\∀ i t,l[i]? = some t->cD h p f t ((vs.drop (i*4)).take 4)
theorem cD.ax{h h':AH}{p S:Nat->Prop}(k:KB S h h')(hp:∀ b,p b->¬S b):∀ (f:Nat) (t:Tm) (cs:List Value),cD h p f t cs->cD h' p f t cs
 | 0,_,_,x=>x
 | f+1,.mk kk n s l,cs,x=>by
  obtain ⟨h1,h2,a,vs,h3,h4,h5,h6,h7⟩:=x
  refine ⟨h1,h2,a,vs,h3,?_,h5,h6,λi t hi=>cD.ax k hp f t _ (h7 i t hi)⟩
  rcases h5 with e|h5
  ·exact .inl e
  ·exact h4.ax k λb hb hs=>hp b (h5 b hb) hs
theorem iQ.ax{h h':AH}{p S:Nat->Prop}(k:KB S h h')(hp:∀ b,p b->¬S b){f:Nat}{l:List Tm}{a:Option Addr}(x:iQ h p f l a):iQ h' p f l a:=by
 obtain ⟨vs,h4,h5,h6,h7⟩:=x
 refine ⟨vs,?_,h5,h6,λi t hi=>cD.ax k hp f t _ (h7 i t hi)⟩
 rcases h5 with e|h5
 ·exact .inl e
 ·exact h4.ax k λb hb hs=>hp b (h5 b hb) hs
theorem cD.mono{h:AH}{p q:Nat->Prop}(Kc:∀ b,p b->q b):∀ (f:Nat) (t:Tm) (cs:List Value),cD h p f t cs->cD h q f t cs
 | 0,_,_,x=>x
 | f+1,.mk kk n s l,cs,x=>by
  obtain ⟨h1,h2,a,vs,h3,h4,h5,h6,h7⟩:=x
  exact ⟨h1,h2,a,vs,h3,h4,h5.imp id λh b hb=>Kc b (h b hb),h6,λi t hi=>cD.mono Kc f t _ (h7 i t hi)⟩
theorem cD.parts{n:Int}(x:cD h p (f+1) (.mk k n s l) cs):
  ∃ a,cs = [.int .i64 k,.int .i64 n,.string s,.slice a l.length l.length]/\iQ h p f l a/\s.size<=maxLen/\l.length<=maxLen:=by
 obtain ⟨h1,h2,a,vs,h3,h4,h5,h6,h7⟩:=x
 exact ⟨a,h3,⟨vs,h4,h5,h6,h7⟩,h1,h2⟩
theorem cD.of{n:Int}(x:iQ h p f l a)(h1:s.size<=maxLen)(h2:l.length<=maxLen):
  cD h p (f+1) (.mk k n s l) [.int .i64 k,.int .i64 n,.string s,.slice a l.length l.length]:=by
 obtain ⟨vs,h4,h5,h6,h7⟩:=x
 exact ⟨h1,h2,a,vs,rfl,h4,h5,h6,h7⟩
theorem iQ.get(x:iQ h p f l a)(hi:i<l.length):
  ∃ ad c0 c1 c2 c3,a=some ad/\Am.cell h ad.block (ad.off+i*4)=some c0/\Am.cell h ad.block (ad.off+i*4+1)=some c1/\Am.cell h ad.block (ad.off+i*4+1+1)=some c2/\Am.cell h ad.block (ad.off+i*4+1+1+1)=some c3/\cD h p f l[i] [c0,c1,c2,c3]:=by
 obtain ⟨vs,h4,h5,h6,h7⟩:=x
 have aS:i*4+3<vs.length:=by omega
 have hm:=h7 i l[i] (bk hi)
 obtain ⟨ad,e0,g0⟩:=h4.cell (i:=i*4) (bk (by omega))
 obtain ⟨ad1,e1,g1⟩:=h4.cell (i:=i*4+1) (bk (by omega))
 obtain ⟨qW,e2,g2⟩:=h4.cell (i:=i*4+2) (bk (by omega))
 obtain ⟨ad3,e3,g3⟩:=h4.cell (i:=i*4+3) (bk (by omega))
 subst e0
 injection e1 with e1
 injection e2 with e2
 injection e3 with e3
 subst e1;subst e2;subst e3
 have e4:(vs.drop (i*4)).take 4 = [vs[i*4],vs[i*4+1],vs[i*4+2],vs[i*4+3]]:=by
  apply io
  intro j
  match j with
  | 0=>rw [bJ (by decide),bZ];exact bk (by omega)
  | 1=>rw [bJ (by decide),bZ];exact bk (by omega)
  | 2=>rw [bJ (by decide),bZ];exact bk (by omega)
  | 3=>rw [bJ (by decide),bZ];exact bk (by omega)
  | j+4=>rw [cE (by simp;omega),cE (by simp)]
 rw [e4] at hm
 exact ⟨ad,_,_,_,_,rfl,g0,by rw [bO];exact g1,by rw [bO,bO];exact g2,by rw [bO,bO,bO];exact g3,hm⟩
def dt{α:Type}(g:α->Nat):List α->Nat
 | []=>0
 | t :: r=>g t+dt g r
def eH:Nat->Tm->Nat
 | 0,_=>0
 | f+1,.mk _ _ _ l=>l.length+dt (eH f) l
theorem sy(g:α->Nat){l:List α}(hi:i<l.length):dt g (l.drop i)=g l[i]+dt g (l.drop (i+1)):=by rw [dJ hi];rfl
def jJ:Nat->Tm->Prop
 | 0,_=>False
 | f+1,.mk _ _ s l=>s.size<=1048576/\l.length<=1048576/\∀ t∈l,jJ f t
abbrev ah(k n:Int)(s:ByteArray)(a:Option Addr)(m:Nat):List Value:=[.int .i64 k,.int .i64 n,.string s,.slice a m m]
def SzT(base f:Nat):Prop:=∀ (h:AH) (p:Nat->Prop) (t:Tm) (cs:List Value) (left:Int),cD h p f t cs->base<=h.length->(∀ b,p b->b<h.length)->0<=left->left<=1048576 ->
 ∃ z h',run (Et base) 80 [.agg cs.toArray,.int .i64 left] h=some (.int .i64 z,h')/\KB bp h h'/\z<=left/\-1<=z/\(¬z<0->jJ f t/\z+(eH f t:Int)<=left)
theorem qX(ih:SzT base f)(hl:l.length<=1048576):∀ (d i:Nat) (h:AH) (left:Int),i+d=l.length->iQ h p f l a->base<=h.length->(∀ b,p b->b<h.length)->0<=left->left<=1048576 ->
  ∃ e z h',aF (G0 base) [some (.slice a l.length l.length),some (.int .i64 left),some (.int .i64 (i:Int))] h=some (e,[some (.int .i64 z)],h')/\(e=1\/e=2)/\KB bp h h'/\z<=left/\-1<=z/\(¬z<0->(∀ j t,i<=j->l[j]? = some t->jJ f t)/\z+(dt (eH f) (l.drop i):Int)<=left):=by
 intro d
 induction d with
 | zero=>
  intro i h left hi hs hb hp h0 h1
  refine ⟨2,left,h,?_,.inr rfl,KB.refl _ _,gb _,by omega,λ_=>⟨λj t hj vn=>?_,by rw [show l.drop i = [] from dZ (by omega)];simp [dt]⟩⟩
  ·rw [cg,CZ]
   have:¬((i:Int)<(l.length:Int)):=by omega
   simp [this]
  ·have:=(bY.1 vn).1;omega
 | succ d fJ=>
  intro i h left hi hs hb hp h0 h1
  have aS:i<l.length:=by omega
  obtain ⟨ad,c0,c1,c2,c3,rfl,g0,g1,g2,g3,hm⟩:=hs.get aS
  obtain ⟨z,h',e1,k1,z1,z2,z3⟩:=ih h p l[i] _ left hm hb hp h0 h1
  cases f with
  | zero=>exact hm.elim
  | succ f=>
   generalize ht:l[i]=tt at hm z3
   obtain ⟨k,n,s,ll⟩:=tt
   obtain ⟨a2,bV,_,_,_⟩:=hm.parts
   injection bV with q0 bV
   injection bV with q1 bV
   injection bV with q2 bV
   injection bV with q3 _
   subst q0;subst q1;subst q2;subst q3
   have step:∀ r,(if (decide (z<(0:Int)))=true then
     some (1,[some (Value.int .i64 (-1:Int))],h')
    else
     some (0,[some (.slice (some ad) l.length l.length),some (.int .i64 z),some (.int .i64 (ag .i64 ((i:Int)+(1:Int))))],h'))=some r ->
     G0 base [some (.slice (some ad) l.length l.length),some (.int .i64 left),some (.int .i64 (i:Int))] h=some r:=by
    intro r hr
    rw [CZ]
    refine aE (decide_eq_true (by omega)) (aE ⟨by omega,by omega⟩ (bs rfl ?_))
    simp only [aM]
    refine bI g0 (bI g1 (bT g2 (bS g3 ?_)))
    exact bs e1 (bs rfl hr)
   by_cases hz:z<0
   ·refine ⟨1,-1,h',?_,.inl rfl,k1,by omega,by omega,λh=>absurd (by decide) h⟩
    rw [cg,step _ (aE (decide_eq_true hz) rfl)]
    simp
   ·obtain ⟨e,zz,IA,m1,m2,m3,m4,m5,m6⟩:=fJ (i+1) h' z (by omega) (hs.ax k1 λ_ _ h=>h) (by have:=k1.1;omega) (λb zy=>by have:=hp b zy;have:=k1.1;omega) (by omega) (by omega)
    refine ⟨e,zz,IA,?_,m2,KB.trans k1 m3 (λ_ _ h=>h) (λ_ _ h=>h),by omega,m5,λOD=>⟨λj t hj vn=>?_,by rw [sy _ aS,ht];have:=(m6 OD).2;have:=(z3 hz).2;omega⟩⟩
    ·rw [cg,step _ (aU (by simpa using hz) rfl)]
     simp only [aJ,if_true]
     rw [bm (by omega) (by omega),show ((i:Int)+1)=((i+1:Nat):Int) from by omega]
     exact m1
    ·by_cases hji:j=i
     ·subst hji
      rw [bk aS] at vn
      injection vn with vn
      rw [<- vn,ht]
      exact (z3 hz).1
     ·exact (m6 OD).1 j t (by omega) vn
theorem qo{base:Nat}:∀ f,SzT base f
 | 0=>λh p t cs left x=>x.elim
 | f+1=>λh p t cs left x hb hp h0 h1=>by
  obtain ⟨k,n,s,l⟩:=t
  obtain ⟨a,rfl,vo,hs,hl⟩:=x.parts
  simp only [maxLen] at hs hl
  obtain ⟨o1,k1,q1⟩:=aI (base:=base) (t:=77) (h:=h) (cs:=ah k n s a l.length) hb rfl
  generalize da:h++[some (⟨ah k n s a l.length,77⟩:df)]=kg at o1 k1 q1
  have start:∀ r,(if (decide ((ag .i64 (left-(s.size:Int)))<(0:Int)))=true then
    some (Value.int .i64 (-1:Int),kg)
   else
    (run (Et base) 78 [.slice a l.length l.length,.int .i64 (ag .i64 (left-(s.size:Int)))] kg).bind λr4=>
    ((some r4.1).bind (au .i64)).bind λn5=>
    (if (decide (n5<(0:Int)))=true then
    some (.int .i64 (-1:Int),r4.2)
    else
    some (.int .i64 n5,r4.2)))=some r->run (Et base) 80 [.agg (ah k n s a l.length).toArray,.int .i64 left] h=some r:=by
   intro r hr
   refine Am.UT (lets λmU eh=>?_)
   rw [da] at eh
   subst eh
   refine bT (o1.ap (i:=2) rfl) ?_
   by_cases hc:(decide ((ag .i64 (left-(s.size:Int)))<(0:Int)))=true
   ·rw [if_pos hc] at hr ⊢;exact hr
   ·rw [if_neg hc] at hr ⊢
    exact bS (o1.ap (i:=3) rfl) hr
  rw [bm (by omega) (by omega)] at start
  by_cases c1:left-(s.size:Int)<0
  ·exact ⟨-1,kg,start _ (aE (decide_eq_true c1) rfl),k1,by omega,by omega,λh=>absurd (by decide) h⟩
  ·-- the row
   have akM:=vo.ax k1 λ_ _ h=>h
   by_cases c2:left-(s.size:Int)-(l.length:Int)<0
   ·refine ⟨-1,kg,start _ (aU (by simpa using c1) (bs (v:=(.int .i64 (-1),kg)) (Am.Xe ?_) (bs (v:=(-1:Int)) rfl (aE (by decide) rfl)))),k1,by omega,by omega,λh=>absurd (by decide) h⟩
    rw [bm (by omega) (by omega)]
    exact aE (decide_eq_true c2) rfl
   ·obtain ⟨e,z,h2,m1,m2,m3,m4,m5,m6⟩:=qX (base:=base) (f:=f) (qo f) (by omega) l.length 0 kg (left-s.size-l.length) (by omega) akM (by omega) (λb zy=>by have:=hp b zy;omega) (by omega) (by omega)
    have hS:run (Et base) 78 [.slice a l.length l.length,.int .i64 (left-(s.size:Int))] kg=some (.int .i64 z,h2):=by
     refine Am.Xe ?_
     rw [bm (by omega) (by omega)]
     refine aU (by simpa using c2) (bs m1 ?_)
     rcases m2 with rfl|rfl
     ·exact aE rfl (bs rfl rfl)
     ·exact aU (by simp) (aE rfl (bs rfl rfl))
    have kk:KB bp h h2:=KB.trans k1 m3 (λ_ _ h=>h) (λ_ _ h=>h)
    by_cases hz:z<0
    ·exact ⟨-1,h2,start _ (aU (by simpa using c1) (bs hS (bs rfl (aE (decide_eq_true hz) rfl)))),kk,by omega,by omega,λh=>absurd (by decide) h⟩
    ·refine ⟨z,h2,start _ (aU (by simpa using c1) (bs hS (bs rfl (aU (by simpa using hz) rfl)))),kk,by omega,m5,λ_=>⟨⟨by omega,by omega,λt ht=>?_⟩,by have:=(m6 hz).2;simp only [cH] at this;simp only [eH];omega⟩⟩
     obtain ⟨j,hj,rfl⟩:=List.mem_iff_getElem.1 ht
     exact (m6 hz).1 j _ (by omega) (bk hj)
theorem cD.form{t:Tm}(x:cD h p f t cs):∃ k n s a m,cs=ah k n s a m:=by
 cases f with
 | zero=>exact x.elim
 | succ f=>
  obtain ⟨k,n,s,l⟩:=t
  obtain ⟨a,e,_⟩:=x.parts
  exact ⟨k,n,s,a,_,e⟩
theorem cD.le{h:AH}{p:Nat->Prop}:∀ {f f':Nat} (hf:f<=f') {t:Tm} {cs:List Value},cD h p f t cs->cD h p f' t cs
 | 0,_,_,_,_,x=>x.elim
 | f+1,0,hf,_,_,_=>absurd hf (Nat.not_succ_le_zero _)
 | f+1,f'+1,hf,.mk k n s l,cs,x=>by
  obtain ⟨h1,h2,a,vs,h3,h4,h5,h6,h7⟩:=x
  exact ⟨h1,h2,a,vs,h3,h4,h5,h6,λi t hi=>(h7 i t hi).le (Nat.le_of_succ_le_succ hf)⟩
theorem iQ.le{h:AH}{p:Nat->Prop}{f f':Nat}(hf:f<=f'){l:List Tm}{a:Option Addr}(x:iQ h p f l a):iQ h p f' l a:=by
 obtain ⟨vs,h1,h2,h3,h4⟩:=x
 exact ⟨vs,h1,h2,h3,λi y hy=>(h4 i y hy).le hf⟩
theorem iQ.akN(ih:∀ t cs,cD h p f t cs->cD h (λb=>p b/\b<h.length) f t cs)(x:iQ h p f l a):iQ h (λb=>p b/\b<h.length) f l a:=by
 obtain ⟨vs,h1,h2,h3,h4⟩:=x
 refine ⟨vs,h1,?_,h3,λi t hi=>ih _ _ (h4 i t hi)⟩
 rcases h2 with e|h2
 ·exact .inl e
 ·rcases h1 with e|⟨ad,k,e1,e2,_⟩
  ·exact .inl e
  ·exact .inr λb hb=>⟨h2 b hb,by obtain ⟨rv,e3,e4⟩:=hb;rw [e1] at e3;injection e3 with e3;subst e3;subst e4;exact di e2⟩
theorem cD.ltp{h:AH}{p:Nat->Prop}:∀ (f:Nat) (t:Tm) (cs:List Value),cD h p f t cs->cD h (λb=>p b/\b<h.length) f t cs
 | 0,_,_,x=>x.elim
 | f+1,.mk k n s l,cs,x=>by
  obtain ⟨a,rfl,vo,h1,h2⟩:=x.parts
  exact cD.of (vo.akN (cD.ltp f)) h1 h2
section
abbrev Fp:=Nat->Prop
abbrev iS(lo hi:Nat):Fp:=λb=>lo<=b/\b<hi
abbrev chunk(w i:Nat)(vs:List Value):List Value:=(vs.drop (i*w)).take w
def Kp(P:Fp->AH->α->List Value->Prop):Prop:=∀ (S U:Fp) (h h':AH) (x:α) (cs:List Value),KB U h h'->(∀ b,S b->¬U b)->P S h x cs->P S h' x cs
def Mo(P:Fp->AH->α->List Value->Prop):Prop:=∀ (S S':Fp) (h:AH) (x:α) (cs:List Value),(∀ b,S b->S' b)->P S h x cs->P S' h x cs
section
variable {α:Type} {w:Nat} {P:Fp->AH->α->List Value->Prop}
def bC(w:Nat)(P:Fp->AH->α->List Value->Prop)(S:Fp)(h:AH)(l:List α)(vs:List Value):Prop:=
 ∃ C:Nat->Fp,(∀ i b,C i b->S b)/\(∀ i j b,i≠j->C i b->¬C j b)/\∀ i x,l[i]? = some x->P (C i) h x (chunk w i vs)
def fk(w:Nat)(P:Fp->AH->α->List Value->Prop)(S:Fp)(h:AH)(l:List α)(a:Option Addr):Prop:=
 ∃ (vs:List Value) (T:Fp),Sl h a vs/\vs.length=l.length*w/\(vs = []\/∀ b,bK a b->S b/\¬T b)/\(∀ b,T b->S b)/\bC w P T h l vs
theorem bC.ax(kp:Kp P){S U:Fp}{l:List α}(k:KB U h h')(hs:∀ b,S b->¬U b)(x:bC w P S h l vs):bC w P S h' l vs:=by
 obtain ⟨C,c1,c2,c3⟩:=x
 exact ⟨C,c1,c2,λi y hy=>kp _ _ _ _ _ _ k (λb hb=>hs b (c1 i b hb)) (c3 i y hy)⟩
theorem bC.mono{S S':Fp}{l:List α}(hs:∀ b,S b->S' b)(x:bC w P S h l vs):bC w P S' h l vs:=by
 obtain ⟨C,c1,c2,c3⟩:=x
 exact ⟨C,λi b hb=>hs b (c1 i b hb),c2,c3⟩
theorem bC.nil{S:Fp}:bC w P S h ([]:List α) vs:=⟨λ_ _=>False,λ_ _ h=>h.elim,λ_ _ _ _ h=>h.elim,λi x h=>by simp at h⟩
theorem bC.snoc{S S' T:Fp}{l:List α}{ji:List Value}{x:α}(c:bC w P S h l vs)(hx:P T h x cs)(hT:∀ b,T b->¬S b)(h1:∀ b,S b->S' b)(h2:∀ b,T b->S' b)
  (hv:∀ i,i<l.length->chunk w i ji=chunk w i vs)(hc:chunk w l.length ji=cs):bC w P S' h (l++[x]) ji:=by
 obtain ⟨C,c1,c2,c3⟩:=c
 refine ⟨λi b=>if i=l.length then T b else (i<l.length/\C i b),λi b hb=>?_,λi j b uM hi hj=>?_,λi y hy=>?_⟩
 ·simp only at hb
  split at hb
  ·exact h2 b hb
  ·exact h1 b (c1 i b hb.2)
 ·simp only at hi hj
  split at hi
  ·rename_i e
   split at hj
   ·rename_i e2;exact uM (e.trans e2.symm)
   ·exact hT b hi (c1 j b hj.2)
  ·split at hj
   ·exact hT b hj (c1 i b hi.2)
   ·exact c2 i j b uM hi.2 hj.2
 ·have aS:i<l.length+1:=by have:=(bY.1 hy).1;simpa using this
  by_cases e:i=l.length
  ·subst e
   simp at hy
   subst hy
   have ee:(λb=>if l.length=l.length then T b else (l.length<l.length/\C l.length b))=T:=by funext b;simp
   show P (λb=>if l.length=l.length then T b else (l.length<l.length/\C l.length b)) h x (chunk w l.length ji)
   rw [ee,hc]
   exact hx
  ·have hi:i<l.length:=by omega
   have ee:(λb=>if i=l.length then T b else (i<l.length/\C i b))=C i:=by funext b;simp [e,hi]
   show P (λb=>if i=l.length then T b else (i<l.length/\C i b)) h y (chunk w i ji)
   rw [ee,hv i hi]
   rw [gE hi] at hy
   exact c3 i y hy
theorem fk.ax(kp:Kp P){S U:Fp}{h h':AH}{l:List α}{a:Option Addr}(x:fk w P S h l a)(k:KB U h h')(hs:∀ b,S b->¬U b):fk w P S h' l a:=by
 obtain ⟨vs,T,x1,x2,x3,x4,x5⟩:=x
 refine ⟨vs,T,?_,x2,x3,x4,x5.ax kp k λb hb=>hs b (x4 b hb)⟩
 rcases x3 with e|x3
 ·exact .inl e
 ·exact x1.ax k λb hb=>hs b (x3 b hb).1
theorem fk.mono{S S':Fp}{l:List α}(x:fk w P S h l a)(hs:∀ b,S b->S' b):fk w P S' h l a:=by
 obtain ⟨vs,T,x1,x2,x3,x4,x5⟩:=x
 exact ⟨vs,T,x1,x2,x3.imp id λg b hb=>⟨hs b (g b hb).1,(g b hb).2⟩,λb hb=>hs b (x4 b hb),x5⟩
def a_(base t w:Nat)(P:Fp->AH->α->List Value->Prop)(S:Fp)(h:AH)(l:List α)(a:Option Addr):Prop:=
 ∃ (vs:List Value) (T:Fp),bQ base t h a vs/\vs.length=l.length*w/\(∀ b,bK a b->S b/\¬T b)/\(∀ b,T b->S b)/\bC w P T h l vs
theorem a_.d{S:Fp}{l:List α}(x:a_ base t w P S h l a):fk w P S h l a:=by
 obtain ⟨vs,T,x1,x2,x3,x4,x5⟩:=x
 exact ⟨vs,T,x1.sl,x2,.inr x3,x4,x5⟩
theorem a_.ax(kp:Kp P){base t:Nat}{S U:Fp}{h h':AH}{l:List α}{a:Option Addr}(x:a_ base t w P S h l a)(k:KB U h h')(hs:∀ b,S b->¬U b):a_ base t w P S h' l a:=by
 obtain ⟨vs,T,x1,x2,x3,x4,x5⟩:=x
 exact ⟨vs,T,x1.ax k λb hb=>hs b (x3 b hb).1,x2,x3,x4,x5.ax kp k λb hb=>hs b (x4 b hb)⟩
theorem a_.mono{S S':Fp}{l:List α}(x:a_ base t w P S h l a)(hs:∀ b,S b->S' b):a_ base t w P S' h l a:=by
 obtain ⟨vs,T,x1,x2,x3,x4,x5⟩:=x
 exact ⟨vs,T,x1,x2,λb hb=>⟨hs b (x3 b hb).1,(x3 b hb).2⟩,λb hb=>hs b (x4 b hb),x5⟩
theorem a_.nil{base t:Nat}{S:Fp}{h:AH}:a_ base t w P S h ([]:List α) none:=⟨[],λ_=>False,.inl ⟨rfl,rfl⟩,by simp,λb hb=>(by obtain ⟨_,e,_⟩:=hb;cases e),λ_ h=>h.elim,bC.nil⟩
theorem bC.imp{Q:Fp->AH->α->List Value->Prop}{S:Fp}{l:List α}(hPQ:∀ S h x cs,P S h x cs->Q S h x cs)(x:bC w P S h l vs):bC w Q S h l vs:=by
 obtain ⟨C,c1,c2,c3⟩:=x
 exact ⟨C,c1,c2,λi y hy=>hPQ _ _ _ _ (c3 i y hy)⟩
theorem fk.imp{Q:Fp->AH->α->List Value->Prop}{S:Fp}{h:AH}{l:List α}{a:Option Addr}(hPQ:∀ S h x cs,P S h x cs->Q S h x cs)(x:fk w P S h l a):fk w Q S h l a:=by
 obtain ⟨vs,T,x1,x2,x3,x4,x5⟩:=x
 exact ⟨vs,T,x1,x2,x3,x4,x5.imp hPQ⟩
theorem Sl.wr{base:Nat}{h:AH}{a:Option Addr}{vs:List Value}(x:Sl h a vs)(hb:∀ b,bK a b->base<=b){i:Nat}{new:List Value}(hi:i+new.length<=vs.length)(h0:0<new.length):
  ∃ ad h',a=some ad/\Am.wr base h ad.block (ad.off+i) new=some h'/\Sl h' a (setAt vs i new)/\KB (bK a) h h'/\h'.length=h.length:=by
 rcases x with h|⟨ad,kk,h1,h2,h3,h4⟩
 ·subst h;simp only [G7] at hi;omega
 ·have H6:=hb ad.block ⟨ad,h1,rfl⟩
  refine ⟨ad,h.set ad.block (some ⟨setAt kk.cs (ad.off+i) new,kk.ty⟩),h1,?_,?_,KB.set _ ⟨ad,h1,rfl⟩,by simp⟩
  ·unfold Am.wr
   rw [if_pos H6,h2]
   simp only [aJ]
   rw [if_pos (by omega)]
  ·have hl:(setAt vs i new).length=vs.length:=by simp [setAt];omega
   refine .inr ⟨ad,⟨setAt kk.cs (ad.off+i) new,kk.ty⟩,h1,du (di h2),?_,λj v hj=>?_⟩
   ·rw [hl];simp [setAt];omega
   ·simp only
    rw [cY hi] at hj
    rw [cY (by omega)]
    split at hj
    ·rename_i Eb
     rw [if_pos (by omega),show ad.off+j-(ad.off+i)=j-i from by omega]
     exact hj
    ·rename_i Bq
     rw [if_neg (by omega)]
     exact h4 j v hj
def M8(w:Nat)(P:Fp->AH->α->List Value->Prop)(S:Fp)(h:AH)(l:List α)(a:Option Addr)(i:Nat)(Ci:Fp)(cs:List Value):Prop:=
 ∃ (vs:List Value) (T:Fp) (C:Nat->Fp),Sl h a vs/\vs.length=l.length*w/\(∀ b,bK a b->S b/\¬T b)/\(∀ b,T b->S b)/\(∀ q b,C q b->T b)/\(∀ q j b,q≠j->C q b->¬C j b) /\
  (∀ q x,q≠i->l[q]? = some x->P (C q) h x (chunk w q vs))/\i<l.length/\chunk w i vs=cs/\C i=Ci
theorem dD{w:Nat}(h:i<n):i*w+w<=n*w:=by
 have:=Nat.mul_le_mul_right w (Nat.succ_le_of_lt h)
 rw [Nat.succ_mul] at this
 exact this
theorem kC{w:Nat}(hl:vs.length=n*w)(hi:i<n):(chunk w i vs).length=w:=by
 have:=dD (w:=w) hi
 simp [chunk]
 omega
theorem fk.open(hw:0<w){S:Fp}{l:List α}(x:fk w P S h l a)(hi:i<l.length):
  ∃ Ci cs,M8 w P S h l a i Ci cs/\P Ci h l[i] cs/\cs.length=w/\(∀ b,Ci b->S b)/\(∀ b,bK a b->¬Ci b):=by
 obtain ⟨vs,T,x1,x2,x3,x4,C,c1,c2,c3⟩:=x
 have dv:vs≠[]:=by
  intro e
  subst e
  have:=dD (w:=w) hi
  simp at x2
  omega
 have x3':=x3.resolve_left dv
 exact ⟨C i,chunk w i vs,⟨vs,T,C,x1,x2,x3',x4,c1,c2,λq y _ hy=>c3 q y hy,hi,rfl,rfl⟩,c3 i _ (bk hi),kC x2 hi,λb hb=>x4 b (c1 i b hb),λb hb hc=>(x3' b hb).2 (c1 i b hc)⟩
theorem M8.close{S:Fp}{l:List α}{Ci:Fp}(x:M8 w P S h l a i Ci cs){y:α}(hy:P Ci h y cs):fk w P S h (l.set i y) a:=by
 obtain ⟨vs,T,C,x1,x2,x3,x4,c1,c2,c3,hi,e1,e2⟩:=x
 refine ⟨vs,T,x1,by simpa using x2,.inr x3,x4,C,c1,c2,λq z hz=>?_⟩
 by_cases e:q=i
 ·subst e
  rw [vp hi] at hz
  injection hz with hz
  subst hz
  rw [e1,e2]
  exact hy
 ·rw [qp (by omega)] at hz
  exact c3 q z e hz
theorem M8.ax(kp:Kp P){S U:Fp}{h h':AH}{l:List α}{a:Option Addr}{i:Nat}{Ci:Fp}{cs:List Value}(x:M8 w P S h l a i Ci cs)(k:KB U h h')(hs:∀ b,S b->U b->Ci b):M8 w P S h' l a i Ci cs:=by
 obtain ⟨vs,T,C,x1,x2,x3,x4,c1,c2,c3,hi,e1,e2⟩:=x
 subst e2
 refine ⟨vs,T,C,x1.ax k λb hb hu=>(x3 b hb).2 (c1 i b (hs b (x3 b hb).1 hu)),x2,x3,x4,c1,c2,λq y hq hy=>kp _ _ _ _ _ _ k (λb hb hu=>c2 q i b hq hb (hs b (x4 b (c1 q b hb)) hu)) (c3 q y hq hy),hi,e1,rfl⟩
theorem M8.wr(kp:Kp P){base:Nat}{S:Fp}{h:AH}{l:List α}{a:Option Addr}{i:Nat}{Ci:Fp}{cs:List Value}(x:M8 w P S h l a i Ci cs)(hb:∀ b,S b->base<=b){j:Nat}{new:List Value}(hj:j+new.length<=w)(h0:0<new.length):
  ∃ ad h',a=some ad/\Am.wr base h ad.block (ad.off+i*w+j) new=some h'/\M8 w P S h' l a i Ci (setAt cs j new)/\KB (bK a) h h'/\h'.length=h.length:=by
 obtain ⟨vs,T,C,x1,x2,x3,x4,c1,c2,c3,hi,e1,e2⟩:=x
 subst e2
 have hle:=dD (w:=w) hi
 obtain ⟨ad,h',w1,w2,w3,w4,w5⟩:=x1.wr (base:=base) (λb H6=>hb b (x3 b H6).1) (i:=i*w+j) (new:=new) (by omega) h0
 refine ⟨ad,h',w1,by rw [bO];exact w2,⟨setAt vs (i*w+j) new,T,C,w3,?_,x3,x4,c1,c2,λq y hq hy=>?_,hi,?_,rfl⟩,w4,w5⟩
 ·simp [setAt];omega
 ·have e:chunk w q (setAt vs (i*w+j) new)=chunk w q vs:=by
   apply io
   intro t
   by_cases ht:t<w
   ·rw [chunk,chunk,bJ ht,bJ ht,bZ,bZ,cY (by omega),if_neg]
    intro hh
    rcases mV hq with aS|uC
    ·have:=dD (w:=w) aS;omega
    ·have:=dD (w:=w) uC;omega
   ·rw [cE (by simp [chunk];omega),cE (by simp [chunk];omega)]
  rw [e]
  exact kp _ _ _ _ _ _ w4 (λb H6 hk=>(x3 b hk).2 (c1 q b H6)) (c3 q y hq hy)
 ·rw [<- e1]
  apply io
  intro t
  have nI:(chunk w i vs).length=w:=kC x2 hi
  by_cases ht:t<w
  ·rw [chunk,bJ ht,bZ,cY (by omega),cY (by omega)]
   by_cases Eb:j<=t/\t<j+new.length
   ·rw [if_pos (by omega),if_pos (by omega),show i*w+t-(i*w+j)=t-j from by omega]
   ·rw [if_neg (by omega),if_neg (by omega),chunk,bJ ht,bZ]
  ·rw [cE (by simp [chunk];omega),cE (by simp [setAt];omega)]
theorem M8.cell{S:Fp}{h:AH}{l:List α}{a:Option Addr}{i:Nat}{Ci:Fp}{cs:List Value}(x:M8 w P S h l a i Ci cs){j:Nat}{v:Value}(hv:cs[j]? = some v):∃ ad,a=some ad/\Am.cell h ad.block (ad.off+i*w+j)=some v:=by
 obtain ⟨vs,T,C,x1,x2,x3,x4,c1,c2,c3,hi,e1,e2⟩:=x
 have hjw:j<w:=by
  have h1:=(bY.1 hv).1
  rw [<- e1,kC x2 hi] at h1
  exact h1
 rw [<- e1,chunk,bJ hjw,bZ] at hv
 obtain ⟨ad,g1,g2⟩:=x1.cell hv
 exact ⟨ad,g1,by rw [bO];exact g2⟩
end
theorem gr(hc:cs.length=w)(hi:i*w+w<=vs.length):chunk w i (setAt vs (i*w) cs)=cs:=by
 apply io
 intro j
 by_cases hj:j<w
 ·rw [chunk,bJ hj,bZ,cY (by omega),if_pos (by omega),show i*w+j-i*w=j from by omega]
 ·rw [cE (by simp [chunk];omega),cE (by omega)]
theorem fW(hc:cs.length=w)(hi:i*w+w<=vs.length)(dv:j≠i):chunk w j (setAt vs (i*w) cs)=chunk w j vs:=by
 apply io
 intro k
 by_cases hk:k<w
 ·rw [chunk,chunk,bJ hk,bJ hk,bZ,bZ,cY (by omega),if_neg]
  intro hh
  rcases mV dv with aS|uC
  ·have:=dD (w:=w) aS;omega
  ·have:=dD (w:=w) uC;omega
 ·rw [cE (by simp [chunk];omega),cE (by simp [chunk];omega)]
theorem dc(hi:i*w+w<=vs.length):chunk w i (vs++cs)=chunk w i vs:=by
 apply io
 intro k
 by_cases hk:k<w
 ·rw [chunk,chunk,bJ hk,bJ hk,bZ,bZ,gE (by omega)]
 ·rw [cE (by simp [chunk];omega),cE (by simp [chunk];omega)]
theorem eL(hc:cs.length=w)(hi:vs.length=i*w):chunk w i (vs++cs)=cs:=by
 rw [chunk,<- hi,List.drop_left,<- hc,List.take_length]
theorem ed{l:List α}(hi:i<l.length):l.take (i+1)=l.take i++[l[i]]:=by simp
def jG:Nat->Fp->AH->Tm->List Value->Prop
 | 0,_,_,_,_=>False
 | f+1,S,h,.mk k n s l,cs=>s.size<=maxLen/\l.length<=maxLen/\∃ a,cs=ah k n s a l.length/\fk 4 (jG f) S h l a
theorem jG.kp:∀ f,Kp (jG f)
 | 0=>λS U h h' x cs k hs y=>y.elim
 | f+1=>λS U h h' x cs k hs y=>by
  obtain ⟨kk,n,s,l⟩:=x
  obtain ⟨h1,h2,a,e,r⟩:=y
  exact ⟨h1,h2,a,e,r.ax (jG.kp f) k hs⟩
theorem jG.mo:∀ f,Mo (jG f)
 | 0=>λS S' h x cs hs y=>y.elim
 | f+1=>λS S' h x cs hs y=>by
  obtain ⟨kk,n,s,l⟩:=x
  obtain ⟨h1,h2,a,e,r⟩:=y
  exact ⟨h1,h2,a,e,r.mono hs⟩
theorem fk.aee(ih:∀ S h t cs,jG f S h t cs->cD h S f t cs){S:Fp}(x:fk 4 (jG f) S h l a):iQ h S f l a:=by
 obtain ⟨vs,T,x1,x2,x3,x4,C,c1,c2,c3⟩:=x
 exact ⟨vs,x1,x3.imp id λg b hb=>(g b hb).1,x2,λi t hi=>(ih _ _ _ _ (c3 i t hi)).mono (λb hb=>x4 b (c1 i b hb)) _ _ _⟩
theorem jG.vq:∀ f S h t cs,jG f S h t cs->cD h S f t cs
 | 0,S,h,t,cs,x=>x.elim
 | f+1,S,h,.mk k n s l,cs,x=>by
  obtain ⟨h1,h2,a,e,r⟩:=x
  subst e
  exact cD.of (fk.aee (jG.vq f) r) h1 h2
theorem fk.tsR{S:Fp}(x:fk 4 (jG f) S h l a):iQ h S f l a:=x.aee (jG.vq f)
def bM(base:Nat):Nat->Fp->AH->Tm->List Value->Prop
 | 0,_,_,_,_=>False
 | f+1,S,h,.mk k n s l,cs=>s.size<=maxLen/\l.length<=maxLen/\∃ a,cs=ah k n s a l.length/\a_ base 56 4 (bM base f) S h l a
theorem bM.kp(base:Nat):∀ f,Kp (bM base f)
 | 0=>λS U h h' x cs k hs y=>y.elim
 | f+1=>λS U h h' x cs k hs y=>by
  obtain ⟨kk,n,s,l⟩:=x
  obtain ⟨h1,h2,a,e,r⟩:=y
  exact ⟨h1,h2,a,e,r.ax (bM.kp base f) k hs⟩
theorem bM.mo(base:Nat):∀ f,Mo (bM base f)
 | 0=>λS S' h x cs hs y=>y.elim
 | f+1=>λS S' h x cs hs y=>by
  obtain ⟨kk,n,s,l⟩:=x
  obtain ⟨h1,h2,a,e,r⟩:=y
  exact ⟨h1,h2,a,e,r.mono hs⟩
theorem bM.d{base:Nat}:∀ {f:Nat} {S:Fp} {h:AH} {t:Tm} {cs:List Value},bM base f S h t cs->jG f S h t cs
 | 0,_,_,_,_,x=>x.elim
 | f+1,S,h,.mk k n s l,cs,x=>by
  obtain ⟨h1,h2,a,e,r⟩:=x
  exact ⟨h1,h2,a,e,r.d.imp λ_ _ _ _=>bM.d⟩
theorem a_.dT{S:Fp}(x:a_ base t 4 (bM base f) S h l a):fk 4 (jG f) S h l a:=x.d.imp λ_ _ _ _=>bM.d
theorem a_.Ql{S:Fp}(x:a_ base t 4 (bM base f) S h l a):iQ h S f l a:=x.dT.tsR
theorem bM.vq{base f:Nat}{S:Fp}{h:AH}{t:Tm}{cs:List Value}(x:bM base f S h t cs):cD h S f t cs:=jG.vq _ _ _ _ _ x.d
theorem bM.form{S:Fp}{t:Tm}(x:bM base f S h t cs):∃ k n s a m,cs=ah k n s a m:=by
 cases f with
 | zero=>exact x.elim
 | succ f=>obtain ⟨k,n,s,l⟩:=t;obtain ⟨_,_,a,e,_⟩:=x;exact ⟨k,n,s,a,_,e⟩
end
variable{S S' U:Fp}
def X3(base f:Nat):Prop:=∀ (h:AH) (p:Nat->Prop) (t:Tm) (cs:List Value),cD h p f t cs->jJ f t->base<=h.length->(∀ b,p b->b<h.length) ->
 ∃ fy h',run (Et base) 98 [.agg cs.toArray] h=some (.agg fy.toArray,h')/\bM base f (iS h.length h'.length) h' t fy/\KB bp h h'
theorem wC(ih:X3 base f)(hl:l.length<=1048576)(hB:∀ t∈l,jJ f t)(hp:∀ b,p b->b<ob):∀ (d i:Nat) (h:AH) (vs:List Value),i+d=l.length->iQ h p f l a->ob<h.length->base<=h.length->bQ base 56 h (ap ob) vs->vs.length=l.length*4 ->
  bC 4 (bM base f) (iS (ob+1) h.length) h (l.take i) vs ->
  ∃ h' ji,aF (G4 base) [some (.slice a l.length l.length),some (.slice (ap ob) l.length l.length),some (.int .i64 (i:Int))] h=some (2,[some (.slice (ap ob) l.length l.length)],h')/\bQ base 56 h' (ap ob) ji/\ji.length=l.length*4 /\
   bC 4 (bM base f) (iS (ob+1) h'.length) h' l ji/\KB (· = ob) h h':=by
 intro d
 induction d with
 | zero=>
  intro i h vs hi hs ho hb ow hv hd
  rw [cG (by omega)] at hd
  refine ⟨h,vs,?_,ow,hv,hd,KB.refl _ _⟩
  rw [cg,C_]
  have:¬((i:Int)<(l.length:Int)):=by omega
  simp [this]
 | succ d fJ=>
  intro i h vs hi hs ho hb ow hv hd
  have aS:i<l.length:=by omega
  obtain ⟨ad,c0,c1,c2,c3,rfl,g0,g1,g2,g3,hm⟩:=hs.get aS
  obtain ⟨fy,h1,e1,m1,k1⟩:=ih h p l[i] _ hm (hB _ (aQ aS)) hb (λb zy=>by have:=hp b zy;omega)
  have n1:=k1.1
  cases f with
  | zero=>exact hm.elim
  | succ f=>
   have hm1:=m1
   generalize ht:l[i]=tt at hm hm1
   obtain ⟨k,n,s,ll⟩:=tt
   obtain ⟨a2,bV,_,_,_⟩:=hm.parts
   injection bV with q0 bV
   injection bV with q1 bV
   injection bV with q2 bV
   injection bV with q3 _
   subst q0;subst q1;subst q2;subst q3
   obtain ⟨_,_,a3,aef,_⟩:=hm1
   have I7:fy.length=4:=by rw [aef];rfl
   obtain ⟨h2,w1,w2,w3,w4⟩:=(ow.aj k1).fF (i:=i*4) (new:=fy) (by omega) (by omega)
   have vr:KB (· = ob) h h2:=KB.trans k1 w3 (λ_ _ h=>h.elim) (λ_ _ h=>h)
   have m2:=bM.kp _ _ _ _ _ _ _ _ w3 (λb (cy:iS h.length h1.length b) e=>by omega) m1
   have ch:=(hd.ax (bM.kp _ _) vr λb cy e=>by omega).snoc (ji:=setAt vs (i*4) fy) (S':=iS (ob+1) h2.length) m2 (λb cy hc=>by omega) (λb cy=>by constructor<;>omega) (λb cy=>by constructor<;>omega) (λq hq=>fW I7 (by omega) (by simp at hq;omega)) (by
    rw [List.length_take,Nat.min_eq_left (by omega)]
    exact gr I7 (by omega))
   rw [<- ed aS] at ch
   obtain ⟨h3,vs3,y1,y2,y3,y4,y5⟩:=fJ (i+1) h2 (setAt vs (i*4) fy) (by omega) (hs.ax vr λb h1 h2=>by have:=hp b h1;omega) (by omega) (by omega) w2 (by simp [setAt];omega) ch
   refine ⟨h3,vs3,?_,y2,y3,y4,KB.trans vr y5 (λ_ _ h=>h) (λ_ _ h=>h)⟩
   have step:G4 base [some (.slice (some ad) l.length l.length),some (.slice (ap ob) l.length l.length),some (.int .i64 (i:Int))] h=some (0,[some (.slice (some ad) l.length l.length),some (.slice (ap ob) l.length l.length),some (.int .i64 (ag .i64 ((i:Int)+(1:Int))))],h2):=by
    rw [C_]
    refine aE (decide_eq_true (by omega)) (aE ⟨by omega,by omega⟩ (bs rfl ?_))
    simp only [aM]
    refine bI g0 (bI g1 (bT g2 (bS g3 ?_)))
    refine bs e1 ?_
    subst aef
    refine bs (v:=ah k n s a3 ll.length) rfl (bI rfl (bI rfl (bT rfl (bS rfl ?_))))
    refine aE ⟨by omega,by omega⟩ (bs rfl ?_)
    have w1':Am.wr base h1 ob (0+i*4) (ah k n s a3 ll.length)=some h2:=by rw [cQ];exact w1
    exact bs w1' rfl
   rw [cg,step]
   simp only [aJ,if_true]
   rw [bm (by omega) (by omega),show ((i:Int)+1)=((i+1:Nat):Int) from by omega]
   exact y1
theorem Db(z0 z1 z2 z3:Value):∀ n,(lz [z0,z1,z2,z3] n).length=n*4
 | 0=>rfl
 | n+1=>by simp only [lz,py,Db z0 z1 z2 z3 n];simp;omega
theorem mW(ih:X3 base f)(hl:l.length<=1048576)(hB:∀ t∈l,jJ f t)(hs:iQ h p f l a)(hb:base<=h.length)(hp:∀ b,p b->b<h.length):
  ∃ a' h',run (Et base) 96 [.slice a l.length l.length] h=some (.slice a' l.length l.length,h')/\a_ base 56 4 (bM base f) (iS h.length h'.length) h' l a'/\KB bp h h':=by
 obtain ⟨o1,k1,q1⟩:=aI (base:=base) (t:=56) (h:=h) (cs:=lz [(.int .i64 0),(.int .i64 0),(.string ⟨#[]⟩),(.slice none 0 0)] l.length) hb rfl
 generalize da:h++[some (⟨lz [(.int .i64 0),(.int .i64 0),(.string ⟨#[]⟩),(.slice none 0 0)] l.length,56⟩:df)]=h1 at o1 k1 q1
 obtain ⟨h2,Dc,e2,o2,v2,m2,k2⟩:=wC (base:=base) ih (p:=p) (ob:=h.length) hl hB hp l.length 0 h1 _ (by omega) (hs.ax k1 λ_ _ h=>h) (by omega) (by omega) o1 (Db ..) bC.nil
 have n2:=k2.1
 refine ⟨ap h.length,h2,Am.XZ ?_,⟨Dc,iS (h.length+1) h2.length,o2,v2,λb cy=>by rw [aG] at cy;subst cy;exact ⟨by constructor<;>omega,by omega⟩,λb cy=>by constructor<;>omega,m2⟩,KB.trans k1 k2 (λ_ _ h=>h) (λi hi h=>by omega)⟩
 refine aE ⟨rfl,by omega,by omega,by omega⟩ (lets λkg eh=>?_)
 simp only [aM] at eh ⊢
 rw [da] at eh
 subst eh
 have e2':=e2
 rw [show ((0:Nat):Int)=0 from rfl] at e2'
 exact bs e2' (aE rfl (bS rfl rfl))
theorem lj{base:Nat}:∀ f,X3 base f
 | 0=>λh p t cs x=>x.elim
 | f+1=>λh p t cs x hB hb hp=>by
  obtain ⟨k,n,s,l⟩:=t
  obtain ⟨a,rfl,vo,hs,hl⟩:=x.parts
  obtain ⟨b1,b2,b3⟩:=hB
  obtain ⟨o1,k1,q1⟩:=aI (base:=base) (t:=77) (h:=h) (cs:=ah k n s a l.length) hb rfl
  generalize da:h++[some (⟨ah k n s a l.length,77⟩:df)]=h1 at o1 k1 q1
  obtain ⟨o2,k2,q2⟩:=aI (base:=base) (t:=56) (h:=h1) (cs:=ah 0 0 ⟨#[]⟩ none 0) (by omega) rfl
  generalize nO:h1++[some (⟨ah 0 0 ⟨#[]⟩ none 0,56⟩:df)]=h2 at o2 k2 q2
  obtain ⟨o3,k3,q3⟩:=aI (base:=base) (t:=56) (h:=h2) (cs:=ah 0 0 ⟨#[]⟩ none 0) (by omega) rfl
  generalize IB:h2++[some (⟨ah 0 0 ⟨#[]⟩ none 0,56⟩:df)]=h3 at o3 k3 q3
  have fg:KB bp h h3:=KB.trans (KB.trans k1 k2 (λ_ _ h=>h) (λ_ _ h=>h)) k3 (λ_ _ h=>h) (λ_ _ h=>h)
  have a3:=(o1.aj k2).aj k3
  have z3:=o2.aj k3
  obtain ⟨h5,e5,o5,k5,l5⟩:=o3.fF (i:=0) (new:=[.int .i64 k]) (by simp) (by simp)
  have a5:=a3.bF k5 λi hi=>by rw [aG] at hi;omega
  have z5:=z3.bF k5 λi hi=>by rw [aG] at hi;omega
  obtain ⟨h7,e7,o7,k7,l7⟩:=o5.fF (i:=1) (new:=[.int .i64 n]) (by simp [setAt]) (by simp)
  have a7:=a5.bF k7 λi hi=>by rw [aG] at hi;omega
  have z7:=z5.bF k7 λi hi=>by rw [aG] at hi;omega
  obtain ⟨h9,e9,o9,k9,l9⟩:=o7.fF (i:=2) (new:=[.string s]) (by simp [setAt]) (by simp)
  have a9:=a7.bF k9 λi hi=>by rw [aG] at hi;omega
  have z9:=z7.bF k9 λi hi=>by rw [aG] at hi;omega
  have s9:iQ h9 p f l a:=(((vo.ax fg λ_ _ h=>h).ax k5 λb h1 h2=>by have:=hp b h1;omega).ax k7 λb h1 h2=>by have:=hp b h1;omega).ax k9 λb h1 h2=>by have:=hp b h1;omega
  obtain ⟨a',jc,zD,t11,mz⟩:=mW (base:=base) (lj f) b2 b3 s9 (by omega) (λb zy=>by have:=hp b zy;omega)
  have eV:=mz.1
  obtain ⟨nK,X4,Qm,Ft,iN⟩:=(o9.aj mz).fF (i:=3) (new:=[.slice a' l.length l.length]) (by simp [setAt]) (by simp)
  have z13:=(z9.aj mz).bF Ft λi hi=>by rw [aG] at hi;omega
  have t13:=t11.ax (bM.kp _ _) Ft λb h1 h2=>by omega
  have Bq:setAt (setAt (setAt (setAt (ah 0 0 ⟨#[]⟩ none 0) 0 [.int .i64 k]) 1 [.int .i64 n]) 2 [.string s]) 3 [.slice a' l.length l.length]=ah k n s a' l.length:=rfl
  rw [Bq] at Qm
  obtain ⟨ku,e18,X5,Zk,pu⟩:=z13.fF (i:=0) (new:=ah k n s a' l.length) (by simp) (by simp)
  have hz:setAt (ah 0 0 ⟨#[]⟩ none 0) 0 (ah k n s a' l.length)=ah k n s a' l.length:=rfl
  rw [hz] at X5
  have t18:=t13.ax (bM.kp _ _) Zk λb h1 h2=>by omega
  have c1:∀ {S:Nat->Prop} {x y:AH},KB bp h x->KB S x y->(∀ i,S i->h.length<=i)->KB bp h y:=λu v hS=>KB.trans u v (λ_ _ h=>h) (λi hi hs=>by have:=hS i hs;omega)
  have X6:KB bp h ku:=by
   refine c1 (c1 (c1 (c1 (c1 (c1 fg k5 ?_) k7 ?_) k9 ?_) mz ?_) Ft ?_) Zk ?_<;>(intro i hi;first|exact hi.elim|omega)
  refine ⟨ah k n s a' l.length,ku,Am.r98 (lets λkg eh=>?_),⟨hs,hl,a',rfl,t18.mono λb cy=>by constructor<;>omega⟩,X6⟩
  rw [da] at eh
  subst eh
  refine lets λM9 eh=>?_
  rw [nO] at eh
  subst eh
  refine lets λh3' eh=>?_
  rw [IB] at eh
  subst eh
  refine bI (a3.ap (i:=0) rfl) (bs e5 (bI (a5.ap (i:=1) rfl) (bs e7 (bT (a7.ap (i:=2) rfl) (bs e9 (bS (a9.ap (i:=3) rfl) (bs zD (bS rfl (bs X4 ?_)))))))))
  refine bI (Qm.ap (i:=0) rfl) (bI (Qm.ap (i:=1) rfl) (bT (Qm.ap (i:=2) rfl) (bS (Qm.ap (i:=3) rfl) (bs e18 ?_))))
  exact bI (X5.ap (i:=0) rfl) (bI (X5.ap (i:=1) rfl) (bT (X5.ap (i:=2) rfl) (bS (X5.ap (i:=3) rfl) rfl)))
def akO(base f:Nat):Prop:=∀ (h:AH) (p:Nat->Prop) (t:Tm) (cs:List Value),cD h p f t cs->jJ f t->base<=h.length->(∀ b,p b->b<h.length) ->
 ∃ fy h',run (Et base) 98 [.agg cs.toArray] h=some (.agg fy.toArray,h')/\jG f (iS h.length h'.length) h' t fy/\KB bp h h'
theorem Dd(f:Nat):akO base f:=λh p t cs x hB hb hp=>by
 obtain ⟨fy,h',e,m,k⟩:=lj f h p t cs x hB hb hp
 exact ⟨fy,h',e,m.d,k⟩
def EqT(base f:Nat):Prop:=∀ (f2:Nat) (h:AH) (p p2:Nat->Prop) (t:Tm) (cs uf:List Value),cD h p f t cs->cD h p2 f2 t uf->base<=h.length ->
 ∃ h',run (Et base) 111 [.agg cs.toArray,.agg uf.toArray] h=some (.bool true,h')/\KB bp h h'
theorem zE(ih:EqT base f){p2:Nat->Prop}{a2:Option Addr}(hl:l.length<=9223372036854775807):∀ (d i:Nat) (h:AH),i+d=l.length->iQ h p f l a->iQ h p2 f2 l a2->base<=h.length ->
  ∃ h',aF (zt base) [some (.slice a l.length l.length),some (.slice a2 l.length l.length),some (.int .i64 (i:Int))] h=some (2,[],h')/\KB bp h h':=by
 intro d
 induction d with
 | zero=>
  intro i h hi hs nJ hb
  refine ⟨h,?_,KB.refl _ _⟩
  rw [cg,xU]
  have:¬((i:Int)<(l.length:Int)):=by omega
  simp [this]
 | succ d fJ=>
  intro i h hi hs nJ hb
  have aS:i<l.length:=by omega
  obtain ⟨ad,c0,c1,c2,c3,rfl,g0,g1,g2,g3,hm⟩:=hs.get aS
  obtain ⟨qW,d0,d1,d2,d3,rfl,y0,y1,y2,y3,De⟩:=nJ.get aS
  obtain ⟨h1,e1,k1⟩:=ih f2 h p p2 l[i] _ _ hm De hb
  cases f with
  | zero=>exact hm.elim
  | succ f=>
   cases f2 with
   | zero=>exact De.elim
   | succ f2=>
    generalize ht:l[i]=tt at hm De
    obtain ⟨k,n,s,ll⟩:=tt
    obtain ⟨a3,bV,_,_,_⟩:=hm.parts
    injection bV with q0 bV
    injection bV with q1 bV
    injection bV with q2 bV
    injection bV with q3 _
    subst q0;subst q1;subst q2;subst q3
    obtain ⟨a4,bV,_,_,_⟩:=De.parts
    injection bV with q0 bV
    injection bV with q1 bV
    injection bV with q2 bV
    injection bV with q3 _
    subst q0;subst q1;subst q2;subst q3
    obtain ⟨h2,m1,m2⟩:=fJ (i+1) h1 (by omega) (hs.ax k1 λ_ _ h=>h) (nJ.ax k1 λ_ _ h=>h) (by have:=k1.1;omega)
    refine ⟨h2,?_,KB.trans k1 m2 (λ_ _ h=>h) (λ_ _ h=>h)⟩
    have step:zt base [some (.slice (some ad) l.length l.length),some (.slice (some qW) l.length l.length),some (.int .i64 (i:Int))] h=some (0,[some (.slice (some ad) l.length l.length),some (.slice (some qW) l.length l.length),some (.int .i64 (ag .i64 ((i:Int)+(1:Int))))],h1):=by
     rw [xU]
     refine aE (decide_eq_true (by omega)) (aE ⟨by omega,by omega⟩ (bs rfl ?_))
     simp only [aM]
     refine bI g0 (bI g1 (bT g2 (bS g3 (aE ⟨by omega,by omega⟩ (bs rfl ?_)))))
     refine bI y0 (bI y1 (bT y2 (bS y3 ?_)))
     exact bs e1 (bB rfl (aU (by decide) rfl))
    rw [cg,step]
    simp only [aJ,if_true]
    rw [bm (by omega) (by omega),show ((i:Int)+1)=((i+1:Nat):Int) from by omega]
    exact m1
theorem oJ(ih:EqT base f){p2:Nat->Prop}{a2:Option Addr}(hl:l.length<=9223372036854775807)(hs:iQ h p f l a)(nJ:iQ h p2 f2 l a2)(hb:base<=h.length):
  ∃ h',run (Et base) 109 [.slice a l.length l.length,.slice a2 l.length l.length] h=some (.bool true,h')/\KB bp h h':=by
 obtain ⟨h',e,k⟩:=zE (base:=base) ih hl l.length 0 h (by omega) hs nJ hb
 refine ⟨h',Am.aj5 (aU (by simp) ?_),k⟩
 rw [show ((0:Nat):Int)=0 from rfl] at e
 exact bs e (aU (by simp) (aE rfl rfl))
theorem mX{base:Nat}:∀ f,EqT base f
 | 0=>λf2 h p p2 t cs uf x=>x.elim
 | f+1=>λf2 h p p2 t cs uf x x2 hb=>by
  cases f2 with
  | zero=>exact x2.elim
  | succ f2=>
   obtain ⟨k,n,s,l⟩:=t
   obtain ⟨a,rfl,vo,hs,hl⟩:=x.parts
   obtain ⟨a2,rfl,M_,_,_⟩:=x2.parts
   simp only [maxLen] at hl
   obtain ⟨o1,k1,q1⟩:=aI (base:=base) (t:=56) (h:=h) (cs:=ah k n s a l.length) hb rfl
   generalize da:h++[some (⟨ah k n s a l.length,56⟩:df)]=h1 at o1 k1 q1
   obtain ⟨o2,k2,q2⟩:=aI (base:=base) (t:=56) (h:=h1) (cs:=ah k n s a2 l.length) (by omega) rfl
   generalize nO:h1++[some (⟨ah k n s a2 l.length,56⟩:df)]=h2 at o2 k2 q2
   have Bg:=o1.aj k2
   have dH:KB bp h h2:=KB.trans k1 k2 (λ_ _ h=>h) (λ_ _ h=>h)
   obtain ⟨h3,e3,k3⟩:=oJ (base:=base) (mX f) (by omega) (vo.ax dH λ_ _ h=>h) (M_.ax dH λ_ _ h=>h) (by omega)
   refine ⟨h3,Am.aj7 (lets λkg eh=>?_),KB.trans dH k3 (λ_ _ h=>h) (λ_ _ h=>h)⟩
   rw [da] at eh
   subst eh
   refine lets λM9 eh=>?_
   rw [nO] at eh
   subst eh
   refine bI (Bg.ap (i:=0) rfl) (bI (o2.ap (i:=0) rfl) (aU (by simp) ?_))
   refine bI (Bg.ap (i:=1) rfl) (bI (o2.ap (i:=1) rfl) (aU (by simp) ?_))
   refine bT (Bg.ap (i:=2) rfl) (bT (o2.ap (i:=2) rfl) (aU (by simp) ?_))
   refine bS (Bg.ap (i:=3) rfl) (bS (o2.ap (i:=3) rfl) ?_)
   exact bs e3 (bB rfl (aU (by decide) rfl))
def X7:Nat->Int->ByteArray->ByteArray
 | 0,_,o=>o
 | d+1,k,o=>if k>0 then X7 d (zF k 10) (yq [ag .u8 (ag .i64 (48+ga k 10))]++o) else o
def mt(k:Int):ByteArray:=if k<=0 then ⟨#[109,48]⟩ else ⟨#[109]⟩++X7 63 k ⟨#[]⟩
theorem M'(n:Int):(yq [n]).size=1:=rfl
theorem vt:∀ (d:Nat) (k:Int) (o:ByteArray),(X7 d k o).size<=o.size+d
 | 0,k,o=>by simp [X7]
 | d+1,k,o=>by
  rw [X7]
  split
  ·have:=vt d (zF k 10) (yq [ag .u8 (ag .i64 (48+ga k 10))]++o)
   rw [Na,M'] at this
   omega
  ·omega
theorem G8(k:Int):(mt k).size<=64:=by
 unfold mt
 split
 ·decide
 ·have:=vt 63 k ⟨#[]⟩
  rw [Na]
  have h1:(⟨#[109]⟩:ByteArray).size=1:=rfl
  have h2:(⟨#[]⟩:ByteArray).size=0:=rfl
  omega
theorem wE:∀ (d:Nat) (k:Int) (o:ByteArray) (h:AH),k<=9223372036854775807->k<2 ^ d->o.size+d<=1000 ->
  ∃ k' h',aF (MU base) [some (.int .i64 k),some (.string o)] h=some (2,[some (.string (X7 d k o))],h')/\KB bp h h'/\k'=h':=by
 intro d
 induction d with
 | zero=>
  intro k o h hk hd ho
  refine ⟨_,h,?_,KB.refl _ _,rfl⟩
  refine aC (by decide) ?_
  rw [vg]
  exact aU (by simp;omega) rfl
 | succ d ih=>
  intro k o h hk hd ho
  rw [X7]
  by_cases c:k>0
  ·rw [if_pos c]
   have hq:zF k 10=k / 10:=by rw [Int.tdiv_eq_ediv_of_nonneg (by omega)]
   have h2:k / 10<2 ^ d:=by
    rw [Int.pow_succ] at hd
    omega
   obtain ⟨_,h',e,kk,_⟩:=ih (zF k 10) (yq [ag .u8 (ag .i64 (48+ga k 10))]++o) (h++[some ⟨[.int .u8 (ag .u8 (ag .i64 (48+ga k 10)))],5⟩]) (by omega) (by rw [hq];exact h2) (by rw [Na,M'];omega)
   refine ⟨_,h',?_,KB.trans (KB.push bp _ _) kk (λ_ _ h=>h) (λ_ _ h=>h),rfl⟩
   refine bl ?_ e
   rw [vg]
   refine aE (decide_eq_true c) (lets λy ey=>?_)
   subst ey
   refine bs (v:=[ag .u8 (ag .i64 (48+ga k 10))]) ?_ ?_
   ·have:=G6 (h:=h) (t:=5) (cs:=[.int .u8 (ag .u8 (ag .i64 (48+ga k 10)))]) rfl (by simp)
    exact bs this rfl
   ·refine aE (by rw [M'];omega) ?_
    rw [bm (n:=zF k 10) (by omega) (by omega)]
  ·rw [if_neg c]
   refine ⟨_,h,?_,KB.refl _ _,rfl⟩
   refine aC (by decide) ?_
   rw [vg]
   exact aU (by simp;omega) rfl
theorem gu(hk:k<=9223372036854775807):∃ h',run (Et base) 73 [.int .i64 k] h=some (.string (mt k),h')/\KB bp h h':=by
 unfold mt
 by_cases c:k<=0
 ·rw [if_pos c]
  exact ⟨h,Am.UM (aE (decide_eq_true c) rfl),KB.refl _ _⟩
 ·rw [if_neg c]
  obtain ⟨_,h',e,kk,_⟩:=wE (base:=base) 63 k ⟨#[]⟩ h hk (by omega) (by decide)
  refine ⟨h',Am.UM (aU (by simpa using c) (bs e (aE rfl (bT rfl (aE ?_ rfl))))),kk⟩
  have:=vt 63 k ⟨#[]⟩
  have h1:(⟨#[109]⟩:ByteArray).size=1:=rfl
  have h2:(⟨#[]⟩:ByteArray).size=0:=rfl
  omega
inductive IC:List Tm->Int->Int->Prop
 | nil (k:Int):IC [] k k
 | cons {k k1 k2:Int} {l r:List Tm}:IC l (k+3) k1->IC r k1 k2->IC (.mk k (k+1) (mt (k+2)) l :: r) k k2
theorem IC.le{k':Int}(x:IC l k k'):k<=k':=by
 induction x with
 | nil=>exact gb _
 | cons _ _ ih1 UY=>omega
def UZ(base f:Nat):Prop:=∀ (l:List Tm) (h:AH) (S:Fp) (a:Option Addr) (k:Int),fk 4 (jG f) S h l a->l.length<=maxLen->(∀ b,S b->base<=b/\b<h.length)->0<=k->k+3*((l.length+dt (eH f) l:Nat):Int)<=1000000000 ->
 ∃ l' h',run (Et base) 74 [.slice a l.length l.length,.int .i64 k] h=some (.int .i64 (k+3*((l.length+dt (eH f) l:Nat):Int)),h')/\fk 4 (jG f) S h' l' a/\l'.length=l.length/\IC l' k (k+3*((l.length+dt (eH f) l:Nat):Int))/\KB S h h'
theorem sA{l r:List α}{x y:α}:(l++x :: r).set l.length y=l++y :: r:=by simp
theorem sB{l r:List α}{x:α}(hi:l.length<(l++x :: r).length):(l++x :: r)[l.length]=x:=by simp
theorem oK(ih:∀ f',f=f'+1->UZ base f')(hn:n<=maxLen):∀ (r done:List Tm) (h:AH) (k:Int),done.length+r.length=n->fk 4 (jG f) S h (done++r) a->(∀ b,S b->base<=b/\b<h.length)->0<=k->k+3*((r.length+dt (eH f) r:Nat):Int)<=1000000000 ->
  ∃ r' h',aF (MV base) [some (.slice a n n),some (.int .i64 k),some (.int .i64 (done.length:Int))] h=some (2,[some (.int .i64 (k+3*((r.length+dt (eH f) r:Nat):Int)))],h')/\fk 4 (jG f) S h' (done++r') a/\r'.length=r.length/\IC r' k (k+3*((r.length+dt (eH f) r:Nat):Int))/\KB S h h':=by
 simp only [maxLen] at hn
 intro r
 induction r with
 | nil=>
  intro done h k hd hr hS h0 hk
  refine ⟨[],h,?_,hr,rfl,?_,KB.refl _ _⟩
  ·refine aC (by decide) ?_
   rw [CV]
   refine aU (by simp at hd ⊢;omega) ?_
   simp [dt]
  ·simp only [dt,G7]
   have:k+3*((0+0:Nat):Int)=k:=by omega
   rw [this]
   exact .nil k
 | cons t r X8=>
  intro done h k hd hr hS h0 hk
  simp only [g_] at hd
  have aS:done.length<(done++t :: r).length:=by simp
  obtain ⟨Ci,cs,fo,hP,nI,qE,tI⟩:=hr.open (by decide) aS
  rw [sB aS] at hP
  cases f with
  | zero=>exact hP.elim
  | succ f=>
   obtain ⟨kk,nn,ss,l⟩:=t
   obtain ⟨hs1,A1,a2,bV,wF⟩:=hP
   subst bV
   have X9:((r.length+1+dt (eH (f+1)) (.mk kk nn ss l :: r):Nat):Int)=1+((l.length+dt (eH f) l:Nat):Int)+((r.length+dt (eH (f+1)) r:Nat):Int):=by
    simp only [dt,eH];omega
   simp only [g_] at hk ⊢
   rw [X9] at hk ⊢
   have zG:∀ b,S b->base<=b:=λb hb=>(hS b hb).1
   obtain ⟨ad,h1,rfl,w1,fo1,k1,n1⟩:=fo.wr (jG.kp _) zG (j:=0) (new:=[.int .i64 k]) (by simp) (by simp)
   obtain ⟨rv,h2,fT,w2,X_,k2,n2⟩:=fo1.wr (jG.kp _) zG (j:=1) (new:=[.int .i64 (k+1)]) (by simp) (by simp)
   injection fT with fT
   subst fT
   obtain ⟨h3,e3,k3⟩:=gu (base:=base) (h:=h2) (k:=k+1+1) (by omega)
   have n3:=k3.1
   have Zl:=X_.ax (jG.kp _) k3 λ_ _ h=>h.elim
   obtain ⟨rv,h4,fT,w4,OE,k4,n4⟩:=Zl.wr (jG.kp _) zG (j:=2) (new:=[.string (mt (k+1+1))]) (by simp) (by simp)
   injection fT with fT
   subst fT
   have bV:setAt (setAt (setAt (ah kk nn ss a2 l.length) 0 [.int .i64 k]) 1 [.int .i64 (k+1)]) 2 [.string (mt (k+1+1))]=ah k (k+1) (mt (k+1+1)) a2 l.length:=rfl
   rw [bV] at OE
   obtain ⟨rv,fT,g4⟩:=OE.cell (j:=3) (v:=.slice a2 l.length l.length) rfl
   injection fT with fT
   subst fT
   have kA:KB (bK (some ad)) h h4:=KB.trans (KB.trans (KB.trans k1 k2 (λ_ _ h=>h) (λ_ _ h=>h)) k3 (λ_ _ h=>h) (λ_ _ h=>h.elim)) k4 (λ_ _ h=>h) (λ_ _ h=>h)
   have Nb:fk 4 (jG f) Ci h4 l a2:=wF.ax (jG.kp _) kA λb hb hk=>tI b hk hb
   obtain ⟨l',h5,e5,X',Nc,m5,k5⟩:=ih f rfl l h4 Ci a2 (k+1+1+1) Nb A1 (λb hb=>⟨(hS b (qE b hb)).1,by have:=(hS b (qE b hb)).2;have:=kA.1;omega⟩) (by omega) (by omega)
   have fo5:=OE.ax (jG.kp _) k5 λb _ hb=>hb
   have U0:=fo5.close (y:=.mk k (k+1) (mt (k+1+1)) l') ⟨by have:=G8 (k+1+1);simp only [maxLen];omega,by rw [Nc];exact A1,a2,by rw [Nc],X'⟩
   rw [sA,show done++Tm.mk k (k+1) (mt (k+1+1)) l' :: r=(done++[Tm.mk k (k+1) (mt (k+1+1)) l'])++r from by simp] at U0
   have kB:KB S h h5:=KB.trans kA k5 (λb _ hb=>by
    obtain ⟨vs,T,C,_,_,x3,_⟩:=fo
    exact (x3 b hb).1) (λb _ hb=>qE b hb)
   obtain ⟨r',h6,e6,Nd,Nf,m6,k6⟩:=X8 (done++[.mk k (k+1) (mt (k+1+1)) l']) h5 (k+1+1+1+3*((l.length+dt (eH f) l:Nat):Int)) (by simp;omega) U0 (λb hb=>⟨(hS b hb).1,by have:=(hS b hb).2;have:=kB.1;omega⟩) (by omega) (by omega)
   have ek:k+1+1+1+3*((l.length+dt (eH f) l:Nat):Int)+3*((r.length+dt (eH (f+1)) r:Nat):Int)=k+3*(1+((l.length+dt (eH f) l:Nat):Int)+((r.length+dt (eH (f+1)) r:Nat):Int)):=by omega
   rw [ek] at e6 m6
   refine ⟨.mk k (k+1) (mt (k+1+1)) l' :: r',h6,?_,by simpa using Nd,by simp [Nf],?_,KB.trans kB k6 (λ_ _ h=>h) (λ_ _ h=>h)⟩
   ·refine bl ?_ e6
    rw [CV]
    have dg:(done.length:Int)<(n:Int):=by omega
    refine aE (decide_eq_true dg) (aE ⟨by omega,dg⟩ (bs rfl ?_))
    simp only [aM]
    refine bs w1 (aE ⟨by omega,dg⟩ (bs rfl ?_))
    rw [bm (n:=k+1) (by omega) (by omega)]
    refine bs w2 ?_
    rw [bm (n:=k+1+1) (by omega) (by omega)]
    refine bs e3 (bT rfl (aE ⟨by omega,dg⟩ (bs rfl (bs w4 (aE ⟨by omega,dg⟩ (bs rfl (bS g4 ?_)))))))
    rw [bm (n:=k+1+1+1) (by omega) (by omega)]
    refine bs e5 (bI rfl ?_)
    rw [bm (n:=(done.length:Int)+1) (by omega) (by omega)]
    simp
   ·have e1:k+1+1=k+2:=by omega
    rw [e1] at m5 ⊢
    rw [show k+2+1=k+3 from by omega] at m5
    rw [show k+1+1+1=k+3 from by omega] at m6
    exact .cons m5 m6
theorem jA{base:Nat}:∀ f,UZ base f
 | 0=>λl h S a k hr hl hS h0 hk=>by
  obtain ⟨l',h',e,row,len,m,kk⟩:=oK (base:=base) (f:=0) (λf' e=>by omega) (n:=l.length) hl l [] h k (by simp) (by simpa using hr) hS h0 hk
  exact ⟨l',h',Am.r74 (bs e (aE rfl (bI rfl rfl))),by simpa using row,len,m,kk⟩
 | f+1=>λl h S a k hr hl hS h0 hk=>by
  obtain ⟨l',h',e,row,len,m,kk⟩:=oK (base:=base) (f:=f+1) (λf' e=>by injection e with e;subst e;exact jA f) (n:=l.length) hl l [] h k (by simp) (by simpa using hr) hS h0 hk
  exact ⟨l',h',Am.r74 (bs e (aE rfl (bI rfl rfl))),by simpa using row,len,m,kk⟩
theorem vu:∀ {r:List Tm} {k k':Int},IC r k k'->0<=k->k'<=1000000000->∀ (f:Nat) (h:AH) (p:Nat->Prop) (L:List Tm) (i:Nat) (a:Option Addr),L.drop i=r->i<=L.length->L.length<=9223372036854775807->iQ h p f L a->base<=h.length ->
  ∃ h',aF (MX base) [some (.slice a L.length L.length),some (.int .i64 k),some (.int .i64 (i:Int))] h=some (2,[some (.int .i64 k')],h')/\KB bp h h':=by
 intro r k k' hm
 induction hm with
 | nil k=>
  intro h0 hk f h p L i a hr hi hL hs hb
  refine ⟨h,?_,KB.refl _ _⟩
  refine aC (by decide) ?_
  rw [CX]
  have:L.length<=i:=by simpa using hr
  exact aU (by simp;omega) rfl
 | @cons k k1 k2 l r m1 m2 ih1 UY=>
  intro h0 hk f h p L i a hr hi hL hs hb
  have le1:=m1.le
  have le2:=m2.le
  have aS:i<L.length:=by
   rcases Nat.lt_or_ge i L.length with h|h
   ·exact h
   ·rw [dZ h] at hr;cases hr
  rw [dJ aS] at hr
  injection hr with Q7 wl
  obtain ⟨ad,c0,c1,c2,c3,rfl,g0,g1,g2,g3,yN⟩:=hs.get aS
  rw [Q7] at yN
  cases f with
  | zero=>exact yN.elim
  | succ f=>
   obtain ⟨a2,bV,vo,_,G9⟩:=yN.parts
   simp only [maxLen] at G9
   injection bV with q0 bV
   injection bV with q1 bV
   injection bV with q2 bV
   injection bV with q3 _
   subst q0;subst q1;subst q2;subst q3
   obtain ⟨h1,e1,Ei⟩:=gu (base:=base) (h:=h) (k:=k+1+1) (by omega)
   have n1:=Ei.1
   obtain ⟨h2,e2,Fu⟩:=ih1 (by omega) (by omega) f h1 p l 0 a2 (by simp) (by omega) (by omega) (vo.ax Ei λ_ _ h=>h) (by omega)
   have Fv:KB bp h h2:=KB.trans Ei Fu (λ_ _ h=>h) (λ_ _ h=>h)
   have n2:=Fv.1
   obtain ⟨h3,e3,Zm⟩:=UY (by omega) hk (f+1) h2 p L (i+1) (some ad) wl (by omega) hL (hs.ax Fv λ_ _ h=>h) (by omega)
   refine ⟨h3,?_,KB.trans Fv Zm (λ_ _ h=>h) (λ_ _ h=>h)⟩
   refine bl ?_ e3
   rw [CX]
   have dg:(i:Int)<(L.length:Int):=by omega
   refine aE (decide_eq_true dg) (aE ⟨by omega,dg⟩ (bs rfl ?_))
   simp only [aM]
   refine bI g0 (aU (by simp) (aE ⟨by omega,dg⟩ (bs rfl (bI g1 ?_))))
   rw [bm (n:=k+1) (by omega) (by omega)]
   refine aU (by simp) (aE ⟨by omega,dg⟩ (bs rfl (bT g2 ?_)))
   rw [bm (n:=k+1+1) (by omega) (by omega)]
   refine bs e1 (bT rfl ?_)
   have eN:ad.block<h.length:=by
    have:=g2
    unfold Am.cell at this
    cases hg:bD h ad.block with
    | none=>rw [hg] at this;cases this
    | some b=>exact di hg
   rw [iP (by
    intro x hx
    injection hx with hx
    subst hx
    have e:=Ei.2 ad.block eN (λh=>h)
    exact ⟨λj _=>by unfold Am.cell;rw [e],by rw [e]⟩)]
   refine aU (by rw [show k+1+1=k+2 from by omega];simp) (aE ⟨by omega,dg⟩ (bs rfl ?_))
   have g3':Am.cell h1 ad.block (ad.off+i*4+3)=some (.slice a2 l.length l.length):=by
    rw [<- g3,show ad.off+i*4+1+1+1=ad.off+i*4+3 from by omega]
    unfold Am.cell
    rw [Ei.2 ad.block eN (λh=>h)]
   refine bS g3' ?_
   rw [bm (n:=k+1+1+1) (by omega) (by omega),show k+1+1+1=k+3 from by omega]
   rw [show ((0:Nat):Int)=0 from rfl] at e2
   refine bs (v:=(.int .i64 k1,h2)) (Am.XW (bs e2 (aU (by simp) (aE rfl (bI rfl rfl))))) (bI rfl ?_)
   refine aU (by simp;omega) ?_
   rw [bm (n:=(i:Int)+1) (by omega) (by omega)]
   simp
theorem lG{k':Int}(m:IC l k k')(h0:0<=k)(hk:k'<=1000000000)(hl:l.length<=9223372036854775807)(hs:iQ h p f l a)(hb:base<=h.length):
  ∃ h',run (Et base) 76 [.slice a l.length l.length,.int .i64 k] h=some (.int .i64 k',h')/\KB bp h h':=by
 obtain ⟨h',e,kk⟩:=vu (base:=base) m h0 hk f h p l 0 a (by simp) (by omega) hl hs hb
 rw [show ((0:Nat):Int)=0 from rfl] at e
 exact ⟨h',Am.XW (bs e (aU (by simp) (aE rfl (bI rfl rfl)))),kk⟩
theorem Df{a0:Option Addr}(hn:zs.length<=140737488355328):∀ (d i:Nat) (h:AH),i+d=zs.length->Sl h a0 (iv .i64 zs)->(∀ b,bK a0 b->¬bK a b)->∀ rest:List Int,rest.length=d->bQ base 3 h a (iv .i64 (zs.take i++rest)) ->
  ∃ h',aF (G5 base) [some (.slice a0 zs.length zs.length),some (.slice a zs.length zs.length),some (.int .i64 (i:Int))] h=some (2,[some (.slice a zs.length zs.length)],h')/\bQ base 3 h' a (iv .i64 zs)/\KB (bK a) h h':=by
 intro d
 induction d with
 | zero=>
  intro i h hi hs hb rest hr ho
  have e:zs.take i++rest=zs:=by
   rw [iL hr,Fw,cG (by omega)]
  rw [e] at ho
  refine ⟨h,?_,ho,KB.refl _ _⟩
  rw [cg,vk]
  have:¬((i:Int)<(zs.length:Int)):=by omega
  simp [this]
 | succ d ih=>
  intro i h hi hs hb rest hr ho
  have aS:i<zs.length:=by omega
  obtain ⟨ad,h1,h2⟩:=hs.int aS
  match rest,hr with
  | z :: rest,hr=>
   obtain ⟨qW,h',g1,g2,g3,g4,g5⟩:=ho.wr (i:=i) (new:=[.int .i64 zs[i]]) (by simp;omega) (by simp)
   have e:setAt (iv .i64 (zs.take i++z :: rest)) i [.int .i64 zs[i]]=iv .i64 (zs.take (i+1)++rest):=by
    have ht:(zs.take i).length=i:=by simp;omega
    have e1:(iv .i64 (zs.take i)).length=i:=by simp;omega
    rw [<- lX]
    simp only [setAt,Qn]
    have e2:(iv .i64 (zs.take i)++iv .i64 (z :: rest)).take i=iv .i64 (zs.take i):=by
     rw [Qo (by omega),cG (by omega)]
    have e3:(iv .i64 (zs.take i)++iv .i64 (z :: rest)).drop (i+1)=iv .i64 rest:=by
     rw [Ng,e1]
     have:i+1-i=1:=by omega
     rw [this]
     simp [iv]
     omega
    rw [e2,e3,G_ aS]
    simp only [iv,List.map_append,mD,List.map_nil]
   rw [e] at g3
   obtain ⟨IA,k1,k2,k3⟩:=ih (i+1) h' (by omega) (hs.ax g4 hb) hb rest (by simpa using hr) g3
   refine ⟨IA,?_,k2,KB.trans g4 k3 (λ_ _ h=>h) (λ_ _ h=>h)⟩
   rw [cg,vk]
   have c1:((i:Int)<(zs.length:Int)):=by omega
   subst h1;subst g1
   rw [bm (by omega) (by omega)]
   have hc:(((i:Int)+1:Int))=((i+1:Nat):Int):=by omega
   simp only [c1,decide_true,if_true,aJ,aM,kh,h2,g2,hc]
   rw [if_pos ⟨by omega,trivial⟩,if_pos ⟨by omega,trivial⟩]
   simp only [aJ,if_true]
   exact k1
theorem Fx{a0:Option Addr}(hs:Sl h a0 (iv .i64 zs))(hn:zs.length<=1048576)(hb:base<=h.length):
  ∃ a h',run (Et base) 97 [.slice a0 zs.length zs.length] h=some (.slice a zs.length zs.length,h')/\bQ base 3 h' a (iv .i64 zs)/\KB bp h h'/\∀ b,bK a b->h.length<=b:=by
 have BC:∀ n,lz [Value.int .i64 0] n=iv .i64 (G' n 0):=by
  intro n
  induction n with
  | zero=>rfl
  | succ n ih=>simp only [lz,ih];rfl
 have Ya:=bQ.new base 3 h (lz [Value.int .i64 0] zs.length) hb
 rw [BC] at Ya
 have hk:KB bp h (h++[some ⟨lz [Value.int .i64 0] zs.length,3⟩]):=KB.push _ _ _
 have akP:∀ b,bK a0 b->zs = []\/¬bK (some (⟨h.length,0,none⟩:Addr)) b:=by
  intro b cy
  rcases hs with e|⟨ad,k,h1,h2,_⟩
  ·left
   have:=congrArg ae e
   simp at this
   exact this
  ·right
   rw [qQ]
   obtain ⟨rv,e1,e2⟩:=cy
   rw [h1] at e1
   injection e1 with e1
   subst e1;subst e2
   have:=di h2
   omega
 have main:∃ h',aF (G5 base) [some (.slice a0 zs.length zs.length),some (.slice (some ⟨h.length,0,none⟩) zs.length zs.length),some (.int .i64 ((0:Nat):Int))] (h++[some ⟨lz [Value.int .i64 0] zs.length,3⟩])=some (2,[some (.slice (some ⟨h.length,0,none⟩) zs.length zs.length)],h')/\bQ base 3 h' (some ⟨h.length,0,none⟩) (iv .i64 zs)/\KB (bK (some (⟨h.length,0,none⟩:Addr))) (h++[some ⟨lz [Value.int .i64 0] zs.length,3⟩]) h':=by
  by_cases hz:zs = []
  ·subst hz
   refine ⟨_,?_,by simpa [BC] using Ya,KB.refl _ _⟩
   rw [cg,vk]
   simp
  ·exact Df (by omega) zs.length 0 _ (by omega) (hs.ax hk λ_ _ h=>h.elim) (λb cy=>(akP b cy).resolve_left hz) (G' zs.length 0) (by simp) (by simpa [BC] using Ya)
 obtain ⟨h',m1,m2,m3⟩:=main
 refine ⟨some ⟨h.length,0,none⟩,h',Am.r97 ?_,m2,KB.trans hk m3 (λ_ _ h=>h) (λi hi h=>by rw [qQ] at h;omega),λb cy=>by rw [qQ] at cy;omega⟩
 rw [if_pos ⟨rfl,by omega,by omega,by omega⟩]
 simp only [aM,aJ]
 rw [show ((0:Nat):Int)=0 from rfl] at m1
 rw [m1]
 simp [ay,aN]
theorem Dg{b:Option Addr}{ys:List Int}(hx:Sl h a (iv .i64 xs))(hy:Sl h b (iv .i64 ys))(hl:xs.length=ys.length)(hn:xs.length<=140737488355328):∀ (d i:Nat),i+d=xs.length->xs.take i=ys.take i ->
  aF (Fk base) [some (.slice a xs.length xs.length),some (.slice b ys.length ys.length),some (.int .i64 (i:Int))] h=if xs=ys then some (2,[],h) else some (1,[some (.bool false)],h):=by
 intro d
 induction d with
 | zero=>
  intro i hi he
  rw [cG (by omega),cG (by omega)] at he
  rw [if_pos he,cg,xV]
  have:¬((i:Int)<(xs.length:Int)):=by omega
  simp [this]
 | succ d ih=>
  intro i hi he
  have aS:i<xs.length:=by omega
  have jl:i<ys.length:=by omega
  obtain ⟨ad,h1,h2⟩:=hx.int aS
  obtain ⟨qW,h3,h4⟩:=hy.int jl
  rw [cg,xV]
  have c1:((i:Int)<(xs.length:Int)):=by omega
  have c2:((i:Int)<(ys.length:Int)):=by omega
  subst h1;subst h3
  rw [bm (by omega) (by omega)]
  have hc:(((i:Int)+1:Int))=((i+1:Nat):Int):=by omega
  simp only [c1,c2,decide_true,if_true,aJ,aM,kh,h2,h4,hc]
  rw [if_pos ⟨by omega,trivial⟩,if_pos ⟨by omega,trivial⟩]
  by_cases hq:xs[i]=ys[i]
  ·have:(xs[i] != ys[i])=false:=by simp [hq]
   rw [this]
   simp only [vw,if_false,aJ,if_true]
   exact ih (i+1) (by omega) (by rw [G_ aS,G_ jl,he,hq])
  ·have dv:¬xs=ys:=λe=>hq (by subst e;rfl)
   have:(xs[i] != ys[i])=true:=by simp [hq]
   rw [this,if_neg dv]
   simp
theorem Fy{b:Option Addr}{ys:List Int}(hx:Sl h a (iv .i64 xs))(hy:Sl h b (iv .i64 ys))(hn:xs.length<=140737488355328):
  run (Et base) 110 [.slice a xs.length xs.length,.slice b ys.length ys.length] h=some (.bool (decide (xs=ys)),h):=by
 refine Am.aj6 ?_
 by_cases hl:xs.length=ys.length
 ·have:(((xs.length:Nat):Int) != ((ys.length:Nat):Int))=false:=by simp [hl]
  rw [this]
  simp only [vw,if_false]
  have hm:=Dg (base:=base) hx hy hl hn xs.length 0 (by omega) (by simp)
  rw [show ((0:Nat):Int)=0 from rfl] at hm
  rw [hm]
  by_cases he:xs=ys
  ·simp [he]
  ·simp [he,ay,aO]
 ·have:(((xs.length:Nat):Int) != ((ys.length:Nat):Int))=true:=by simp;omega
  rw [this]
  have dv:¬xs=ys:=λe=>hl (by rw [e])
  simp [dv]
def dV(k n:Nat):List Int:=(dM n).map λi=>((k+i:Nat):Int)
@[simp] theorem wG(k n:Nat):(dV k n).length=n:=by simp [dV]
theorem Fz{k:Nat}(h:i<n):(dV k n)[i]'(by simpa using h)=((k+i:Nat):Int):=by simp [dV]
theorem wH{k:Nat}(hn:n<=140737488355328)(hk:k<=140737488355328):∀ (d i:Nat) (h:AH),i+d=n->∀ rest:List Int,rest.length=d->bQ base 3 h a (iv .i64 (dV k i++rest)) ->
  ∃ h',aF (MW base) [some (.slice a n n),some (.int .i64 ((k+i:Nat):Int)),some (.int .i64 (i:Int))] h=some (2,[some (.int .i64 ((k+n:Nat):Int))],h')/\bQ base 3 h' a (iv .i64 (dV k n))/\KB (bK a) h h':=by
 intro d
 induction d with
 | zero=>
  intro i h hi rest hr ho
  have e:i=n:=by omega
  subst e
  rw [iL hr,Fw] at ho
  refine ⟨h,?_,ho,KB.refl _ _⟩
  rw [cg,CW]
  simp
 | succ d ih=>
  intro i h hi rest hr ho
  match rest,hr with
  | z :: rest,hr=>
   obtain ⟨qW,h',g1,g2,g3,g4,g5⟩:=ho.wr (i:=i) (new:=[.int .i64 (((k+i:Nat):Int))]) (by simp) (by simp)
   have e:setAt (iv .i64 (dV k i++z :: rest)) i [.int .i64 (((k+i:Nat):Int))]=iv .i64 (dV k (i+1)++rest):=by
    have e1:(iv .i64 (dV k i)).length=i:=by simp
    rw [<- lX]
    simp only [setAt,Qn]
    have e2:(iv .i64 (dV k i)++iv .i64 (z :: rest)).take i=iv .i64 (dV k i):=by
     rw [Qo (by omega),cG (by omega)]
    have e3:(iv .i64 (dV k i)++iv .i64 (z :: rest)).drop (i+1)=iv .i64 rest:=by
     rw [Ng,e1]
     have:i+1-i=1:=by omega
     rw [this]
     simp [iv]
    rw [e2,e3]
    simp [iv,dV,List.range_succ]
   rw [e] at g3
   obtain ⟨IA,k1,k2,k3⟩:=ih (i+1) h' (by omega) rest (by simpa using hr) g3
   refine ⟨IA,?_,k2,KB.trans g4 k3 (λ_ _ h=>h) (λ_ _ h=>h)⟩
   rw [cg,CW]
   have c1:((i:Int)<(n:Int)):=by omega
   subst g1
   rw [bm (n:=((k+i:Nat):Int)+1) (by omega) (by omega),bm (n:=(i:Int)+1) (by omega) (by omega)]
   have hc:(((i:Int)+1:Int))=((i+1:Nat):Int):=by omega
   have AZ:((k+i:Nat):Int)+1=((k+(i+1):Nat):Int):=by omega
   rw [hc,AZ]
   simp only [c1,decide_true,if_true,aJ,aM,kh,g2]
   rw [if_pos ⟨by omega,trivial⟩]
   simp only [aJ,if_true]
   exact k1
theorem zH{k:Nat}(ho:bQ base 3 h a (iv .i64 xs))(hn:xs.length<=140737488355328)(hk:k<=140737488355328):
  ∃ h',run (Et base) 75 [.slice a xs.length xs.length,.int .i64 (k:Int)] h=some (.int .i64 ((k+xs.length:Nat):Int),h')/\bQ base 3 h' a (iv .i64 (dV k xs.length))/\KB (bK a) h h':=by
 obtain ⟨h',m1,m2,m3⟩:=wH (base:=base) (a:=a) (k:=k) hn hk xs.length 0 h (by omega) xs rfl (by simpa [dV] using ho)
 refine ⟨h',Am.r75 ?_,m2,m3⟩
 have e:((k+0:Nat):Int)=(k:Int):=by omega
 rw [e] at m1
 rw [show ((0:Nat):Int)=0 from rfl] at m1
 rw [m1]
 simp [ay,au]
theorem wI{k:Nat}(hx:Sl h a (iv .i64 xs))(he:xs=dV k xs.length)(hn:xs.length<=140737488355328)(hk:k<=140737488355328):∀ (d i:Nat),i+d=xs.length ->
  aF (MY base) [some (.slice a xs.length xs.length),some (.int .i64 ((k+i:Nat):Int)),some (.int .i64 (i:Int))] h=some (2,[some (.int .i64 ((k+xs.length:Nat):Int))],h):=by
 intro d
 induction d with
 | zero=>
  intro i hi
  have e:i=xs.length:=by omega
  rw [cg,CY]
  subst e
  simp
 | succ d ih=>
  intro i hi
  have aS:i<xs.length:=by omega
  obtain ⟨ad,h1,h2⟩:=hx.int aS
  rw [cg,CY]
  have c1:((i:Int)<(xs.length:Int)):=by omega
  subst h1
  rw [bm (n:=((k+i:Nat):Int)+1) (by omega) (by omega),bm (n:=(i:Int)+1) (by omega) (by omega)]
  have hc:(((i:Int)+1:Int))=((i+1:Nat):Int):=by omega
  have AZ:((k+i:Nat):Int)+1=((k+(i+1):Nat):Int):=by omega
  have hv:xs[i]=((k+i:Nat):Int):=by
   have:=Fz (k:=k) (n:=xs.length) aS
   rw [<- this]
   congr 1
  rw [hc,AZ]
  simp only [c1,decide_true,if_true,aJ,aM,kh,h2]
  rw [if_pos ⟨by omega,trivial⟩,hv]
  simp only [bne_self_eq_false,vw,if_false,aJ,if_true]
  exact ih (i+1) (by omega)
theorem zJ{k:Nat}(hx:Sl h a (iv .i64 (dV k n)))(hn:n<=140737488355328)(hk:k<=140737488355328):
  run (Et base) 77 [.slice a n n,.int .i64 (k:Int)] h=some (.int .i64 ((k+n:Nat):Int),h):=by
 refine Am.XN ?_
 have m1:=wI (base:=base) (k:=k) hx (by simp) (by simpa using hn) hk n 0 (by simp)
 have e:((k+0:Nat):Int)=(k:Int):=by omega
 rw [e] at m1
 simp only [wG] at m1
 rw [show ((0:Nat):Int)=0 from rfl] at m1
 rw [m1]
 simp [ay,au]
structure Ac where
 pid:Int
 pc:Int
 aH:List Tm
 box:List Tm
 aw:List Int
variable{A:Ac}
abbrev de(p c:Int)(a:Option Addr)(n:Nat)(b:Option Addr)(m:Nat)(g:Option Addr)(q:Nat):List Value:=[.int .i64 p,.int .i64 c,.slice a n n,.slice b m m,.slice g q q]
def Ac.Le(A:Ac):Prop:=A.aH.length<=maxLen/\A.box.length<=maxLen/\A.aw.length<=140737488355328
def rH(h:AH)(p:Nat->Prop)(f:Nat)(A:Ac)(cs:List Value):Prop:=
 ∃ a b g,cs=de A.pid A.pc a A.aH.length b A.box.length g A.aw.length/\iQ h p f A.aH a/\iQ h p f A.box b/\Sl h g (iv .i64 A.aw)/\(A.aw = []\/∀ x,bK g x->p x)
def wh(base f:Nat)(S:Fp)(h:AH)(A:Ac)(cs:List Value):Prop:=
 ∃ (a b g:Option Addr) (S1 S2 S3:Fp),cs=de A.pid A.pc a A.aH.length b A.box.length g A.aw.length/\fk 4 (jG f) S1 h A.aH a/\fk 4 (jG f) S2 h A.box b/\bQ base 3 h g (iv .i64 A.aw)/\(∀ x,bK g x->S3 x) /\
  (∀ x,S1 x->S x)/\(∀ x,S2 x->S x)/\(∀ x,S3 x->S x)/\(∀ x,S1 x->¬S2 x)/\(∀ x,S1 x->¬S3 x)/\(∀ x,S2 x->¬S3 x)
def b_(base f:Nat)(S:Fp)(h:AH)(A:Ac)(cs:List Value):Prop:=
 ∃ (a b g:Option Addr) (S1 S2 S3:Fp),cs=de A.pid A.pc a A.aH.length b A.box.length g A.aw.length/\a_ base 56 4 (bM base f) S1 h A.aH a/\a_ base 56 4 (bM base f) S2 h A.box b/\bQ base 3 h g (iv .i64 A.aw)/\(∀ x,bK g x->S3 x) /\
  (∀ x,S1 x->S x)/\(∀ x,S2 x->S x)/\(∀ x,S3 x->S x)/\(∀ x,S1 x->¬S2 x)/\(∀ x,S1 x->¬S3 x)/\(∀ x,S2 x->¬S3 x)
theorem b_.acD(x:b_ base f S h A cs):wh base f S h A cs:=by
 obtain ⟨a,b,g,S1,S2,S3,e,h1,h2,h3⟩:=x
 exact ⟨a,b,g,S1,S2,S3,e,h1.dT,h2.dT,h3⟩
theorem b_.kp(base f:Nat):Kp (b_ base f):=λS U h h' A cs k hs x=>by
 obtain ⟨a,b,g,S1,S2,S3,e,h1,h2,h3,h4,s1,s2,s3,d1,d2,d3⟩:=x
 exact ⟨a,b,g,S1,S2,S3,e,h1.ax (bM.kp _ _) k λb hb=>hs b (s1 b hb),h2.ax (bM.kp _ _) k λb hb=>hs b (s2 b hb),h3.ax k λb hb=>hs b (s3 b (h4 b hb)),h4,s1,s2,s3,d1,d2,d3⟩
theorem rH.ax{h h':AH}{p S:Nat->Prop}(k:KB S h h')(hp:∀ b,p b->¬S b){f:Nat}{A:Ac}{cs:List Value}(x:rH h p f A cs):rH h' p f A cs:=by
 obtain ⟨a,b,g,e,h1,h2,h3,h4⟩:=x
 refine ⟨a,b,g,e,h1.ax k hp,h2.ax k hp,?_,h4⟩
 rcases h4 with e|h4
 ·exact .inl (by rw [e];rfl)
 ·exact h3.ax k λb hb hs=>hp b (h4 b hb) hs
theorem wh.kp(base f:Nat):Kp (wh base f):=λS U h h' A cs k hs x=>by
 obtain ⟨a,b,g,S1,S2,S3,e,h1,h2,h3,h4,s1,s2,s3,d1,d2,d3⟩:=x
 exact ⟨a,b,g,S1,S2,S3,e,h1.ax (jG.kp _) k λb hb=>hs b (s1 b hb),h2.ax (jG.kp _) k λb hb=>hs b (s2 b hb),h3.ax k λb hb=>hs b (s3 b (h4 b hb)),h4,s1,s2,s3,d1,d2,d3⟩
theorem iQ.mono{h:AH}{p q:Nat->Prop}(Kc:∀ b,p b->q b){f:Nat}{l:List Tm}{a:Option Addr}(x:iQ h p f l a):iQ h q f l a:=by
 obtain ⟨vs,h1,h2,h3,h4⟩:=x
 exact ⟨vs,h1,h2.imp id λg b hb=>Kc b (g b hb),h3,λi t hi=>cD.mono Kc f t _ (h4 i t hi)⟩
theorem wh.Qp(x:wh base f S h A cs):rH h S f A cs:=by
 obtain ⟨a,b,g,S1,S2,S3,e,h1,h2,h3,h4,s1,s2,s3,d1,d2,d3⟩:=x
 exact ⟨a,b,g,e,h1.tsR.mono s1,h2.tsR.mono s2,h3.sl,.inr λx hx=>s3 x (h4 x hx)⟩
theorem b_.Qp{base f:Nat}{S:Fp}{h:AH}{A:Ac}{cs:List Value}(x:b_ base f S h A cs):rH h S f A cs:=x.acD.Qp
theorem wh.form(x:wh base f S h A cs):∃ p c a n b m g q,cs=de p c a n b m g q:=by
 obtain ⟨a,b,g,S1,S2,S3,e,_⟩:=x
 exact ⟨_,_,_,_,_,_,_,_,e⟩
theorem b_.form{base f:Nat}{S:Fp}{h:AH}{A:Ac}{cs:List Value}(x:b_ base f S h A cs):∃ p c a n b m g q,cs=de p c a n b m g q:=x.acD.form
theorem q5{p:Int}{b g:Option Addr}{x y z:Nat}(o:bQ base t h (ap n) (de p c a x b y g z)){f:Int->Int->Option Addr×Nat->Option Addr×Nat->Option Addr×Nat->Option β}{r:Option β}(hf:f p c (a,x) (b,y) (g,z)=r):
  (((Am.cell h n 0).bind (au .i64)).bind λn1=>((Am.cell h n 1).bind (au .i64)).bind λn2=>((Am.cell h n 2).bind aN).bind λl3=>((Am.cell h n 3).bind aN).bind λl4=>((Am.cell h n 4).bind aN).bind λl5=>f n1 n2 l3 l4 l5)=r:=
 bI (o.ap (i:=0) rfl) (bI (o.ap (i:=1) rfl) (bS (o.ap (i:=2) rfl) (bS (o.ap (i:=3) rfl) (bS (o.ap (i:=4) rfl) hf))))
theorem Dh{p2:Nat->Prop}{uf:List Value}(hA:A.Le)(x:rH h p f A cs)(x2:rH h p2 f2 A uf)(hb:base<=h.length):
  ∃ h',run (Et base) 71 [.agg cs.toArray,.agg uf.toArray] h=some (.bool true,h')/\KB bp h h':=by
 obtain ⟨a,b,g,rfl,hr,hx,hl,_⟩:=x
 obtain ⟨a2,b2,g2,rfl,wl,wu,G9,_⟩:=x2
 obtain ⟨l1,l2,l3⟩:=hA
 simp only [maxLen] at l1 l2
 obtain ⟨o1,k1,q1⟩:=aI (base:=base) (t:=53) (h:=h) (cs:=de A.pid A.pc a A.aH.length b A.box.length g A.aw.length) hb rfl
 generalize da:h++[some (⟨de A.pid A.pc a A.aH.length b A.box.length g A.aw.length,53⟩:df)]=h1 at o1 k1 q1
 obtain ⟨o2,k2,q2⟩:=aI (base:=base) (t:=53) (h:=h1) (cs:=de A.pid A.pc a2 A.aH.length b2 A.box.length g2 A.aw.length) (by omega) rfl
 generalize nO:h1++[some (⟨de A.pid A.pc a2 A.aH.length b2 A.box.length g2 A.aw.length,53⟩:df)]=h2 at o2 k2 q2
 have dH:=kN k1 k2
 have o1:=o1.aj k2
 obtain ⟨h3,e3,k3⟩:=oJ (base:=base) (mX f) (by omega) (hr.ax dH λ_ _ h=>h) (wl.ax dH λ_ _ h=>h) (by omega)
 have fg:=kN dH k3
 have n3:=k3.1
 obtain ⟨h4,e4,k4⟩:=oJ (base:=base) (mX f) (by omega) (hx.ax fg λ_ _ h=>h) (wu.ax fg λ_ _ h=>h) (by omega)
 have oL:=kN fg k4
 have e5:=Fy (base:=base) (h:=h4) (hl.aj oL) (G9.aj oL) l3
 rw [decide_eq_true rfl] at e5
 refine ⟨h4,Am.PJ (lets λy ey=>?_),oL⟩
 rw [da] at ey
 subst ey
 refine lets λy ey=>?_
 rw [nO] at ey
 subst ey
 refine bI (o1.ap (i:=0) rfl) (bI (o2.ap (i:=0) rfl) (aU (by simp) (bI (o1.ap (i:=1) rfl) (bI (o2.ap (i:=1) rfl) (aU (by simp) ?_)))))
 refine bS (o1.ap (i:=2) rfl) (bS (o2.ap (i:=2) rfl) (bs e3 (bB rfl (aU (by decide) ?_))))
 refine bS ((o1.aj k3).ap (i:=3) rfl) (bS ((o2.aj k3).ap (i:=3) rfl) (bs e4 (bB rfl (aU (by decide) ?_))))
 exact bS (((o1.aj k3).aj k4).ap (i:=4) rfl) (bS (((o2.aj k3).aj k4).ap (i:=4) rfl) (bs e5 (bB rfl (aU (by decide) rfl))))
def nR(f:Nat)(l:List Tm):Int:=3*((l.length+dt (eH f) l:Nat):Int)
def Je(f:Nat)(A:Ac):Int:=nR f A.aH+nR f A.box+(A.aw.length:Int)
def Yb(A:Ac)(k k':Int):Prop:=∃ k1 k2:Int,IC A.aH k k1/\IC A.box k1 k2/\A.aw=dV k2.toNat A.aw.length/\k'=k2+(A.aw.length:Int)
theorem W.q4(o:bQ base t h (ap n) (ah k nn s a m)){Q:β->Prop}{f:Int->Int->ByteArray->Option Addr×Nat->Option β}(w:Wp (f k nn s (a,m)) Q):
  Wp (((Am.cell h n 0).bind (au .i64)).bind λn1=>((Am.cell h n 1).bind (au .i64)).bind λn2=>((Am.cell h n 2).bind aK).bind λs3=>((Am.cell h n 3).bind aN).bind λl4=>f n1 n2 s3 l4) Q:=
 W.bI (o.ap (i:=0) rfl) (W.bI (o.ap (i:=1) rfl) (W.bT (o.ap (i:=2) rfl) (W.bS (o.ap (i:=3) rfl) w)))
theorem W.q5{p:Int}{b g:Option Addr}{x y z:Nat}(o:bQ base t h (ap n) (de p c a x b y g z)){Q:β->Prop}{f:Int->Int->Option Addr×Nat->Option Addr×Nat->Option Addr×Nat->Option β}(w:Wp (f p c (a,x) (b,y) (g,z)) Q):
  Wp (((Am.cell h n 0).bind (au .i64)).bind λn1=>((Am.cell h n 1).bind (au .i64)).bind λn2=>((Am.cell h n 2).bind aN).bind λl3=>((Am.cell h n 3).bind aN).bind λl4=>((Am.cell h n 4).bind aN).bind λl5=>f n1 n2 l3 l4 l5) Q:=
 W.bI (o.ap (i:=0) rfl) (W.bI (o.ap (i:=1) rfl) (W.bS (o.ap (i:=2) rfl) (W.bS (o.ap (i:=3) rfl) (W.bS (o.ap (i:=4) rfl) w))))
theorem W.g4{Q:β->Prop}{f:Int->Int->ByteArray->Option Addr×Nat->Option β}(w:Wp (f k nn s (a,m)) Q):
  Wp (((some (Value.agg (ah k nn s a m).toArray)).bind (ig 4)).bind λl=>((l[0]?).bind (au .i64)).bind λn1=>((l[1]?).bind (au .i64)).bind λn2=>((l[2]?).bind aK).bind λs3=>((l[3]?).bind aN).bind λl4=>f n1 n2 s3 l4) Q:=w
theorem hO{S:Nat->Prop}(k:KB S h h')(hb:b<h.length)(hS:¬S b):bc h h' (some ⟨b,i,none⟩) n:=by
 intro ad e
 injection e with e
 subst e
 have hg:=k.2 b hb hS
 exact ⟨λj _=>by unfold Am.cell;simp only [hg],by simp only [hg]⟩
theorem ma(h:b≠n):fP (some ⟨b,o,none⟩) n:=λad e=>by
 injection e with e
 subst e
 exact h
def dx(x a b:Int):Bool:=decide (x>=a)&&decide (x<=b)
theorem eW{x a b:Int}:run (Et base) 23 [.int .i64 x,.int .i64 a,.int .i64 b] h=some (.bool (dx x a b),h):=by
 refine Am.r23 ?_
 unfold dx
 by_cases c:x>=a
 ·exact aE (decide_eq_true c) (by simp [c])
 ·exact aU (by simpa using c) (by simp [c])
theorem cU{x a b:Int}:run (Et base) 16 [.int .i64 x,.int .i64 a,.int .i64 b] h=some (.bool (dx x a b),h):=by
 refine Am.mS ?_
 unfold dx
 by_cases c:x>=a
 ·exact aE (decide_eq_true c) (by simp [c])
 ·exact aU (by simpa using c) (by simp [c])
theorem Di{x:Int}:run (Et base) 131 [.int .u8 x] h=some (.bool (dx x 97 122),h):=by
 refine Am.akL ?_
 unfold dx
 by_cases c:x>=97
 ·exact aE (decide_eq_true c) (by simp [c])
 ·exact aU (by simpa using c) (by simp [c])
theorem Dj{x:Int}:run (Et base) 132 [.int .u8 x] h=some (.bool (dx x 48 57),h):=by
 refine Am.Fq ?_
 unfold dx
 by_cases c:x>=48
 ·exact aE (decide_eq_true c) (by simp [c])
 ·exact aU (by simpa using c) (by simp [c])
def byt(s:ByteArray)(i:Nat):Int:=((s.data.toList.getD i 0).toNat:Int)
def oM(s:ByteArray)(i:Nat):Bool:=!dx (byt s i) 97 122&&(((i:Int)==0) || !dx (byt s i) 48 57)
def jS(s:ByteArray):Nat->Nat->Bool
 | 0,_=>false
 | d+1,i=>oM s i||jS s d (i+1)
def ir(s:ByteArray):Bool:=!jS s s.size 0&&dx (s.size:Int) 1 12
theorem wJ(hs:s.size<=9223372036854775807):∀ (d i:Nat),i+d=s.size ->
  aF (zx base) [some (.string s),some (.int .i64 (i:Int))] h=if jS s d i=true then some (1,[some (.bool false)],h) else some (2,[some (.string s)],h):=by
 intro d
 induction d with
 | zero=>
  intro i hi
  rw [cg,xZ]
  have:¬((i:Int)<(s.size:Int)):=by omega
  simp [this,jS]
 | succ d ih=>
  intro i hi
  have step:zx base [some (.string s),some (.int .i64 (i:Int))] h=if oM s i=true then some (1,[some (.bool false)],h) else some (0,[some (.string s),some (.int .i64 ((i+1:Nat):Int))],h):=by
   rw [xZ]
   refine aE (decide_eq_true (by omega)) ?_
   refine bs (v:=.inl ([some (.string s),some (.int .i64 (i:Int)),some (.bool (oM s i))],h)) ?_ ?_
   ·refine aE ⟨by omega,by omega⟩ ?_
    simp only [aM]
    refine bs Di (bB rfl ?_)
    unfold oM byt
    cases dx (((s.data.toList.getD i 0).toNat:Nat):Int) 97 122 with
    | true=>exact aU (by decide) (by simp)
    | false=>
     refine aE rfl ?_
     by_cases c:((i:Int)==(0:Int))=true
     ·exact aE c (by simp [c])
     ·have c':((i:Int)==(0:Int))=false:=by simpa using c
      refine aU c (aE ⟨by omega,by omega⟩ (bs Dj (bB rfl ?_)))
      simp [c']
   ·refine jn (bT rfl (bI rfl (bB rfl ?_)))
    rw [bm (by omega) (by omega),show ((i:Int)+1)=((i+1:Nat):Int) from by omega]
  rw [cg,step]
  by_cases c:oM s i=true
  ·simp [c,jS]
  ·have c':oM s i=false:=by simpa using c
   simp only [c',vw,if_false,aJ,if_true,jS,iM]
   exact ih (i+1) (by omega)
theorem oN(hs:s.size<=9223372036854775807):run (Et base) 124 [.string s] h=some (.bool (ir s),h):=by
 have e:=wJ (base:=base) (h:=h) hs s.size 0 (by omega)
 rw [show ((0:Nat):Int)=0 from rfl] at e
 refine Am.E4 ?_
 unfold ir
 cases hb:jS s s.size 0 with
 | true=>
  rw [hb] at e
  exact bs e (aE rfl (bB rfl rfl))
 | false=>
  rw [hb] at e
  exact bs e (aU (by simp) (aE rfl (bT rfl (bs eW (bB rfl (by simp))))))
theorem akQ(s:ByteArray)(i:Nat):ag .i64 ((s.data.toList.getD i 0).toNat:Int)=byt s i:=by
 have:=(s.data.toList.getD i 0).toNat_lt
 rw [bm (by omega) (by omega)]
 rfl
theorem wK(hs:s.size<=9223372036854775807):∀ (d i:Nat),i+d=s.size ->
  aF (zu base) [some (.string s),some (.int .i64 (i:Int))] h=if jS s d i=true then some (1,[some (.bool false)],h) else some (2,[some (.string s)],h):=by
 intro d
 induction d with
 | zero=>
  intro i hi
  rw [cg,xW]
  have:¬((i:Int)<(s.size:Int)):=by omega
  simp [this,jS]
 | succ d ih=>
  intro i hi
  have step:zu base [some (.string s),some (.int .i64 (i:Int))] h=if oM s i=true then some (1,[some (.bool false)],h) else some (0,[some (.string s),some (.int .i64 ((i+1:Nat):Int))],h):=by
   rw [xW]
   refine aE (decide_eq_true (by omega)) (aE ⟨by omega,by omega⟩ ?_)
   simp only [aM,akQ]
   refine bs cU (bB rfl ?_)
   refine bs (v:=.inl ([some (.string s),some (.int .i64 (i:Int)),some (.bool (oM s i))],h)) ?_ ?_
   ·unfold oM
    cases dx (byt s i) 97 122 with
    | true=>exact aU (by decide) (by simp)
    | false=>
     refine aE rfl ?_
     by_cases c:((i:Int)==(0:Int))=true
     ·exact aE c (by simp [c])
     ·have c':((i:Int)==(0:Int))=false:=by simpa using c
      refine aU c (aE ⟨by omega,by omega⟩ (bs cU (bB rfl ?_)))
      simp [c']
   ·refine jn (bT rfl (bI rfl (bB rfl ?_)))
    rw [bm (by omega) (by omega),show ((i:Int)+1)=((i+1:Nat):Int) from by omega]
  rw [cg,step]
  by_cases c:oM s i=true
  ·simp [c,jS]
  ·have c':oM s i=false:=by simpa using c
   simp only [c',vw,if_false,aJ,if_true,jS,iM]
   exact ih (i+1) (by omega)
theorem oO(hs:s.size<=9223372036854775807):run (Et base) 114 [.string s] h=some (.bool (ir s),h):=by
 have e:=wK (base:=base) (h:=h) hs s.size 0 (by omega)
 rw [show ((0:Nat):Int)=0 from rfl] at e
 refine Am.aj8 ?_
 unfold ir
 cases hb:jS s s.size 0 with
 | true=>
  rw [hb] at e
  exact bs e (aE rfl (bB rfl rfl))
 | false=>
  rw [hb] at e
  exact bs e (aU (by simp) (aE rfl (bT rfl (bs cU (bB rfl (by simp))))))
def Ej(k n:Int)(s:ByteArray)(m:Nat):Bool:=
 if (k==(1:Int))=true then dx n (-1000000) 1000000&&(s.toList==(⟨#[]⟩:ByteArray).toList)&&(((m:Nat):Int)==(0:Int))
 else if (k==(2:Int))=true then (n==(0:Int))&&ir s&&(((m:Nat):Int)==(0:Int))
 else if (k==(3:Int))=true then dx n 0 99999&&(s.toList==(⟨#[]⟩:ByteArray).toList)&&(((m:Nat):Int)==(0:Int))
 else if (k==(4:Int))=true then (n==(0:Int))&&(s.toList==(⟨#[]⟩:ByteArray).toList)&&decide (((m:Nat):Int)<=(8:Int))
 else if (k==(5:Int))=true then (n==(0:Int))&&(s.toList==(⟨#[]⟩:ByteArray).toList)&&decide (((m:Nat):Int)<=(20:Int))
 else if (k==(6:Int))=true then (n==(0:Int))&&decide ((s.size:Int)<=(40:Int))&&(((m:Nat):Int)==(0:Int))
 else false
theorem ug{c d:Bool}{x y:Option β}{g:Bool->Option β}(hx:c=true->x=g d)(hy:c=false->y=g false):(if c=true then x else y)=g (c&&d):=by
 cases c with
 | true=>rw [if_pos rfl];simpa using hx rfl
 | false=>rw [if_neg (by decide)];simpa using hy rfl
theorem sw{c:Prop}[Decidable c]{a b:Option β}{x:Bool}{g:Bool->Option β}(ha:c->a=g x)(hb:¬c->b=g y):(if c then a else b)=g (if c then x else y):=by
 by_cases h:c
 ·rw [if_pos h,if_pos h];exact ha h
 ·rw [if_neg h,if_neg h];exact hb h
theorem zK{n:Int}(hs:s.size<=9223372036854775807)(hb:base<=h.length):
  ∃ h',run (Et base) 125 [.agg (ah k n s a m).toArray] h=some (.bool (Ej k n s m),h')/\KB bp h h':=by
 obtain ⟨o1,k1,q1⟩:=aI (base:=base) (t:=56) (h:=h) (cs:=ah k n s a m) hb rfl
 generalize da:h++[some (⟨ah k n s a m,56⟩:df)]=kg at o1 k1 q1
 refine ⟨kg,Am.akI (lets λmU eh=>?_),k1⟩
 rw [da] at eh
 subst eh
 have c0:=o1.ap (i:=0) rfl
 have c1:=o1.ap (i:=1) rfl
 have c2:=o1.ap (i:=2) rfl
 have c3:=o1.ap (i:=3) rfl
 let g:Bool->Option (Value×AH):=λb=>some (.bool b,mU)
 change _=g (Ej k n s m)
 unfold Ej
 refine bI c0 (sw (g:=g) (λ_=>?_) (λ_=>sw (g:=g) (λ_=>?_) (λ_=>sw (g:=g) (λ_=>?_) (λ_=>sw (g:=g) (λ_=>?_) (λ_=>sw (g:=g) (λ_=>?_) (λ_=>sw (g:=g) (λ_=>?_) (λ_=>rfl)))))))
 ·rw [kM]
  exact bI c1 (bs eW (bB rfl (ug (g:=g) (λ_=>bT c2 (ug (g:=g) (λ_=>bS c3 rfl) λ_=>rfl)) λ_=>rfl)))
 ·rw [kM]
  exact bI c1 (ug (g:=g) (λ_=>bT c2 (bs (oN hs) (bB rfl (ug (g:=g) (λ_=>bS c3 rfl) λ_=>rfl)))) λ_=>rfl)
 ·rw [kM]
  exact bI c1 (bs eW (bB rfl (ug (g:=g) (λ_=>bT c2 (ug (g:=g) (λ_=>bS c3 rfl) λ_=>rfl)) λ_=>rfl)))
 ·rw [kM]
  exact bI c1 (ug (g:=g) (λ_=>bT c2 (ug (g:=g) (λ_=>bS c3 rfl) λ_=>rfl)) λ_=>rfl)
 ·rw [kM]
  exact bI c1 (ug (g:=g) (λ_=>bT c2 (ug (g:=g) (λ_=>bS c3 rfl) λ_=>rfl)) λ_=>rfl)
 ·rw [kM]
  exact bI c1 (ug (g:=g) (λ_=>bT c2 (ug (g:=g) (λ_=>bS c3 rfl) λ_=>rfl)) λ_=>rfl)
theorem Dk{n:Int}(hs:s.size<=9223372036854775807)(hb:base<=h.length):
  ∃ h',run (Et base) 127 [.agg (ah k n s a m).toArray] h=some (.bool (Ej k n s m),h')/\KB bp h h':=by
 obtain ⟨o1,k1,q1⟩:=aI (base:=base) (t:=56) (h:=h) (cs:=ah k n s a m) hb rfl
 generalize da:h++[some (⟨ah k n s a m,56⟩:df)]=kg at o1 k1 q1
 refine ⟨kg,Am.akK (lets λmU eh=>?_),k1⟩
 rw [da] at eh
 subst eh
 have c0:=o1.ap (i:=0) rfl
 have c1:=o1.ap (i:=1) rfl
 have c2:=o1.ap (i:=2) rfl
 have c3:=o1.ap (i:=3) rfl
 let g:Bool->Option (Value×AH):=λb=>some (.bool b,mU)
 change _=g (Ej k n s m)
 unfold Ej
 refine bS c3 (bI c0 (sw (g:=g) (λ_=>?_) (λ_=>sw (g:=g) (λ_=>?_) (λ_=>sw (g:=g) (λ_=>?_) (λ_=>sw (g:=g) (λ_=>?_) (λ_=>sw (g:=g) (λ_=>?_) (λ_=>sw (g:=g) (λ_=>?_) (λ_=>rfl))))))))
 ·rw [kM]
  exact bI c1 (bs cU (bB rfl (ug (g:=g) (λ_=>bT c2 (ug (g:=g) (λ_=>rfl) λ_=>rfl)) λ_=>rfl)))
 ·rw [Bool.and_comm (n==0),kM]
  exact bT c2 (bs (oO hs) (bB rfl (ug (g:=g) (λ_=>bI c1 (ug (g:=g) (λ_=>rfl) λ_=>rfl)) λ_=>rfl)))
 ·rw [kM]
  exact bI c1 (bs cU (bB rfl (ug (g:=g) (λ_=>bT c2 (ug (g:=g) (λ_=>rfl) λ_=>rfl)) λ_=>rfl)))
 ·rw [kM]
  exact bI c1 (ug (g:=g) (λ_=>bT c2 (ug (g:=g) (λ_=>rfl) λ_=>rfl)) λ_=>rfl)
 ·rw [kM]
  exact bI c1 (ug (g:=g) (λ_=>bT c2 (ug (g:=g) (λ_=>rfl) λ_=>rfl)) λ_=>rfl)
 ·rw [kM]
  exact bI c1 (ug (g:=g) (λ_=>bT c2 (ug (g:=g) (λ_=>rfl) λ_=>rfl)) λ_=>rfl)
def qY(g:Tm->Int->Int->Int):List Tm->Int->Int->Int
 | [],_,left=>left
 | t :: r,deep,left=>if left>=0 then qY g r deep (g t deep left) else left
def lk:Nat->Tm->Int->Int->Int
 | 0,_,_,_=>-1
 | f+1,.mk k n s l,deep,left=>if deep<1\/left<1\/Ej k n s l.length=false then -1 else qY (lk f) l (deep-1) (left-1)
theorem zM(g:Tm->Int->Int->Int)(l:List Tm)(deep left:Int)(h:left<0):qY g l deep left=left:=by
 cases l with
 | nil=>rfl
 | cons t r=>rw [qY,if_neg (by omega)]
theorem Nh{g:Tm->Int->Int->Int}(hg:∀ t d x,0<=x->-1<=g t d x/\g t d x<=x):∀ (l:List Tm) (deep left:Int),-1<=left->-1<=qY g l deep left/\qY g l deep left<=left
 | [],_,left,h=>⟨h,gb _⟩
 | t :: r,deep,left,h=>by
  rw [qY]
  split
  ·rename_i h0
   have a:=hg t deep left h0
   have b:=Nh hg r deep (g t deep left) a.1
   exact ⟨b.1,by omega⟩
  ·exact ⟨h,gb _⟩
theorem Ni:∀ (f:Nat) (t:Tm) (deep left:Int),0<=left->-1<=lk f t deep left/\lk f t deep left<=left
 | 0,_,_,left,h=>⟨by simp [lk],by simp only [lk];omega⟩
 | f+1,.mk k n s l,deep,left,h=>by
  rw [lk]
  split
  ·exact ⟨by omega,by omega⟩
  ·rename_i hn
   have:=Nh (g:=lk f) (λt d x hx=>Ni f t d x hx) l (deep-1) (left-1) (by omega)
   exact ⟨this.1,by omega⟩
theorem q4(o:bQ base t h (ap n) (ah k nn s a m)){f:Int->Int->ByteArray->Option Addr×Nat->Option β}{z:Option β}(hf:f k nn s (a,m)=z):
  (((Am.cell h n 0).bind (au .i64)).bind λn1=>((Am.cell h n 1).bind (au .i64)).bind λn2=>((Am.cell h n 2).bind aK).bind λs3=>((Am.cell h n 3).bind aN).bind λl4=>f n1 n2 s3 l4)=z:=
 bI (o.ap (i:=0) rfl) (bI (o.ap (i:=1) rfl) (bT (o.ap (i:=2) rfl) (bS (o.ap (i:=3) rfl) hf)))
def aeg(base f:Nat):Prop:=∀ (h:AH) (p:Nat->Prop) (t:Tm) (cs:List Value) (deep left:Int),cD h p f t cs->base<=h.length->0<=deep->deep<=6->0<=left->left<=100 ->
 ∃ h',run (Et base) 116 [.agg cs.toArray,.int .i64 deep,.int .i64 left] h=some (.int .i64 (lk f t deep left),h')/\KB bp h h'
def aeh(base f:Nat):Prop:=∀ (h:AH) (p:Nat->Prop) (t:Tm) (cs:List Value) (deep left:Int),cD h p f t cs->base<=h.length->0<=deep->deep<=6->0<=left->left<=100 ->
 ∃ z h',run (Et base) 104 [.agg cs.toArray,.int .i64 (7-deep),.int .i64 (100-left)] h=some (.tuple #[.int .i64 z,.bool (decide (lk f t deep left>=0))],h')/\KB bp h h'/\(lk f t deep left>=0->z=100-lk f t deep left)
theorem ID(ih:aeg base f){n:Int}(hl:l.length<=9223372036854775807){deep:Int}(hd0:1<=deep)(hd1:deep<=6):∀ (d i:Nat) (h:AH) (left:Int),i+d=l.length->iQ h p f l a->bQ base 56 h (ap ob) (ah k n s a l.length)->base<=h.length->-1<=left->left<=100 ->
  ∃ h',aF (Fm base) [some (.int .i64 deep),some (.int .i64 left),some (.pointer (ap ob)),some (.int .i64 (i:Int))] h=some (2,[some (.int .i64 (qY (lk f) (l.drop i) (deep-1) left))],h')/\KB bp h h':=by
 intro d
 induction d with
 | zero=>
  intro i h left hi hs ow hb h0 h1
  refine ⟨h,?_,KB.refl _ _⟩
  rw [show l.drop i = [] from dZ (by omega)]
  refine aC (by decide) ?_
  rw [sq]
  refine bj (q:=([some (.int .i64 deep),some (.int .i64 left),some (.pointer (ap ob)),some (.int .i64 (i:Int)),some (.bool false)],h)) (bS (ow.ap (i:=3) rfl) (aU (by simp;omega) rfl)) ?_
  exact bI rfl (bI rfl (bs rfl (bI rfl (bB rfl (aU (by decide) rfl)))))
 | succ d fJ=>
  intro i h left hi hs ow hb h0 h1
  have aS:i<l.length:=by omega
  rw [dJ aS,qY]
  by_cases c:left>=0
  ·rw [if_pos c]
   obtain ⟨ad,c0,c1,c2,c3,rfl,g0,g1,g2,g3,hm⟩:=hs.get aS
   obtain ⟨h',e1,k1⟩:=ih h p l[i] _ (deep-1) left hm hb (by omega) (by omega) (by omega) h1
   have le:=Ni f l[i] (deep-1) left c
   obtain ⟨IA,e2,k2⟩:=fJ (i+1) h' (lk f l[i] (deep-1) left) (by omega) (hs.ax k1 λ_ _ h=>h) (ow.aj k1) (by have:=k1.1;omega) (by omega) (by omega)
   refine ⟨IA,?_,KB.trans k1 k2 (λ_ _ h=>h) (λ_ _ h=>h)⟩
   cases f with
   | zero=>exact hm.elim
   | succ f=>
    generalize ht:l[i]=tt at hm e1 e2 le
    obtain ⟨kk,nn,ss,ll⟩:=tt
    obtain ⟨a2,bV,_,_,_⟩:=hm.parts
    injection bV with q0 bV
    injection bV with q1 bV
    injection bV with q2 bV
    injection bV with q3 _
    subst q0;subst q1;subst q2;subst q3
    refine bl ?_ e2
    rw [sq]
    refine bj (q:=([some (.int .i64 deep),some (.int .i64 left),some (.pointer (ap ob)),some (.int .i64 (i:Int)),some (.bool true)],h)) (bS (ow.ap (i:=3) rfl) (aE (decide_eq_true (by simp;omega)) (by simp [c]))) ?_
    refine bI rfl (bI rfl (bs rfl (bI rfl (bB rfl (aE rfl ?_)))))
    refine bS (ow.ap (i:=3) rfl) (aE ⟨by omega,by simp;omega⟩ (bs rfl ?_))
    simp only [aM]
    refine bI g0 (bI g1 (bT g2 (bS g3 ?_)))
    rw [bm (n:=deep-1) (by omega) (by omega)]
    refine bs e1 (bI rfl ?_)
    rw [bm (by omega) (by omega),show ((i:Int)+1)=((i+1:Nat):Int) from by omega]
  ·rw [if_neg c]
   refine ⟨h,?_,KB.refl _ _⟩
   refine aC (by decide) ?_
   rw [sq]
   refine bj (q:=([some (.int .i64 deep),some (.int .i64 left),some (.pointer (ap ob)),some (.int .i64 (i:Int)),some (.bool false)],h)) (bS (ow.ap (i:=3) rfl) (aE (decide_eq_true (by simp;omega)) (by simp [c]))) ?_
   exact bI rfl (bI rfl (bs rfl (bI rfl (bB rfl (aU (by decide) rfl)))))
theorem Dl{base:Nat}:∀ f,aeg base f
 | 0=>λh p t cs deep left x=>x.elim
 | f+1=>λh p t cs deep left x hb d0 d1 l0 l1=>by
  obtain ⟨k,n,s,l⟩:=t
  obtain ⟨a,rfl,vo,hs,hl⟩:=x.parts
  simp only [maxLen] at hs hl
  obtain ⟨o1,k1,q1⟩:=aI (base:=base) (t:=56) (h:=h) (cs:=ah k n s a l.length) hb rfl
  generalize da:h++[some (⟨ah k n s a l.length,56⟩:df)]=kg at o1 k1 q1
  obtain ⟨h2,e2,k2⟩:=Dk (base:=base) (h:=kg) (k:=k) (n:=n) (s:=s) (a:=a) (m:=l.length) (by omega) (by omega)
  have n2:=k2.1
  have dH:KB bp h h2:=KB.trans k1 k2 (λ_ _ h=>h) (λ_ _ h=>h)
  have o2:=o1.aj k2
  by_cases c1:deep<1
  ·rw [show lk (f+1) (.mk k n s l) deep left = -1 from by rw [lk,if_pos (.inl c1)]]
   refine ⟨kg,Am.zv (lets λmU eh=>?_),k1⟩
   rw [da] at eh
   subst eh
   refine bj (q:=([some (.int .i64 deep),some (.int .i64 left),some (.pointer (ap h.length)),some (.bool true)],mU)) (aE (decide_eq_true c1) rfl) ?_
   exact bI rfl (bI rfl (bs rfl (bB rfl (aE rfl rfl))))
  by_cases c2:left<1
  ·rw [show lk (f+1) (.mk k n s l) deep left = -1 from by rw [lk,if_pos (.inr (.inl c2))]]
   refine ⟨kg,Am.zv (lets λmU eh=>?_),k1⟩
   rw [da] at eh
   subst eh
   refine bj (q:=([some (.int .i64 deep),some (.int .i64 left),some (.pointer (ap h.length)),some (.bool true)],mU)) (aU (by simpa using c1) (aE (decide_eq_true c2) rfl)) ?_
   exact bI rfl (bI rfl (bs rfl (bB rfl (aE rfl rfl))))
  cases c3:Ej k n s l.length with
  | false=>
   rw [show lk (f+1) (.mk k n s l) deep left = -1 from by rw [lk,if_pos (.inr (.inr c3))]]
   refine ⟨h2,Am.zv (lets λmU eh=>?_),dH⟩
   rw [da] at eh
   subst eh
   rw [c3] at e2
   refine bj (q:=([some (.int .i64 deep),some (.int .i64 left),some (.pointer (ap h.length)),some (.bool true)],h2)) (aU (by simpa using c1) (aU (by simpa using c2) (q4 o1 (bs e2 (bB rfl rfl))))) ?_
   exact bI rfl (bI rfl (bs rfl (bB rfl (aE rfl rfl))))
  | true=>
   rw [c3] at e2
   obtain ⟨h3,e3,k3⟩:=ID (base:=base) (Dl f) (p:=p) (l:=l) (a:=a) (k:=k) (n:=n) (s:=s) (by omega) (deep:=deep) (by omega) (by omega) l.length 0 h2 (left-1) (by omega) (vo.ax dH λ_ _ h=>h) o2 (by omega) (by omega) (by omega)
   rw [show lk (f+1) (.mk k n s l) deep left=qY (lk f) l (deep-1) (left-1) from by rw [lk,if_neg (by simp [c3];omega)]]
   refine ⟨h3,Am.zv (lets λmU eh=>?_),KB.trans dH k3 (λ_ _ h=>h) (λ_ _ h=>h)⟩
   rw [da] at eh
   subst eh
   refine bj (q:=([some (.int .i64 deep),some (.int .i64 left),some (.pointer (ap h.length)),some (.bool false)],h2)) (aU (by simpa using c1) (aU (by simpa using c2) (q4 o1 (bs e2 (bB rfl rfl))))) ?_
   refine bI rfl (bI rfl (bs rfl (bB rfl (aU (by decide) ?_))))
   rw [bm (by omega) (by omega)]
   exact bs e3 (aE rfl (bI rfl rfl))
theorem IE(ih:aeh base f)(hl:l.length<=9223372036854775807)(hp:∀ b,p b->True){deep:Int}(hd0:1<=deep)(hd1:deep<=6):∀ (d i:Nat) (h:AH) (left:Int),i+d=l.length->iQ h p f l a->base<=h.length->0<=left->left<=100 ->
  ∃ z h',(aF (Fj base) [some (.int .i64 (7-deep)),some (.int .i64 (100-left)),some (.slice a l.length l.length),some (.int .i64 (l.length:Int)),some (.int .i64 (i:Int))] h=if qY (lk f) (l.drop i) (deep-1) left>=0 then some (2,[some (.int .i64 z)],h') else some (1,[some (.int .i64 z),some (.bool false)],h'))/\KB bp h h'/\(qY (lk f) (l.drop i) (deep-1) left>=0->z=100-qY (lk f) (l.drop i) (deep-1) left):=by
 intro d
 induction d with
 | zero=>
  intro i h left hi hs hb h0 h1
  refine ⟨100-left,h,?_,KB.refl _ _,?_⟩
  ·rw [show l.drop i = [] from dZ (by omega),qY,if_pos (by omega)]
   refine aC (by decide) ?_
   rw [sj]
   exact aU (by simp;omega) rfl
  ·rw [show l.drop i = [] from dZ (by omega),qY]
   exactλ_=>rfl
 | succ d fJ=>
  intro i h left hi hs hb h0 h1
  have aS:i<l.length:=by omega
  rw [dJ aS,qY,if_pos (by omega)]
  obtain ⟨ad,c0,c1,c2,c3,rfl,g0,g1,g2,g3,hm⟩:=hs.get aS
  cases f with
  | zero=>exact hm.elim
  | succ f=>
   generalize ht:l[i]=tt at hm
   obtain ⟨kk,nn,ss,ll⟩:=tt
   obtain ⟨a2,bV,_,_,_⟩:=hm.parts
   injection bV with q0 bV
   injection bV with q1 bV
   injection bV with q2 bV
   injection bV with q3 _
   subst q0;subst q1;subst q2;subst q3
   obtain ⟨o1,k1,q1⟩:=aI (base:=base) (t:=56) (h:=h) (cs:=ah kk nn ss a2 ll.length) hb rfl
   generalize da:h++[some (⟨ah kk nn ss a2 ll.length,56⟩:df)]=kg at o1 k1 q1
   obtain ⟨z,h',e1,k2,hz⟩:=ih kg p _ _ (deep-1) left (cD.ax k1 (λ_ _ h=>h) _ _ _ hm) (by omega) (by omega) (by omega) (by omega) h1
   have Fu:KB bp h h':=KB.trans k1 k2 (λ_ _ h=>h) (λ_ _ h=>h)
   have le:=Ni (f+1) (.mk kk nn ss ll) (deep-1) left h0
   by_cases c:lk (f+1) (.mk kk nn ss ll) (deep-1) left>=0
   ·obtain ⟨z2,IA,e2,k3,N8⟩:=fJ (i+1) h' (lk (f+1) (.mk kk nn ss ll) (deep-1) left) (by omega) (hs.ax Fu λ_ _ h=>h) (by have:=Fu.1;omega) c (by omega)
    refine ⟨z2,IA,?_,KB.trans Fu k3 (λ_ _ h=>h) (λ_ _ h=>h),N8⟩
    have OD:=hz c
    refine bl ?_ e2
    rw [sj]
    refine aE (decide_eq_true (by omega)) (aE ⟨by omega,by omega⟩ (bs rfl ?_))
    simp only [aM]
    refine bI g0 (bI g1 (bT g2 (bS g3 (nw hb rfl λy ey=>?_))))
    rw [da] at ey
    subst ey
    rw [bm (n:=7-deep+1) (by omega) (by omega),show (7:Int)-deep+1=7-(deep-1) from by omega]
    refine q4 o1 (bs e1 (bs rfl (bI rfl (bB rfl (aU (by simp;omega) ?_)))))
    rw [bm (by omega) (by omega),show ((i:Int)+1)=((i+1:Nat):Int) from by omega,OD]
   ·refine ⟨z,h',?_,Fu,λhh=>?_⟩
    ·rw [zM _ _ _ _ (by omega),if_neg (by omega)]
     refine aC (by decide) ?_
     rw [sj]
     refine aE (decide_eq_true (by omega)) (aE ⟨by omega,by omega⟩ (bs rfl ?_))
     simp only [aM]
     refine bI g0 (bI g1 (bT g2 (bS g3 (nw hb rfl λy ey=>?_))))
     rw [da] at ey
     subst ey
     rw [bm (n:=7-deep+1) (by omega) (by omega),show (7:Int)-deep+1=7-(deep-1) from by omega]
     exact q4 o1 (bs e1 (bs rfl (bI rfl (bB rfl (aE (by simp;omega) rfl)))))
    ·rw [zM _ _ _ _ (by omega)] at hh
     omega
theorem Dm{base:Nat}:∀ f,aeh base f
 | 0=>λh p t cs deep left x=>x.elim
 | f+1=>λh p t cs deep left x hb d0 d1 l0 l1=>by
  obtain ⟨k,n,s,l⟩:=t
  obtain ⟨a,rfl,vo,hs,hl⟩:=x.parts
  simp only [maxLen] at hs hl
  obtain ⟨o1,k1,q1⟩:=aI (base:=base) (t:=56) (h:=h) (cs:=ah k n s a l.length) hb rfl
  generalize da:h++[some (⟨ah k n s a l.length,56⟩:df)]=kg at o1 k1 q1
  obtain ⟨h2,e2,k2⟩:=zK (base:=base) (h:=kg) (k:=k) (n:=n) (s:=s) (a:=a) (m:=l.length) (by omega) (by omega)
  have n2:=k2.1
  have dH:KB bp h h2:=KB.trans k1 k2 (λ_ _ h=>h) (λ_ _ h=>h)
  have o2:=o1.aj k2
  have w:ag .i64 (100-left+1)=100-(left-1):=by rw [bm (by omega) (by omega)];omega
  by_cases c1:deep<1
  ·rw [show lk (f+1) (.mk k n s l) deep left = -1 from by rw [lk,if_pos (.inl c1)]]
   refine ⟨100-(left-1),kg,Am.Qb (lets λmU eh=>?_),k1,λhh=>absurd hh (by decide)⟩
   rw [da] at eh
   subst eh
   rw [w]
   refine bj (q:=([some (.int .i64 (7-deep)),some (.int .i64 (100-(left-1))),some (.pointer (ap h.length)),some (.bool true)],mU)) (aE (decide_eq_true (by omega)) rfl) ?_
   exact bI rfl (bI rfl (bs rfl (bB rfl (aE rfl rfl))))
  by_cases c2:left<1
  ·rw [show lk (f+1) (.mk k n s l) deep left = -1 from by rw [lk,if_pos (.inr (.inl c2))]]
   refine ⟨100-(left-1),kg,Am.Qb (lets λmU eh=>?_),k1,λhh=>absurd hh (by decide)⟩
   rw [da] at eh
   subst eh
   rw [w]
   refine bj (q:=([some (.int .i64 (7-deep)),some (.int .i64 (100-(left-1))),some (.pointer (ap h.length)),some (.bool true)],mU)) (aU (by simp;omega) (aE (decide_eq_true (by omega)) rfl)) ?_
   exact bI rfl (bI rfl (bs rfl (bB rfl (aE rfl rfl))))
  cases c3:Ej k n s l.length with
  | false=>
   rw [c3] at e2
   rw [show lk (f+1) (.mk k n s l) deep left = -1 from by rw [lk,if_pos (.inr (.inr c3))]]
   refine ⟨100-(left-1),h2,Am.Qb (lets λmU eh=>?_),dH,λhh=>absurd hh (by decide)⟩
   rw [da] at eh
   subst eh
   rw [w]
   refine bj (q:=([some (.int .i64 (7-deep)),some (.int .i64 (100-(left-1))),some (.pointer (ap h.length)),some (.bool true)],h2)) (aU (by simp;omega) (aU (by simp;omega) (q4 o1 (bs e2 (bB rfl rfl))))) ?_
   exact bI rfl (bI rfl (bs rfl (bB rfl (aE rfl rfl))))
  | true=>
   rw [c3] at e2
   obtain ⟨z,h3,e3,k3,hz⟩:=IE (base:=base) (Dm f) (p:=p) (l:=l) (a:=a) (by omega) (λ_ _=>trivial) (deep:=deep) (by omega) (by omega) l.length 0 h2 (left-1) (by omega) (vo.ax dH λ_ _ h=>h) (by omega) (by omega) (by omega)
   rw [cH] at e3 hz
   rw [show lk (f+1) (.mk k n s l) deep left=qY (lk f) l (deep-1) (left-1) from by rw [lk,if_neg (by simp [c3];omega)]]
   refine ⟨z,h3,Am.Qb (lets λmU eh=>?_),KB.trans dH k3 (λ_ _ h=>h) (λ_ _ h=>h),hz⟩
   rw [da] at eh
   subst eh
   rw [w]
   refine bj (q:=([some (.int .i64 (7-deep)),some (.int .i64 (100-(left-1))),some (.pointer (ap h.length)),some (.bool false)],h2)) (aU (by simp;omega) (aU (by simp;omega) (q4 o1 (bs e2 (bB rfl rfl))))) ?_
   refine bI rfl (bI rfl (bs rfl (bB rfl (aU (by decide) (bS (o2.ap (i:=3) rfl) ?_)))))
   by_cases cc:qY (lk f) l (deep-1) (left-1)>=0
   ·rw [if_pos cc] at e3
    rw [decide_eq_true cc]
    exact bs e3 (aU (by simp) (aE rfl (bI rfl rfl)))
   ·rw [if_neg cc] at e3
    rw [decide_eq_false cc]
    exact bs e3 (aE rfl (bI rfl (bB rfl rfl)))
def jo(f:Nat)(t:Tm):Bool:=decide (lk f t 6 100>=0)
theorem iR{n:Int}{t:Tm}(hm:cD h p f t (ah k n s a m))(hb:base<=h.length):
  ∃ h',run (Et base) 83 [.agg (ah k n s a m).toArray] h=some (.bool (jo f t),h')/\KB bp h h':=by
 obtain ⟨o1,k1,q1⟩:=aI (base:=base) (t:=56) (h:=h) (cs:=ah k n s a m) hb rfl
 generalize da:h++[some (⟨ah k n s a m,56⟩:df)]=kg at o1 k1 q1
 obtain ⟨h2,e2,k2⟩:=Dl (base:=base) f kg p t _ 6 100 (cD.ax k1 (λ_ _ h=>h) _ _ _ hm) (by omega) (by omega) (by omega) (by omega) (by omega)
 refine ⟨h2,Am.r83 (lets λmU eh=>?_),KB.trans k1 k2 (λ_ _ h=>h) (λ_ _ h=>h)⟩
 rw [da] at eh
 subst eh
 exact q4 o1 (bs e2 (bI rfl rfl))
theorem iT{n:Int}{t:Tm}(hm:cD h p f t (ah k n s a m))(hb:base<=h.length):
  ∃ h',run (Et base) 61 [.agg (ah k n s a m).toArray] h=some (.bool (jo f t),h')/\KB bp h h':=by
 obtain ⟨o1,k1,q1⟩:=aI (base:=base) (t:=56) (h:=h) (cs:=ah k n s a m) hb rfl
 generalize da:h++[some (⟨ah k n s a m,56⟩:df)]=kg at o1 k1 q1
 obtain ⟨z,h2,e2,k2,_⟩:=Dm (base:=base) f kg p t _ 6 100 (cD.ax k1 (λ_ _ h=>h) _ _ _ hm) (by omega) (by omega) (by omega) (by omega) (by omega)
 refine ⟨h2,Am.r61 (lets λmU eh=>?_),KB.trans k1 k2 (λ_ _ h=>h) (λ_ _ h=>h)⟩
 rw [da] at eh
 subst eh
 exact q4 o1 (bs e2 (bs rfl (bI rfl (bB rfl rfl))))
theorem td(hl:l.length<=9223372036854775807)(hs:iQ h p f l a)(hb:base<=h.length)(hp:∀ b,p b->b<h.length)(h0:0<=left)(h1:left<=1048576):
  ∃ z h',run (Et base) 78 [.slice a l.length l.length,.int .i64 left] h=some (.int .i64 z,h')/\KB bp h h'/\z<=left/\-1<=z/\(¬z<0->l.length<=1048576/\(∀ t∈l,jJ f t)/\z+((l.length+dt (eH f) l:Nat):Int)<=left):=by
 by_cases hn:left-(l.length:Int)<0
 ·refine ⟨-1,h,Am.Xe ?_,KB.refl _ _,by omega,by omega,λh=>absurd (by decide) h⟩
  rw [bm (by omega) (by omega)]
  exact aE (decide_eq_true hn) rfl
 ·obtain ⟨e,z,h',y1,y2,y3,y4,y5,y6⟩:=qX (base:=base) (f:=f) (qo f) (by omega) l.length 0 h (left-(l.length:Int)) (by omega) hs hb hp (by omega) (by omega)
  refine ⟨z,h',Am.Xe ?_,y3,by omega,by omega,λhz=>?_⟩
  ·rw [bm (by omega) (by omega)]
   refine aU (by simpa using hn) (bs y1 ?_)
   rcases y2 with rfl|rfl
   ·exact aE rfl (bI rfl rfl)
   ·exact aU (show ¬(2:Nat)=1 by decide) (aE rfl (bI rfl rfl))
  ·obtain ⟨y7,y8⟩:=y6 hz
   rw [cH] at y8
   exact ⟨by omega,λt ht=>by
    obtain ⟨j,hj⟩:=Yc ht
    exact y7 j t (by omega) hj,by omega⟩
theorem FA(hl:n<=9223372036854775807)(h0:0<=left)(h1:left<=1048576):∃ z,run (Et base) 79 [.slice a n n,.int .i64 left] h=some (.int .i64 z,h)/\z<=left/\-1<=z/\(¬z<0->z+(n:Int)<=left):=by
 by_cases hn:left-(n:Int)<0
 ·refine ⟨-1,Am.r79 ?_,by omega,by omega,λh=>absurd (by decide) h⟩
  rw [bm (by omega) (by omega)]
  exact aE (decide_eq_true hn) rfl
 ·refine ⟨left-(n:Int),Am.r79 ?_,by omega,by omega,λ_=>by omega⟩
  rw [bm (by omega) (by omega)]
  exact aU (by simpa using hn) rfl
def x_(f:Nat)(A:Ac):Prop:=A.aH.length<=1048576/\A.box.length<=1048576/\A.aw.length<=1048576/\(∀ t∈A.aH,jJ f t)/\(∀ t∈A.box,jJ f t)
def Nj(A:Ac):Prop:=A.aH.length<=9223372036854775807/\A.box.length<=9223372036854775807/\A.aw.length<=9223372036854775807
theorem Dn(hM:Nj A)(x:rH h p f A cs)(hb:base<=h.length)(hp:∀ b,p b->b<h.length)(h0:0<=left)(h1:left<=1048576):
  ∃ z h',run (Et base) 37 [.agg cs.toArray,.int .i64 left] h=some (.int .i64 z,h')/\KB bp h h'/\z<=left/\-1<=z/\(¬z<0->x_ f A/\z+((A.aH.length+dt (eH f) A.aH:Nat):Int)+((A.box.length+dt (eH f) A.box:Nat):Int)+(A.aw.length:Int)<=left):=by
 obtain ⟨a,b,g,rfl,hr,hx,hl,_⟩:=x
 obtain ⟨m1,m2,m3⟩:=hM
 obtain ⟨o1,k1,q1⟩:=aI (base:=base) (t:=74) (h:=h) (cs:=de A.pid A.pc a A.aH.length b A.box.length g A.aw.length) hb rfl
 generalize da:h++[some (⟨de A.pid A.pc a A.aH.length b A.box.length g A.aw.length,74⟩:df)]=kg at o1 k1 q1
 obtain ⟨z2,h2,e2,k2,y1,y2,y3⟩:=td (base:=base) (left:=left) m1 (hr.ax k1 λ_ _ h=>h) (by omega) (λb hb=>by have:=hp b hb;omega) h0 h1
 have n2:=k2.1
 have dH:=kN k1 k2
 have go:∀ {r:Value×AH},((if (decide (z2<(0:Int)))=true then some (.int .i64 (-1:Int),h2) else ((cell h2 (ae h) 3).bind aN).bind λl5=>(run (Et base) 78 [(.slice l5.1 l5.2 l5.2),(.int .i64 z2)] h2).bind λr6=>((some r6.1).bind (au .i64)).bind λn7=>
   (if (decide (n7<(0:Int)))=true then some ((.int .i64 (-1:Int)),r6.2) else ((cell r6.2 (ae h) 4).bind aN).bind λl8=>(run (Et base) 79 [(.slice l8.1 l8.2 l8.2),(.int .i64 n7)] r6.2).bind λr9=>((some r9.1).bind (au .i64)).bind λfl=>(if (decide (fl<(0:Int)))=true then some ((.int .i64 (-1:Int)),r9.2) else some ((.int .i64 fl),r9.2))))=some r) ->
   run (Et base) 37 [.agg (de A.pid A.pc a A.aH.length b A.box.length g A.aw.length).toArray,.int .i64 left] h=some r:=by
  intro r hr
  refine Am.r37 (lets λy ey=>?_)
  rw [da] at ey
  rw [ey]
  exact bS (o1.ap (i:=2) rfl) (bs e2 (bI rfl hr))
 by_cases c2:z2<0
 ·exact ⟨-1,h2,go (aE (decide_eq_true c2) rfl),dH,by omega,by omega,λh=>absurd (by decide) h⟩
 obtain ⟨b1,b2,b3⟩:=y3 c2
 obtain ⟨z3,h3,e3,k3,u1,u2,u3⟩:=td (base:=base) (left:=z2) m2 (hx.ax dH λ_ _ h=>h) (by omega) (λb hb=>by have:=hp b hb;omega) (by omega) (by omega)
 have n3:=k3.1
 have fg:=kN dH k3
 by_cases c3:z3<0
 ·exact ⟨-1,h3,go (aU (by simpa using c2) (bS ((o1.aj k2).ap (i:=3) rfl) (bs e3 (bI rfl (aE (decide_eq_true c3) rfl))))),fg,by omega,by omega,λh=>absurd (by decide) h⟩
 obtain ⟨d1,d2,d3⟩:=u3 c3
 obtain ⟨z4,e4,v1,v2,v3⟩:=FA (base:=base) (h:=h3) (a:=g) (n:=A.aw.length) (left:=z3) m3 (by omega) (by omega)
 by_cases c4:z4<0
 ·exact ⟨-1,h3,go (aU (by simpa using c2) (bS ((o1.aj k2).ap (i:=3) rfl) (bs e3 (bI rfl (aU (by simpa using c3) (bS (((o1.aj k2).aj k3).ap (i:=4) rfl) (bs e4 (bI rfl (aE (decide_eq_true c4) rfl))))))))),fg,by omega,by omega,λh=>absurd (by decide) h⟩
 ·have:=v3 c4
  exact ⟨z4,h3,go (aU (by simpa using c2) (bS ((o1.aj k2).ap (i:=3) rfl) (bs e3 (bI rfl (aU (by simpa using c3) (bS (((o1.aj k2).aj k3).ap (i:=4) rfl) (bs e4 (bI rfl (aU (by simpa using c4) rfl))))))))),fg,by omega,by omega,λ_=>⟨⟨b1,d1,by omega,b2,d2⟩,by omega⟩⟩
theorem Dp(hB:x_ f A)(x:rH h p f A cs)(hb:base<=h.length)(hp:∀ b,p b->b<h.length):
  ∃ fy h',run (Et base) 49 [.agg cs.toArray] h=some (.agg fy.toArray,h')/\b_ base f (iS h.length h'.length) h' A fy/\KB bp h h':=by
 obtain ⟨a,b,g,rfl,hr,hx,hl,U1⟩:=x
 obtain ⟨m1,m2,m3,m4,m5⟩:=hB
 obtain ⟨o1,k1,q1⟩:=aI (base:=base) (t:=74) (h:=h) (cs:=de A.pid A.pc a A.aH.length b A.box.length g A.aw.length) hb rfl
 generalize da:h++[some (⟨de A.pid A.pc a A.aH.length b A.box.length g A.aw.length,74⟩:df)]=h1 at o1 k1 q1
 obtain ⟨o2,k2,q2⟩:=aI (base:=base) (t:=53) (h:=h1) (cs:=de 0 0 none 0 none 0 none 0) (by omega) rfl
 generalize nO:h1++[some (⟨de 0 0 none 0 none 0 none 0,53⟩:df)]=h2 at o2 k2 q2
 obtain ⟨o3,k3,q3⟩:=aI (base:=base) (t:=53) (h:=h2) (cs:=de 0 0 none 0 none 0 none 0) (by omega) rfl
 generalize IB:h2++[some (⟨de 0 0 none 0 none 0 none 0,53⟩:df)]=h3 at o3 k3 q3
 have p3:=(o1.aj k2).aj k3
 have z3:=o2.aj k3
 have fg:=kN (kN k1 k2) k3
 have Ha:∀ {i},bK (ap h.length) i->i≠h2.length:=λhi=>by rw [aG] at hi;omega
 have Dq:∀ {i},bK (ap h1.length) i->i≠h2.length:=λhi=>by rw [aG] at hi;omega
 obtain ⟨h4,e4,o4,k4,l4⟩:=o3.fF (i:=0) (new:=[.int .i64 A.pid]) (by simp) (by simp)
 have p4:=p3.bF k4 λi hi=>Ha hi
 have z4:=z3.bF k4 λi hi=>Dq hi
 obtain ⟨h5,e5,o5,k5,l5⟩:=o4.fF (i:=1) (new:=[.int .i64 A.pc]) (by simp [setAt]) (by simp)
 have p5:=p4.bF k5 λi hi=>Ha hi
 have z5:=z4.bF k5 λi hi=>Dq hi
 have qZ:KB bp h h5:=bR (bR fg k4 λi hi=>by omega) k5 λi hi=>by omega
 obtain ⟨a6,h6,e6,r6,k6⟩:=mW (base:=base) (lj f) m1 m4 (hr.ax qZ λ_ _ h=>h) (by omega) (λb hb=>by have:=hp b hb;omega)
 have n6:=k6.1
 obtain ⟨h7,e7,o7,k7,l7⟩:=(o5.aj k6).fF (i:=2) (new:=[.slice a6 A.aH.length A.aH.length]) (by simp [setAt]) (by simp)
 have p7:=(p5.aj k6).bF k7 λi hi=>Ha hi
 have z7:=(z5.aj k6).bF k7 λi hi=>Dq hi
 have r7:=r6.ax (bM.kp _ _) k7 λb hb hk=>by omega
 have Nk:KB bp h h7:=bR (kN qZ k6) k7 λi hi=>by omega
 obtain ⟨a8,h8,e8,r8,k8⟩:=mW (base:=base) (lj f) m2 m5 (hx.ax Nk λ_ _ h=>h) (by omega) (λb hb=>by have:=hp b hb;omega)
 have n8:=k8.1
 obtain ⟨h9,e9,o9,k9,l9⟩:=(o7.aj k8).fF (i:=3) (new:=[.slice a8 A.box.length A.box.length]) (by simp [setAt]) (by simp)
 have p9:=(p7.aj k8).bF k9 λi hi=>Ha hi
 have z9:=(z7.aj k8).bF k9 λi hi=>Dq hi
 have r9:=(r7.ax (bM.kp _ _) k8 λ_ _ h=>h).ax (bM.kp _ _) k9 λb hb hk=>by omega
 have s9:=r8.ax (bM.kp _ _) k9 λb hb hk=>by omega
 have Nl:KB bp h h9:=bR (kN Nk k8) k9 λi hi=>by omega
 obtain ⟨nt,iO,Qq,w10,uh,f10⟩:=Fx (base:=base) (hl.aj Nl) m3 (by omega)
 have fl:=uh.1
 obtain ⟨jc,zD,Dr,mz,fw⟩:=(o9.aj uh).fF (i:=4) (new:=[.slice nt A.aw.length A.aw.length]) (by simp [setAt]) (by simp)
 have z11:=(z9.aj uh).bF mz λi hi=>Dq hi
 have iY:=(r9.ax (bM.kp _ _) uh λ_ _ h=>h).ax (bM.kp _ _) mz λb hb hk=>by omega
 have s11:=(s9.ax (bM.kp _ _) uh λ_ _ h=>h).ax (bM.kp _ _) mz λb hb hk=>by omega
 have w11:=w10.bF mz λb hb=>by have:=f10 b hb;omega
 have jp:setAt (setAt (setAt (setAt (setAt (de 0 0 none 0 none 0 none 0) 0 [.int .i64 A.pid]) 1 [.int .i64 A.pc]) 2 [.slice a6 A.aH.length A.aH.length]) 3 [.slice a8 A.box.length A.box.length]) 4 [.slice nt A.aw.length A.aw.length]=de A.pid A.pc a6 A.aH.length a8 A.box.length nt A.aw.length:=rfl
 rw [jp] at Dr
 obtain ⟨lZ,Nm,Zn,zO,iI⟩:=z11.fF (i:=0) (new:=de A.pid A.pc a6 A.aH.length a8 A.box.length nt A.aw.length) (by simp) (by simp)
 have hz:setAt (de 0 0 none 0 none 0 none 0) 0 (de A.pid A.pc a6 A.aH.length a8 A.box.length nt A.aw.length)=de A.pid A.pc a6 A.aH.length a8 A.box.length nt A.aw.length:=rfl
 rw [hz] at Zn
 have akR:KB bp h lZ:=bR (bR (kN Nl uh) mz λi hi=>by omega) zO λi hi=>by omega
 refine ⟨de A.pid A.pc a6 A.aH.length a8 A.box.length nt A.aw.length,lZ,Am.r49 (lets λy ey=>?_),⟨a6,a8,nt,iS h5.length h6.length,iS h7.length h8.length,iS h9.length iO.length,rfl,iY.ax (bM.kp _ _) zO λb hb hk=>by omega,s11.ax (bM.kp _ _) zO λb hb hk=>by omega,w11.bF zO λb hb=>by have:=f10 b hb;omega,λb hb=>⟨f10 b hb,(w10.lt hb).2⟩,λb hb=>by constructor<;>omega,λb hb=>by constructor<;>omega,λb hb=>by constructor<;>omega,λb h1 h2=>by omega,λb h1 h2=>by omega,λb h1 h2=>by omega⟩,akR⟩
 rw [da] at ey
 rw [ey]
 refine lets λy ey=>?_
 rw [nO] at ey
 rw [ey]
 refine lets λy ey=>?_
 rw [IB] at ey
 rw [ey]
 refine bI (p3.ap (i:=0) rfl) (bs e4 (bI (p4.ap (i:=1) rfl) (bs e5 (bS (p5.ap (i:=2) rfl) (bs e6 (bS rfl (bs e7 ?_)))))))
 refine bS (p7.ap (i:=3) rfl) (bs e8 (bS rfl (bs e9 (bS (p9.ap (i:=4) rfl) (bs Qq (bS rfl (bs zD ?_)))))))
 refine bI (Dr.ap (i:=0) rfl) (bI (Dr.ap (i:=1) rfl) (bS (Dr.ap (i:=2) rfl) (bS (Dr.ap (i:=3) rfl) (bS (Dr.ap (i:=4) rfl) (bs Nm ?_)))))
 exact bI (Zn.ap (i:=0) rfl) (bI (Zn.ap (i:=1) rfl) (bS (Zn.ap (i:=2) rfl) (bS (Zn.ap (i:=3) rfl) (bS (Zn.ap (i:=4) rfl) rfl))))
theorem x_.M(x:x_ f A):Nj A:=by
 obtain ⟨h1,h2,h3,_,_⟩:=x
 exact ⟨by omega,by omega,by omega⟩
theorem x_.Le(x:x_ f A):A.Le:=by
 obtain ⟨h1,h2,h3,_,_⟩:=x
 exact ⟨by simp only [maxLen];omega,by simp only [maxLen];omega,by omega⟩
structure In where
 op:Int
 a:Int
 b:Int
 c:Int
 n:Int
 s:ByteArray
abbrev h_(x:In):List Value:=[.int .i64 x.op,.int .i64 x.a,.int .i64 x.b,.int .i64 x.c,.int .i64 x.n,.string x.s]
def cV:List In->List Value
 | []=>[]
 | x :: r=>h_ x++cV r
theorem jH:∀ l:List In,(cV l).length=l.length*6
 | []=>rfl
 | x :: r=>by simp only [cV,py,jH r,g_,G7];omega
theorem vx:∀ {l:List In} {i j:Nat} {x:In},l[i]? = some x->j<6->(cV l)[i*6+j]? = (h_ x)[j]?
 | [],i,j,x,h,_=>by simp at h
 | y :: r,0,j,x,h,hj=>by
  simp at h
  subst h
  rw [cV,gE (by simp;omega)]
  simp
 | y :: r,i+1,j,x,h,hj=>by
  rw [cV,List.getElem?_append_right (by simp;omega)]
  simp only [List.getElem?_cons_succ] at h
  rw [show (i+1)*6+j-(h_ y).length=i*6+j from by simp;omega]
  exact vx h hj
theorem vy:∀ {l:List In} {i:Nat} {x:In},i<l.length->setAt (cV l) (i*6) (h_ x)=cV (l.set i x)
 | [],i,x,h=>by simp at h
 | y :: r,0,x,h=>by
  simp [cV,setAt]
 | y :: r,i+1,x,h=>by
  have ih:=vy (l:=r) (i:=i) (x:=x) (by simpa using h)
  simp only [cV,List.set_cons_succ,<- ih]
  unfold setAt
  rw [List.take_append,Ng]
  have h6:(h_ y).length=6:=rfl
  rw [cG (by rw [h6];omega),List.drop_of_length_le (by rw [h6];omega),h6]
  rw [show (i+1)*6-6=i*6 from by omega,show (i+1)*6+(h_ x).length-6=i*6+(h_ x).length from by omega]
  simp
theorem In.get{l:List In}(x:Sl h a (cV l))(hi:i<l.length):
  ∃ ad,a=some ad/\Am.cell h ad.block (ad.off+i*6)=some (.int .i64 l[i].op)/\Am.cell h ad.block (ad.off+i*6+1)=some (.int .i64 l[i].a)/\Am.cell h ad.block (ad.off+i*6+1+1)=some (.int .i64 l[i].b)/\Am.cell h ad.block (ad.off+i*6+1+1+1)=some (.int .i64 l[i].c) /\
   Am.cell h ad.block (ad.off+i*6+1+1+1+1)=some (.int .i64 l[i].n)/\Am.cell h ad.block (ad.off+i*6+1+1+1+1+1)=some (.string l[i].s):=by
 have g:=λ(j:Nat) (v:Value) (hj:j<6) (hv:(h_ l[i])[j]? = some v)=>x.cell ((vx (bk hi) hj).trans hv)
 obtain ⟨ad,rfl,g0⟩:=g 0 _ (by decide) rfl
 obtain ⟨ad1,e,g1⟩:=g 1 _ (by decide) rfl
 injection e with e;subst e
 obtain ⟨ad1,e,g2⟩:=g 2 _ (by decide) rfl
 injection e with e;subst e
 obtain ⟨ad1,e,g3⟩:=g 3 _ (by decide) rfl
 injection e with e;subst e
 obtain ⟨ad1,e,g4⟩:=g 4 _ (by decide) rfl
 injection e with e;subst e
 obtain ⟨ad1,e,g5⟩:=g 5 _ (by decide) rfl
 injection e with e;subst e
 exact ⟨ad,rfl,g0,by rw [bO];exact g1,by rw [bO,bO];exact g2,by rw [bO,bO,bO];exact g3,by rw [bO,bO,bO,bO];exact g4,by rw [bO,bO,bO,bO,bO];exact g5⟩
theorem qi{x:In}(o:bQ base t h (ap n) (h_ x)){f:Int->Int->Int->Int->Int->ByteArray->Option β}{r:Option β}(hf:f x.op x.a x.b x.c x.n x.s=r):
  (((Am.cell h n 0).bind (au .i64)).bind λn1=>((Am.cell h n 1).bind (au .i64)).bind λn2=>((Am.cell h n 2).bind (au .i64)).bind λn3=>((Am.cell h n 3).bind (au .i64)).bind λn4=>((Am.cell h n 4).bind (au .i64)).bind λn5=>((Am.cell h n 5).bind aK).bind λs6=>f n1 n2 n3 n4 n5 s6)=r:=
 bI (o.ap (i:=0) rfl) (bI (o.ap (i:=1) rfl) (bI (o.ap (i:=2) rfl) (bI (o.ap (i:=3) rfl) (bI (o.ap (i:=4) rfl) (bT (o.ap (i:=5) rfl) hf)))))
theorem IF{x:In}(hs:x.s.size<=9223372036854775807)(h0:0<=left)(h1:left<=1048576)(hb:base<=h.length):
  ∃ z h',run (Et base) 36 [.agg (h_ x).toArray,.int .i64 left] h=some (.int .i64 z,h')/\KB bp h h'/\z<=left/\-1<=z/\(¬z<0->x.s.size<=1048576):=by
 obtain ⟨o1,k1,q1⟩:=aI (base:=base) (t:=70) (h:=h) (cs:=h_ x) hb rfl
 generalize da:h++[some (⟨h_ x,70⟩:df)]=kg at o1 k1 q1
 by_cases hn:left-(x.s.size:Int)<0
 ·refine ⟨-1,kg,Am.y_ (lets λy ey=>?_),k1,by omega,by omega,λh=>absurd (by decide) h⟩
  rw [da] at ey
  subst ey
  refine bT (o1.ap (i:=5) rfl) ?_
  rw [bm (by omega) (by omega)]
  exact aE (decide_eq_true hn) rfl
 ·refine ⟨left-(x.s.size:Int),kg,Am.y_ (lets λy ey=>?_),k1,by omega,by omega,λ_=>by omega⟩
  rw [da] at ey
  subst ey
  refine bT (o1.ap (i:=5) rfl) ?_
  rw [bm (by omega) (by omega)]
  exact aU (by simpa using hn) rfl
theorem Dt{l:List In}(hL:∀ x∈l,x.s.size<=9223372036854775807)(hl:l.length<=1048576):∀ (d i:Nat) (h:AH) (left:Int),i+d=l.length->Sl h a (cV l)->base<=h.length->0<=left->left<=1048576 ->
  ∃ e z h',aF (GK base) [some (.slice a l.length l.length),some (.int .i64 left),some (.int .i64 (i:Int))] h=some (e,[some (.int .i64 z)],h')/\(e=1\/e=2)/\KB bp h h'/\z<=left/\-1<=z/\(¬z<0->∀ j x,i<=j->l[j]? = some x->x.s.size<=1048576):=by
 intro d
 induction d with
 | zero=>
  intro i h left hi hs hb h0 h1
  refine ⟨2,left,h,?_,.inr rfl,KB.refl _ _,gb _,by omega,λ_ j x hj hx=>?_⟩
  ·refine aC (by decide) ?_
   rw [BZ]
   exact aU (by simp;omega) rfl
  ·have:=(bY.1 hx).1;omega
 | succ d fJ=>
  intro i h left hi hs hb h0 h1
  have aS:i<l.length:=by omega
  obtain ⟨ad,rfl,g0,g1,g2,g3,g4,g5⟩:=In.get hs aS
  obtain ⟨z,h',e,k,z1,z2,z3⟩:=IF (base:=base) (h:=h) (x:=l[i]) (left:=left) (hL _ (aQ aS)) h0 h1 hb
  have head:∀ {r:Option (Nat×az×AH)},(if (decide (z<(0:Int)))=true then some (1,[some (.int .i64 (-1:Int))],h') else some (0,[some (.slice (some ad) l.length l.length),some (.int .i64 z),some (.int .i64 (ag .i64 ((i:Int)+(1:Int))))],h'))=r->GK base [some (.slice (some ad) l.length l.length),some (.int .i64 left),some (.int .i64 (i:Int))] h=r:=by
   intro r hr
   rw [BZ]
   refine aE (decide_eq_true (by omega)) (aE ⟨by omega,by omega⟩ (bs rfl ?_))
   simp only [aM]
   exact bI g0 (bI g1 (bI g2 (bI g3 (bI g4 (bT g5 (bs e (bI rfl hr)))))))
  by_cases hn:z<0
  ·exact ⟨1,-1,h',aC (by decide) (head (aE (decide_eq_true hn) rfl)),.inl rfl,k,by omega,by omega,λh=>absurd (by decide) h⟩
  ·have n1:=k.1
   obtain ⟨e2,z',h2,y1,y2,y3,y4,y5,y6⟩:=fJ (i+1) h' z (by omega) (hs.aj k) (by omega) (by omega) (by omega)
   refine ⟨e2,z',h2,bl (head (aU (by simpa using hn) ?_)) y1,y2,kN k y3,by omega,by omega,λhz j x hj hx=>?_⟩
   ·rw [bm (n:=(i:Int)+1) (by omega) (by omega)];rfl
   ·by_cases c:j=i
    ·subst c
     rw [bk aS] at hx
     injection hx with hx
     subst hx
     exact z3 hn
    ·exact y6 hz j x (by omega) hx
theorem FB{l:List In}(hL:∀ x∈l,x.s.size<=9223372036854775807)(hl:l.length<=9223372036854775807)(hs:Sl h a (cV l))(hb:base<=h.length):
  ∃ z h',run (Et base) 11 [.slice a l.length l.length,.int .i64 1048576] h=some (.int .i64 z,h')/\KB bp h h'/\(¬z<0->l.length<=1048576/\(∀ x∈l,x.s.size<=1048576)/\z<=1048576):=by
 by_cases hn:(1048576:Int)-(l.length:Int)<0
 ·refine ⟨-1,h,Am.iY ?_,KB.refl _ _,λh=>absurd (by decide) h⟩
  rw [bm (by omega) (by omega)]
  exact aE (decide_eq_true hn) rfl
 ·obtain ⟨e,z,h',y1,y2,y3,y4,y5,y6⟩:=Dt (base:=base) hL (by omega) l.length 0 h (1048576-(l.length:Int)) (by omega) hs hb (by omega) (by omega)
  refine ⟨z,h',Am.iY ?_,y3,λhz=>⟨by omega,λx hx=>?_,by omega⟩⟩
  ·rw [bm (by omega) (by omega)]
   refine aU (by simpa using hn) (bs y1 ?_)
   rcases y2 with rfl|rfl
   ·exact aE rfl (bI rfl rfl)
   ·exact aU (show ¬(2:Nat)=1 by decide) (aE rfl (bI rfl rfl))
  ·obtain ⟨j,hj⟩:=Yc hx
   exact y6 hz j x (by omega) hj
theorem IG{x:In}(hb:base<=h.length):∃ h',run (Et base) 48 [.agg (h_ x).toArray] h=some (.agg (h_ x).toArray,h')/\KB bp h h':=by
 obtain ⟨o1,k1,q1⟩:=aI (base:=base) (t:=70) (h:=h) (cs:=h_ x) hb rfl
 generalize da:h++[some (⟨h_ x,70⟩:df)]=h1 at o1 k1 q1
 obtain ⟨o2,k2,q2⟩:=aI (base:=base) (t:=89) (h:=h1) (cs:=h_ ⟨0,0,0,0,0,⟨#[]⟩⟩) (by omega) rfl
 generalize nO:h1++[some (⟨h_ ⟨0,0,0,0,0,⟨#[]⟩⟩,89⟩:df)]=h2 at o2 k2 q2
 obtain ⟨o3,k3,q3⟩:=aI (base:=base) (t:=89) (h:=h2) (cs:=h_ ⟨0,0,0,0,0,⟨#[]⟩⟩) (by omega) rfl
 generalize IB:h2++[some (⟨h_ ⟨0,0,0,0,0,⟨#[]⟩⟩,89⟩:df)]=h3 at o3 k3 q3
 have o1:=(o1.aj k2).aj k3
 have o2:=o2.aj k3
 have Ha:∀ {i},bK (ap h.length) i->i≠h2.length:=λhi=>by rw [aG] at hi;omega
 have Dq:∀ {i},bK (ap h1.length) i->i≠h2.length:=λhi=>by rw [aG] at hi;omega
 obtain ⟨h4,e4,o4,k4,l4⟩:=o3.fF (i:=0) (new:=[.int .i64 x.op]) (by simp) (by simp)
 have p4:=o1.bF k4 λi hi=>Ha hi
 have z4:=o2.bF k4 λi hi=>Dq hi
 obtain ⟨h5,e5,o5,k5,l5⟩:=o4.fF (i:=1) (new:=[.int .i64 x.a]) (by simp [setAt]) (by simp)
 have p5:=p4.bF k5 λi hi=>Ha hi
 have z5:=z4.bF k5 λi hi=>Dq hi
 obtain ⟨h6,e6,o6,k6,l6⟩:=o5.fF (i:=2) (new:=[.int .i64 x.b]) (by simp [setAt]) (by simp)
 have p6:=p5.bF k6 λi hi=>Ha hi
 have z6:=z5.bF k6 λi hi=>Dq hi
 obtain ⟨h7,e7,o7,k7,l7⟩:=o6.fF (i:=3) (new:=[.int .i64 x.c]) (by simp [setAt]) (by simp)
 have p7:=p6.bF k7 λi hi=>Ha hi
 have z7:=z6.bF k7 λi hi=>Dq hi
 obtain ⟨h8,e8,o8,k8,l8⟩:=o7.fF (i:=4) (new:=[.int .i64 x.n]) (by simp [setAt]) (by simp)
 have p8:=p7.bF k8 λi hi=>Ha hi
 have z8:=z7.bF k8 λi hi=>Dq hi
 obtain ⟨h9,e9,o9,k9,l9⟩:=o8.fF (i:=5) (new:=[.string x.s]) (by simp [setAt]) (by simp)
 have z9:=z8.bF k9 λi hi=>Dq hi
 have jp:setAt (setAt (setAt (setAt (setAt (setAt (h_ ⟨0,0,0,0,0,⟨#[]⟩⟩) 0 [.int .i64 x.op]) 1 [.int .i64 x.a]) 2 [.int .i64 x.b]) 3 [.int .i64 x.c]) 4 [.int .i64 x.n]) 5 [.string x.s]=h_ x:=rfl
 rw [jp] at o9
 obtain ⟨iO,Qq,U2,uh,ep⟩:=z9.fF (i:=0) (new:=h_ x) (by simp) (by simp)
 have hz:setAt (h_ ⟨0,0,0,0,0,⟨#[]⟩⟩) 0 (h_ x)=h_ x:=rfl
 rw [hz] at U2
 have fg:=kN (kN k1 k2) k3
 have kk:KB (· = h2.length) h3 h9:=KB.trans (KB.trans (KB.trans (KB.trans (KB.trans k4 k5 (λ_ _ h=>h) (λ_ _ h=>h)) k6 (λ_ _ h=>h) (λ_ _ h=>h)) k7 (λ_ _ h=>h) (λ_ _ h=>h)) k8 (λ_ _ h=>h) (λ_ _ h=>h)) k9 (λ_ _ h=>h) (λ_ _ h=>h)
 refine ⟨iO,Am.r48 (lets λy ey=>?_),bR (bR fg kk λi hi=>by omega) uh λi hi=>by omega⟩
 rw [da] at ey
 subst ey
 refine lets λy ey=>?_
 rw [nO] at ey
 subst ey
 refine lets λy ey=>?_
 rw [IB] at ey
 subst ey
 refine bI (o1.ap (i:=0) rfl) (bs e4 (bI (p4.ap (i:=1) rfl) (bs e5 (bI (p5.ap (i:=2) rfl) (bs e6 (bI (p6.ap (i:=3) rfl) (bs e7 (bI (p7.ap (i:=4) rfl) (bs e8 (bT (p8.ap (i:=5) rfl) (bs e9 ?_)))))))))))
 exact qi o9 (bs Qq (qi U2 rfl))
theorem Qr(n:Nat):lz (h_ ⟨0,0,0,0,0,⟨#[]⟩⟩) n=cV (G' n ⟨0,0,0,0,0,⟨#[]⟩⟩):=by
 induction n with
 | zero=>rfl
 | succ n ih=>simp only [lz,List.replicate_succ,cV,ih]
theorem Du{l:List In}(hl:l.length<=1048576)(hbo:base<=ob)(hab:∀ b,cV l≠[]->bK a b->b≠ob):∀ (d i:Nat) (h:AH) (ys:List In),i+d=l.length->Sl h a (cV l)->ob<h.length->bQ base 89 h (ap ob) (cV ys)->ys.length=l.length->(∀ j,j<i->ys[j]? = l[j]?) ->
  ∃ h',aF (LP base) [some (.slice a l.length l.length),some (.slice (ap ob) l.length l.length),some (.int .i64 (i:Int))] h=some (2,[some (.slice (ap ob) l.length l.length)],h')/\bQ base 89 h' (ap ob) (cV l)/\KB (· = ob) h h':=by
 intro d
 induction d with
 | zero=>
  intro i h ys hi hs U3 ow hy hj
  have:ys=l:=io λj=>by
   by_cases h:j<i
   ·exact hj j h
   ·rw [cE (by omega),cE (by omega)]
  subst this
  refine ⟨h,?_,ow,KB.refl _ _⟩
  refine aC (by decide) ?_
  rw [Cb]
  exact aU (by simp;omega) rfl
 | succ d fJ=>
  intro i h ys hi hs U3 ow hy hj
  have aS:i<l.length:=by omega
  obtain ⟨ad,ea,g0,g1,g2,g3,g4,g5⟩:=In.get hs aS
  obtain ⟨h2,e2,k2⟩:=IG (base:=base) (h:=h) (x:=l[i]) (by omega)
  have n2:=k2.1
  obtain ⟨h3,e3,o3,k3,l3⟩:=(ow.aj k2).fF (i:=i*6) (new:=h_ l[i]) (by rw [jH];simp;omega) (by simp)
  rw [vy (by omega)] at o3
  have hs3:Sl h3 a (cV l):=(hs.aj k2).bF (h0:=h2) k3 (by
   by_cases dv:cV l = []
   ·exact .inl dv
   ·exact .inr λb hb=>hab b dv hb)
  obtain ⟨h4,y1,y2,y3⟩:=fJ (i+1) h3 (ys.set i l[i]) (by omega) hs3 (by omega) o3 (by simpa using hy) (λj pZ=>by
   by_cases c:j=i
   ·subst c
    rw [vp (by omega),bk aS]
   ·rw [qp (by omega)];exact hj j (by omega))
  refine ⟨h4,bl ?_ y1,y2,KB.trans (X2 k2 k3) y3 (λ_ _ h=>h) (λ_ _ h=>h)⟩
  rw [Cb]
  subst ea
  refine aE (decide_eq_true (by omega)) (aE ⟨by omega,by omega⟩ (bs rfl ?_))
  simp only [aM]
  refine bI g0 (bI g1 (bI g2 (bI g3 (bI g4 (bT g5 (bs e2 (bs (v:=h_ l[i]) rfl ?_)))))))
  refine bI rfl (bI rfl (bI rfl (bI rfl (bI rfl (bT rfl (aE ⟨by omega,by omega⟩ (bs rfl ?_)))))))
  refine bs (by rw [cQ];exact e3) ?_
  rw [bm (n:=(i:Int)+1) (by omega) (by omega)]
  rfl
theorem FC{l:List In}(hl:l.length<=1048576)(hs:Sl h a (cV l))(hb:base<=h.length):
  ∃ h',run (Et base) 18 [.slice a l.length l.length] h=some (.slice (ap h.length) l.length l.length,h')/\bQ base 89 h' (ap h.length) (cV l)/\KB bp h h'/\h.length<h'.length:=by
 obtain ⟨o1,k1,q1⟩:=aI (base:=base) (t:=89) (h:=h) (cs:=lz (h_ ⟨0,0,0,0,0,⟨#[]⟩⟩) l.length) hb rfl
 generalize da:h++[some (⟨lz (h_ ⟨0,0,0,0,0,⟨#[]⟩⟩) l.length,89⟩:df)]=h1 at o1 k1 q1
 rw [Qr] at o1
 obtain ⟨h2,y1,y2,y3⟩:=Du (base:=base) (ob:=h.length) hl hb (λb dv cy=>by
  have:=aed hs dv cy;omega) l.length 0 h1 _ (by omega) (hs.aj k1) (by omega) o1 (by simp) (λj hj=>by omega)
 have:=y3.1
 refine ⟨h2,Am.qv (aE ⟨rfl,by omega,by omega,by omega⟩ ?_),y2,bR k1 y3 λi hi=>by omega,by omega⟩
 simp only [aM]
 refine lets λy ey=>?_
 rw [da] at ey
 subst ey
 exact bs y1 (aE rfl (bS rfl rfl))
theorem IH{x:In}(hb:base<=h.length):∃ h',run (Et base) 70 [.agg (h_ x).toArray,.agg (h_ x).toArray] h=some (.bool true,h')/\KB bp h h':=by
 obtain ⟨o1,k1,q1⟩:=aI (base:=base) (t:=89) (h:=h) (cs:=h_ x) hb rfl
 generalize da:h++[some (⟨h_ x,89⟩:df)]=h1 at o1 k1 q1
 obtain ⟨o2,k2,q2⟩:=aI (base:=base) (t:=89) (h:=h1) (cs:=h_ x) (by omega) rfl
 generalize nO:h1++[some (⟨h_ x,89⟩:df)]=h2 at o2 k2 q2
 have o1:=o1.aj k2
 refine ⟨h2,Am.Iw (lets λy ey=>?_),kN k1 k2⟩
 rw [da] at ey
 subst ey
 refine lets λy ey=>?_
 rw [nO] at ey
 subst ey
 refine bI (o1.ap (i:=0) rfl) (bI (o2.ap (i:=0) rfl) (aU (by simp) (bI (o1.ap (i:=1) rfl) (bI (o2.ap (i:=1) rfl) (aU (by simp) ?_)))))
 refine bI (o1.ap (i:=2) rfl) (bI (o2.ap (i:=2) rfl) (aU (by simp) (bI (o1.ap (i:=3) rfl) (bI (o2.ap (i:=3) rfl) (aU (by simp) ?_)))))
 exact bI (o1.ap (i:=4) rfl) (bI (o2.ap (i:=4) rfl) (aU (by simp) (bT (o1.ap (i:=5) rfl) (bT (o2.ap (i:=5) rfl) (aU (by simp) rfl)))))
theorem Dv{l:List In}{b:Option Addr}(hl:l.length<=9223372036854775807):∀ (d i:Nat) (h:AH),i+d=l.length->Sl h a (cV l)->Sl h b (cV l)->base<=h.length ->
  ∃ h',aF (Mq base) [some (.slice a l.length l.length),some (.slice b l.length l.length),some (.int .i64 (i:Int))] h=some (2,[],h')/\KB bp h h':=by
 intro d
 induction d with
 | zero=>
  intro i h hi hs nJ hb
  refine ⟨h,?_,KB.refl _ _⟩
  refine aC (by decide) ?_
  rw [Cu]
  exact aU (by simp;omega) rfl
 | succ d fJ=>
  intro i h hi hs nJ hb
  have aS:i<l.length:=by omega
  obtain ⟨ad,rfl,g0,g1,g2,g3,g4,g5⟩:=In.get hs aS
  obtain ⟨qW,rfl,f0,f1,f2,f3,f4,f5⟩:=In.get nJ aS
  obtain ⟨h2,e2,k2⟩:=IH (base:=base) (h:=h) (x:=l[i]) (by omega)
  have n2:=k2.1
  obtain ⟨h3,y1,y2⟩:=fJ (i+1) h2 (by omega) (hs.aj k2) (nJ.aj k2) (by omega)
  refine ⟨h3,bl ?_ y1,kN k2 y2⟩
  rw [Cu]
  refine aE (decide_eq_true (by omega)) (aE ⟨by omega,by omega⟩ (bs rfl ?_))
  simp only [aM]
  refine bI g0 (bI g1 (bI g2 (bI g3 (bI g4 (bT g5 (aE ⟨by omega,by omega⟩ (bs rfl ?_)))))))
  refine bI f0 (bI f1 (bI f2 (bI f3 (bI f4 (bT f5 (bs e2 (bB rfl (aU (by decide) ?_))))))))
  rw [bm (n:=(i:Int)+1) (by omega) (by omega)]
  rfl
theorem FD{l:List In}{b:Option Addr}(hl:l.length<=9223372036854775807)(hs:Sl h a (cV l))(nJ:Sl h b (cV l))(hb:base<=h.length):
  ∃ h',run (Et base) 27 [.slice a l.length l.length,.slice b l.length l.length] h=some (.bool true,h')/\KB bp h h':=by
 obtain ⟨h',y1,y2⟩:=Dv (base:=base) hl l.length 0 h (by omega) hs nJ hb
 refine ⟨h',Am.Ff (aU (by simp) ?_),y2⟩
 exact bs y1 (aU (show ¬(2:Nat)=1 by decide) (aE rfl rfl))
def gy(k:Int):In:=⟨k,k+1,k+1+1,k+1+1+1,k+1+1+1+1,mt (k+1+1+1+1+1)⟩
theorem wL(hn:n<=1048576):∀ (d i:Nat) (h:AH) (ys:List In) (k:Int),i+d=n->ys.length=n->bQ base 89 h a (cV ys)->0<=k->k+6*(d:Int)<=1000000000 ->
  (∀ j,j<i->ys[j]? = some (gy (k-6*((i:Int)-(j:Int))))) ->
  ∃ Nn h',aF (Ms base) [some (.slice a n n),some (.int .i64 k),some (.int .i64 (i:Int))] h=some (2,[some (.int .i64 (k+6*(d:Int)))],h')/\bQ base 89 h' a (cV Nn)/\Nn.length=n/\(∀ j,j<n->Nn[j]? = some (gy (k+6*(d:Int)-6*((n:Int)-(j:Int)))))/\KB (bK a) h h':=by
 intro d
 induction d with
 | zero=>
  intro i h ys k hi hy ow h0 hk hm
  have:i=n:=by omega
  subst this
  refine ⟨ys,h,?_,ow,hy,λj hj=>by rw [hm j hj];simp,KB.refl _ _⟩
  refine aC (by decide) ?_
  rw [Cy]
  exact aU (by simp) (by simp)
 | succ d fJ=>
  intro i h ys k hi hy ow h0 hk hm
  have aS:i<ys.length:=by omega
  have hR:=jH ys
  obtain ⟨ad,h1,ea,e1,o1,k1,l1⟩:=ow.wr (i:=i*6+0) (new:=[.int .i64 k]) (by simp;omega) (by simp)
  subst ea
  obtain ⟨rv,h2,ea,e2,o2,k2,l2⟩:=o1.wr (i:=i*6+1) (new:=[.int .i64 (k+1)]) (by simp [setAt];omega) (by simp)
  injection ea with ea;subst ea
  obtain ⟨rv,h3,ea,e3,o3,k3,l3⟩:=o2.wr (i:=i*6+2) (new:=[.int .i64 (k+1+1)]) (by simp [setAt];omega) (by simp)
  injection ea with ea;subst ea
  obtain ⟨rv,h4,ea,e4,o4,k4,l4⟩:=o3.wr (i:=i*6+3) (new:=[.int .i64 (k+1+1+1)]) (by simp [setAt];omega) (by simp)
  injection ea with ea;subst ea
  obtain ⟨rv,h5,ea,e5,o5,k5,l5⟩:=o4.wr (i:=i*6+4) (new:=[.int .i64 (k+1+1+1+1)]) (by simp [setAt];omega) (by simp)
  injection ea with ea;subst ea
  obtain ⟨h6,e6,k6⟩:=gu (base:=base) (h:=h5) (k:=k+1+1+1+1+1) (by omega)
  obtain ⟨rv,h7,ea,e7,o7,k7,l7⟩:=(o5.aj k6).wr (i:=i*6+5) (new:=[.string (mt (k+1+1+1+1+1))]) (by simp [setAt];omega) (by simp)
  injection ea with ea;subst ea
  have jp:setAt (setAt (setAt (setAt (setAt (setAt (cV ys) (i*6+0) [.int .i64 k]) (i*6+1) [.int .i64 (k+1)]) (i*6+2) [.int .i64 (k+1+1)]) (i*6+3) [.int .i64 (k+1+1+1)]) (i*6+4) [.int .i64 (k+1+1+1+1)]) (i*6+5) [.string (mt (k+1+1+1+1+1))]=cV (ys.set i (gy k)):=by
   rw [<- vy aS]
   apply io
   intro j
   have z1:∀ (vs:List Value) (o:Nat) (v:Value),o+1<=vs.length->(setAt vs o [v])[j]? = if o=j then some v else vs[j]?:=by
    intro vs o v ho
    rw [cY (by simpa using ho)]
    by_cases c:o=j
    ·subst c;simp
    ·rw [if_neg c,if_neg (by simp;omega)]
   rw [z1 _ _ _ (by simp [setAt];omega),z1 _ _ _ (by simp [setAt];omega),z1 _ _ _ (by simp [setAt];omega),z1 _ _ _ (by simp [setAt];omega),z1 _ _ _ (by simp [setAt];omega),z1 _ _ _ (by simp;omega),cY (by simp;omega)]
   by_cases Eb:i*6<=j/\j<i*6+(h_ (gy k)).length
   ·rw [if_pos Eb]
    have hj6:j-i*6<6:=by have:=Eb.2;simp at this;omega
    obtain ⟨q,rfl⟩:∃ q,j=i*6+q:=⟨j-i*6,by omega⟩
    rw [show i*6+q-i*6=q from by omega] at hj6 ⊢
    match q,hj6 with
    | 0,_=>simp [gy]
    | 1,_=>simp [gy]
    | 2,_=>simp [gy]
    | 3,_=>simp [gy]
    | 4,_=>simp [gy]
    | 5,_=>simp [gy]
   ·rw [if_neg Eb,if_neg,if_neg,if_neg,if_neg,if_neg,if_neg]<;>(intro e;apply Eb;simp;omega)
  rw [jp] at o7
  have kA:KB (bK (some ad)) h h7:=KB.trans (KB.trans (KB.trans (KB.trans (KB.trans (KB.trans k1 k2 (λ_ _ h=>h) (λ_ _ h=>h)) k3 (λ_ _ h=>h) (λ_ _ h=>h)) k4 (λ_ _ h=>h) (λ_ _ h=>h)) k5 (λ_ _ h=>h) (λ_ _ h=>h)) k6 (λ_ _ h=>h) (λ_ _ h=>h.elim)) k7 (λ_ _ h=>h) (λ_ _ h=>h)
  obtain ⟨Nn,h8,y1,y2,y3,y4,y5⟩:=fJ (i+1) h7 (ys.set i (gy k)) (k+6) (by omega) (by simpa using hy) o7 (by omega) (by omega) (λj hj=>by
   by_cases c:j=i
   ·subst c
    rw [vp aS,show k+6-6*(((j+1:Nat):Int)-(j:Int))=k from by omega]
   ·rw [qp (by omega),hm j (by omega),show k+6-6*(((i+1:Nat):Int)-(j:Int))=k-6*((i:Int)-(j:Int)) from by omega])
  have ek:k+6+6*(d:Int)=k+6*((d+1:Nat):Int):=by omega
  rw [ek] at y1 y4
  refine ⟨Nn,h8,bl ?_ y1,y2,y3,y4,KB.trans kA y5 (λ_ _ h=>h) (λ_ _ h=>h)⟩
  rw [Cy]
  refine aE (decide_eq_true (by omega)) (aE ⟨by omega,by omega⟩ (bs rfl ?_))
  simp only [aM]
  rw [bm (n:=k+1) (by omega) (by omega),bm (n:=k+1+1) (by omega) (by omega),bm (n:=k+1+1+1) (by omega) (by omega),bm (n:=k+1+1+1+1) (by omega) (by omega),bm (n:=k+1+1+1+1+1) (by omega) (by omega),bm (n:=k+1+1+1+1+1+1) (by omega) (by omega),bm (n:=(i:Int)+1) (by omega) (by omega)]
  refine bs (by rw [bO];exact e1) (aE ⟨by omega,by omega⟩ (bs rfl (bs (by rw [bO];exact e2) (aE ⟨by omega,by omega⟩ (bs rfl (bs (by rw [bO];exact e3) (aE ⟨by omega,by omega⟩ (bs rfl (bs (by rw [bO];exact e4) (aE ⟨by omega,by omega⟩ (bs rfl (bs (by rw [bO];exact e5) (bs e6 (bT rfl (aE ⟨by omega,by omega⟩ (bs rfl (bs (by rw [bO];exact e7) ?_)))))))))))))))))
  show some _=some _
  rw [show k+1+1+1+1+1+1=k+6 from by omega]
  rfl
theorem zQ{ys:List In}(hn:ys.length<=1048576)(ow:bQ base 89 h a (cV ys))(h0:0<=k)(hk:k+6*(ys.length:Int)<=1000000000):
  ∃ Nn h',run (Et base) 30 [.slice a ys.length ys.length,.int .i64 k] h=some (.int .i64 (k+6*(ys.length:Int)),h')/\bQ base 89 h' a (cV Nn)/\Nn.length=ys.length/\(∀ j:Nat,j<ys.length->Nn[j]? = some (gy (k+6*(j:Int))))/\KB (bK a) h h':=by
 obtain ⟨Nn,h',y1,y2,y3,y4,y5⟩:=wL (base:=base) hn ys.length 0 h ys k (by omega) rfl ow h0 hk (λj hj=>by omega)
 refine ⟨Nn,h',Am.Ja (bs y1 (aE rfl (bI rfl rfl))),y2,y3,λj hj=>?_,y5⟩
 rw [y4 j hj,show k+6*(ys.length:Int)-6*((ys.length:Int)-(j:Int))=k+6*(j:Int) from by omega]
theorem FE{c:Bool}{A B:Option (Value×AH)}{x:Bool}(hA:A=some (.bool x,h))(hB:B=some (.bool y,h)):(if c=true then A else B)=some (.bool (if c=true then x else y),h):=by
 cases c
 ·rw [if_neg (by decide),if_neg (by decide)];exact hB
 ·rw [if_pos rfl,if_pos rfl];exact hA
theorem Qs{c:Bool}{A B:Option (Sum (az×AH) β)}(s:Bool->az){x:Bool}(hA:A=some (.inl (s x,h)))(hB:B=some (.inl (s y,h))):(if c=true then A else B)=some (.inl (s (if c=true then x else y),h)):=by
 cases c
 ·rw [if_neg (by decide),if_neg (by decide)];exact hB
 ·rw [if_pos rfl,if_pos rfl];exact hA
theorem orZ{b:Bool}{y:Option Value}{z:Int}(hy:y=some (.int .i64 z)){T F r:Option β}(hT:(b||z==0)=true->T=r)(hF:(b||z==0)=false->F=r):
  (if b=true then T else (y.bind (au .i64)).bind λn=>if (n==(0:Int))=true then T else F)=r:=by
 cases b with
 | true=>exact aE rfl (hT rfl)
 | false=>
  refine aU (by decide) (bI hy ?_)
  cases hz:z==0 with
  | true=>exact aE rfl (hT (by rw [hz];rfl))
  | false=>exact aU (by decide) (hF (by rw [hz];rfl))
def jW(op:Int):ByteArray:=
 if op=1 then ⟨#[65,78]⟩ else if op=2 then ⟨#[65,83]⟩ else if op=3\/op=7\/op=8\/op=13 then ⟨#[65,66]⟩ else if op=4\/op=6\/op=10\/op=11\/op=16 then ⟨#[65,66,78]⟩
 else if op=5\/op=9 then ⟨#[65,66,67]⟩ else if op=12 then ⟨#[78]⟩ else if op=14\/op=15\/op=17\/op=18\/op=19\/op=20 then ⟨#[65]⟩ else ⟨#[]⟩
theorem oQ(h:1<=op/\op<=20):op=1\/op=2\/op=3\/op=4\/op=5\/op=6\/op=7\/op=8\/op=9\/op=10\/op=11\/op=12\/op=13\/op=14\/op=15\/op=16\/op=17\/op=18\/op=19\/op=20:=by omega
theorem Hb(h:¬(1<=op/\op<=20)):jW op=⟨#[]⟩:=by
 unfold jW
 rw [if_neg (by omega),if_neg (by omega),if_neg (by omega),if_neg (by omega),if_neg (by omega),if_neg (by omega),if_neg (by omega)]
theorem Dw:run (Et base) 128 [.int .i64 op] h=some (.string (jW op),h):=by
 by_cases c:1<=op/\op<=20
 ·rcases oQ c with rfl|rfl|rfl|rfl|rfl|rfl|rfl|rfl|rfl|rfl|rfl|rfl|rfl|rfl|rfl|rfl|rfl|rfl|rfl|rfl<;>exact Am.vj rfl
 ·have ne:∀ k:Int,1<=k->k<=20->(op==k)=false:=λk h1 h2=>by
   rw [beq_eq_false_iff_ne];omega
  rw [Hb c]
  refine Am.vj ?_
  try unfold UX
  rw [ne 1 (by decide) (by decide),ne 2 (by decide) (by decide),ne 3 (by decide) (by decide),ne 7 (by decide) (by decide),ne 8 (by decide) (by decide),ne 13 (by decide) (by decide)]
  refine aU (by decide) (aU (by decide) (bj _ (aU (by decide) (aU (by decide) (aU (by decide) rfl))) (bI rfl (bB rfl (aU (by decide) ?_)))))
  rw [ne 4 (by decide) (by decide),ne 6 (by decide) (by decide),ne 10 (by decide) (by decide),ne 11 (by decide) (by decide),ne 16 (by decide) (by decide)]
  refine bj _ (aU (by decide) (aU (by decide) (aU (by decide) (aU (by decide) rfl)))) (bI rfl (bB rfl (aU (by decide) ?_)))
  rw [ne 5 (by decide) (by decide),ne 9 (by decide) (by decide)]
  refine bj _ (aU (by decide) rfl) (bI rfl (bB rfl (aU (by decide) ?_)))
  rw [ne 12 (by decide) (by decide),ne 14 (by decide) (by decide),ne 15 (by decide) (by decide),ne 17 (by decide) (by decide),ne 18 (by decide) (by decide),ne 19 (by decide) (by decide),ne 20 (by decide) (by decide)]
  exact aU (by decide) (bj _ (aU (by decide) (aU (by decide) (aU (by decide) (aU (by decide) (aU (by decide) rfl))))) (bB rfl (aU (by decide) rfl)))
def hasB(s:ByteArray)(c:Int):Bool:=decide (firstIdx s (Hc (af c))>=(0:Int))
theorem Qt{ad:Addr}(g:Am.cell h ad.block ad.off=some (.string s)):run (Et base) 129 [.int .u8 c,.pointer (some ad)] h=some (.bool (hasB s c),h):=by
 have e1:run (Et base) 133 [.string s,.int .u8 c] h=some (.int .i64 (firstIdx s (Hc (af c))),h):=Am.Qh rfl
 have e2:run (Et base) 130 [.string s,.int .u8 c] h=some (.int .i64 (firstIdx s (Hc (af c))),h):=Am.Py (bs e1 (bI rfl rfl))
 exact Am.Qg (bT g (bs e2 (bI rfl rfl)))
abbrev zR(s:ByteArray):Bool:=s.toList==(⟨#[]⟩:ByteArray).toList
def lq(x:In):Bool:=!zR (jW x.op)&&((hasB (jW x.op) 65||x.a==0)&&((hasB (jW x.op) 66||x.b==0)&&((hasB (jW x.op) 67||x.c==0)&&((hasB (jW x.op) 78||x.n==0)&&(hasB (jW x.op) 83||zR x.s)))))
theorem wM{x:In}(hb:base<=h.length):∃ h',run (Et base) 122 [.agg (h_ x).toArray] h=some (.bool (lq x),h')/\KB bp h h':=by
 obtain ⟨o1,k1,q1⟩:=aI (base:=base) (t:=89) (h:=h) (cs:=h_ x) hb rfl
 generalize da:h++[some (⟨h_ x,89⟩:df)]=h1 at o1 k1 q1
 obtain ⟨o2,k2,q2⟩:=aI (base:=base) (t:=9) (h:=h1) (cs:=[.string (jW x.op)]) (by omega) rfl
 generalize nO:h1++[some (⟨[.string (jW x.op)],9⟩:df)]=h2 at o2 k2 q2
 have o1:=o1.aj k2
 refine ⟨h2,Am.Iz (lets λy ey=>?_),kN k1 k2⟩
 rw [da] at ey
 rw [ey]
 refine bI ((bQ.ap (i:=0) (v:=.int .i64 x.op) (by rw [<- da];exact bQ.new base _ h _ hb) rfl)) (bs Dw (bT rfl (nw (show base<=h1.length by omega) rfl λy ey=>?_)))
 rw [nO] at ey
 rw [ey]
 have hr:=λc=>Qt (base:=base) (h:=h2) (ad:=⟨h1.length,0,none⟩) (s:=jW x.op) (c:=c) (o2.ap (i:=0) rfl)
 refine bT (o2.ap (i:=0) rfl) ?_
 cases c0:zR (jW x.op) with
 | true=>
  rw [show lq x=false by unfold lq;rw [c0];rfl]
  unfold zR at c0
  rw [c0]
  exact aU (by decide) rfl
 | false=>
  have c0':=c0
  unfold zR at c0
  rw [c0]
  refine aE rfl (bs (bs (hr 65) (bB rfl rfl)) (bB rfl ?_))
  refine orZ (o1.ap (i:=1) rfl) (λc1=>?_) (λc1=>by unfold lq;rw [c0',c1];rfl)
  refine bs (bs (hr 66) (bB rfl rfl)) (bB rfl ?_)
  refine orZ (o1.ap (i:=2) rfl) (λc2=>?_) (λc2=>by unfold lq;rw [c0',c1,c2];rfl)
  refine bs (bs (hr 67) (bB rfl rfl)) (bB rfl ?_)
  refine orZ (o1.ap (i:=3) rfl) (λc3=>?_) (λc3=>by unfold lq;rw [c0',c1,c2,c3];rfl)
  refine bs (bs (hr 78) (bB rfl rfl)) (bB rfl ?_)
  refine orZ (o1.ap (i:=4) rfl) (λc4=>?_) (λc4=>by unfold lq;rw [c0',c1,c2,c3,c4];rfl)
  refine bs (bs (hr 83) (bB rfl rfl)) (bB rfl ?_)
  have e:lq x=(hasB (jW x.op) 83||zR x.s):=by unfold lq;rw [c0',c1,c2,c3,c4];rfl
  rw [e]
  cases hasB (jW x.op) 83 with
  | true=>exact aE rfl rfl
  | false=>exact aU (by decide) (bT (o1.ap (i:=5) rfl) rfl)
def Hd(x:In)(n:Int):Bool:=
 if (x.op==(1:Int))=true then dx x.n (-1000000) 1000000 else if (x.op==(2:Int))=true then ir x.s else if (x.op==(4:Int))=true then (if dx x.n 0 8=true then decide (ag .i64 (x.b+x.n)<=(8:Int)) else false)
 else if (x.op==(6:Int))=true then dx x.n 0 7 else if (x.op==(11:Int))=true then (if dx x.b 1 6=true then dx x.n 0 (ag .i64 (n-1)) else false)
 else if (if (x.op==(10:Int))=true then (x.op==(10:Int)) else (if (x.op==(12:Int))=true then (x.op==(12:Int)) else (x.op==(16:Int))))=true then dx x.n 0 (ag .i64 (n-1)) else true
def me(x:In)(n:Int):Bool:=dx n 1 200&&(lq x&&(dx x.a 0 7&&(dx x.b 0 7&&(dx x.c 0 7&&Hd x n))))
theorem sC{v:Int}:run (Et base) 123 [.int .i64 v] h=some (.bool (dx v 0 7),h):=Am.Qf (bs eW (bB rfl rfl))
theorem wN{x:In}{n:Int}(hs:x.s.size<=9223372036854775807)(hb:base<=h.length):∃ h',run (Et base) 101 [.agg (h_ x).toArray,.int .i64 n] h=some (.bool (me x n),h')/\KB bp h h':=by
 obtain ⟨o1,k1,q1⟩:=aI (base:=base) (t:=89) (h:=h) (cs:=h_ x) hb rfl
 generalize da:h++[some (⟨h_ x,89⟩:df)]=h1 at o1 k1 q1
 have e1:=eW (base:=base) (h:=h1) (x:=n) (a:=1) (b:=200)
 cases c1:dx n 1 200 with
 | false=>
  rw [c1] at e1
  rw [show me x n=false by unfold me;rw [c1];rfl]
  refine ⟨h1,Am.Iy (lets λy ey=>?_),k1⟩
  rw [da] at ey
  subst ey
  exact bj _ (bs e1 (bB rfl (aE rfl rfl))) (bI rfl (bs rfl (bB rfl (aE rfl rfl))))
 | true=>
  rw [c1] at e1
  obtain ⟨h2,e2,k2⟩:=wM (base:=base) (h:=h1) (x:=x) (by omega)
  have o2:=o1.aj k2
  cases c2:lq x with
  | false=>
   rw [c2] at e2
   rw [show me x n=false by unfold me;rw [c1,c2];rfl]
   refine ⟨h2,Am.Iy (lets λy ey=>?_),kN k1 k2⟩
   rw [da] at ey
   subst ey
   exact bj _ (bs e1 (bB rfl (aU (by decide) (qi o1 (bs e2 (bB rfl (aE rfl rfl))))))) (bI rfl (bs rfl (bB rfl (aE rfl rfl))))
  | true=>
   rw [c2] at e2
   refine ⟨h2,Am.Iy (lets λy ey=>?_),kN k1 k2⟩
   rw [da] at ey
   subst ey
   have ea:=sC (base:=base) (h:=h2) (v:=x.a)
   have eb:=sC (base:=base) (h:=h2) (v:=x.b)
   have ec:=sC (base:=base) (h:=h2) (v:=x.c)
   cases c3:dx x.a 0 7 with
   | false=>
    rw [c3] at ea
    rw [show me x n=false by unfold me;rw [c1,c2,c3];rfl]
    exact bj _ (bs e1 (bB rfl (aU (by decide) (qi o1 (bs e2 (bB rfl (aU (by decide) (bI (o2.ap (i:=1) rfl) (bs ea (bB rfl (aE rfl rfl))))))))))) (bI rfl (bs rfl (bB rfl (aE rfl rfl))))
   | true=>
    rw [c3] at ea
    cases c4:dx x.b 0 7 with
    | false=>
     rw [c4] at eb
     rw [show me x n=false by unfold me;rw [c1,c2,c3,c4];rfl]
     exact bj _ (bs e1 (bB rfl (aU (by decide) (qi o1 (bs e2 (bB rfl (aU (by decide) (bI (o2.ap (i:=1) rfl) (bs ea (bB rfl (aU (by decide) (bI (o2.ap (i:=2) rfl) (bs eb (bB rfl (aE rfl rfl))))))))))))))) (bI rfl (bs rfl (bB rfl (aE rfl rfl))))
    | true=>
     rw [c4] at eb
     have ht:me x n=(dx x.c 0 7&&Hd x n):=by unfold me;rw [c1,c2,c3,c4];rfl
     rw [ht]
     refine bj ([some (.int .i64 n),some (.pointer (ap h.length)),some (.bool (!dx x.c 0 7))],h2) (bs e1 (bB rfl (aU (by decide) (qi o1 (bs e2 (bB rfl (aU (by decide) (bI (o2.ap (i:=1) rfl) (bs ea (bB rfl (aU (by decide) (bI (o2.ap (i:=2) rfl) (bs eb (bB rfl (aU (by decide) (bI (o2.ap (i:=3) rfl) (bs ec (bB rfl rfl)))))))))))))))))) (bI rfl (bs rfl (bB rfl ?_)))
     cases dx x.c 0 7 with
     | false=>exact aE rfl rfl
     | true=>
      refine aU (by decide) (bI (o2.ap (i:=0) rfl) ?_)
      rw [fx]
      unfold Hd
      refine FE (bI (o2.ap (i:=4) rfl) (bs eW (bB rfl rfl))) (FE (bT (o2.ap (i:=5) rfl) (bs (oN hs) (bB rfl rfl))) (FE (bI (o2.ap (i:=4) rfl) (bs eW (bB rfl (FE (bI (o2.ap (i:=2) rfl) (bI (o2.ap (i:=4) rfl) rfl)) rfl)))) (FE (bI (o2.ap (i:=4) rfl) (bs eW (bB rfl rfl))) (FE (bI (o2.ap (i:=2) rfl) (bs eW (bB rfl (FE (bI (o2.ap (i:=4) rfl) (bs eW (bB rfl rfl))) rfl)))) ?_))))
      exact bj _ (Qs (λb=>[some (.int .i64 n),some (.pointer (ap h.length)),some (.bool b)]) rfl (Qs (λb=>[some (.int .i64 n),some (.pointer (ap h.length)),some (.bool b)]) rfl rfl)) (bI rfl (bs rfl (bB rfl (FE (bI (o2.ap (i:=4) rfl) (bs eW (bB rfl rfl))) rfl))))
def Np(s:ByteArray)(c:Int):Nat->Nat->Bool
 | 0,_=>false
 | d+1,i=>if (((s.data.toList.getD i 0).toNat:Int)==c)=true then true else Np s c d (i+1)
def Dx(s:ByteArray)(c:Int):Bool:=Np s c s.size 0
theorem wO(hs:s.size<=9223372036854775807):∀ (d i:Nat),i+d=s.size ->
  aF (Fs base) [some (.string s),some (.int .u8 c),some (.int .i64 (i:Int))] h=if Np s c d i=true then some (1,[some (.bool true)],h) else some (2,[],h):=by
 intro d
 induction d with
 | zero=>
  intro i hi
  refine aC (by decide) ?_
  rw [sr]
  exact aU (by simp;omega) rfl
 | succ d ih=>
  intro i hi
  rw [Np]
  by_cases c1:(((s.data.toList.getD i 0).toNat:Int)==c)=true
  ·rw [if_pos c1,if_pos rfl]
   refine aC (by decide) ?_
   rw [sr]
   refine aE (decide_eq_true (by omega)) (aE ⟨by omega,by omega⟩ ?_)
   simp only [aM]
   exact aE c1 rfl
  ·rw [if_neg c1,<- ih (i+1) (by omega)]
   refine bl ?_ rfl
   rw [sr]
   refine aE (decide_eq_true (by omega)) (aE ⟨by omega,by omega⟩ ?_)
   simp only [aM]
   refine aU c1 ?_
   rw [bm (n:=(i:Int)+1) (by omega) (by omega)]
   rfl
theorem zU(hs:s.size<=9223372036854775807):run (Et base) 126 [.string s,.int .u8 c] h=some (.bool (Dx s c),h):=by
 have e:=wO (base:=base) (h:=h) (c:=c) hs s.size 0 (by omega)
 rw [show ((0:Nat):Int)=0 from rfl] at e
 refine Am.akJ ?_
 unfold Dx
 cases hb:Np s c s.size 0 with
 | true=>rw [hb] at e;exact bs e (aE rfl (bB rfl rfl))
 | false=>rw [hb] at e;exact bs e (aU (show ¬(2:Nat)=1 by decide) (aE rfl rfl))
def kO(s:ByteArray)(c r:Int):Bool:=if (!Dx s c)=true then (r==(0:Int)) else dx r 0 7
theorem sE{r:Int}(hs:s.size<=9223372036854775807):run (Et base) 113 [.string s,.int .u8 c,.int .i64 r] h=some (.bool (kO s c r),h):=by
 refine Am.Qe (bs (zU hs) (bB rfl ?_))
 unfold kO
 exact FE rfl (bs cU (bB rfl rfl))
def zV(x:In)(n:Int):Bool:=
 if (x.op==(1:Int))=true then dx x.n (-1000000) 1000000 else if (x.op==(4:Int))=true then (if dx x.n 0 8=true then decide (ag .i64 (x.b+x.n)<=(8:Int)) else false)
 else if (x.op==(6:Int))=true then dx x.n 0 7
 else if (if (x.op==(10:Int))=true then (x.op==(10:Int)) else (if (x.op==(11:Int))=true then (x.op==(11:Int)) else (if (x.op==(12:Int))=true then (x.op==(12:Int)) else (x.op==(16:Int)))))=true then (if decide (x.n>=(0:Int))=true then decide (x.n<n) else false) else (x.n==(0:Int))
theorem II{x:In}{n:Int}(hb:base<=h.length):∃ h',run (Et base) 115 [.agg (h_ x).toArray,.int .i64 n] h=some (.bool (zV x n),h')/\KB bp h h':=by
 obtain ⟨o1,k1,q1⟩:=aI (base:=base) (t:=89) (h:=h) (cs:=h_ x) hb rfl
 generalize da:h++[some (⟨h_ x,89⟩:df)]=h1 at o1 k1 q1
 refine ⟨h1,Am.aj9 (lets λy ey=>?_),k1⟩
 rw [da] at ey
 subst ey
 refine bI (o1.ap (i:=0) rfl) ?_
 unfold zV
 refine FE (bI (o1.ap (i:=4) rfl) (bs cU (bB rfl rfl))) (FE (bI (o1.ap (i:=4) rfl) (bs cU (bB rfl (FE (bI (o1.ap (i:=2) rfl) (bI (o1.ap (i:=4) rfl) rfl)) rfl)))) (FE (bI (o1.ap (i:=4) rfl) (bs cU (bB rfl rfl))) ?_))
 refine bj _ (Qs (λb=>[some (.int .i64 n),some (.pointer (ap h.length)),some (.bool b)]) rfl (Qs (λb=>[some (.int .i64 n),some (.pointer (ap h.length)),some (.bool b)]) rfl (Qs (λb=>[some (.int .i64 n),some (.pointer (ap h.length)),some (.bool b)]) rfl rfl))) (bI rfl (bs rfl (bB rfl ?_)))
 exact FE (bI (o1.ap (i:=4) rfl) (FE (bI (o1.ap (i:=4) rfl) rfl) rfl)) (bI (o1.ap (i:=4) rfl) rfl)
def Nq:List Value:=[.string ⟨#[65,78]⟩,.string ⟨#[65,83]⟩,.string ⟨#[65,66]⟩,.string ⟨#[65,66,78]⟩,.string ⟨#[65,66,67]⟩,.string ⟨#[65,66,78]⟩,.string ⟨#[65,66]⟩,.string ⟨#[65,66]⟩,.string ⟨#[65,66,67]⟩,.string ⟨#[65,66,78]⟩,.string ⟨#[65,66,78]⟩,.string ⟨#[78]⟩,.string ⟨#[65,66]⟩,.string ⟨#[65]⟩,.string ⟨#[65]⟩,.string ⟨#[65,66,78]⟩,.string ⟨#[65]⟩,.string ⟨#[65]⟩,.string ⟨#[65]⟩,.string ⟨#[65]⟩]
theorem Qu(h:1<=op/\op<=20):Nq[af (op-1)]? = some (.string (jW op)):=by
 rcases oQ h with rfl|rfl|rfl|rfl|rfl|rfl|rfl|rfl|rfl|rfl|rfl|rfl|rfl|rfl|rfl|rfl|rfl|rfl|rfl|rfl<;>rfl
def iA(x:In)(n:Int):Bool:=
 dx n 1 200&&(dx x.op 1 20&&(kO (jW x.op) 65 x.a&&(kO (jW x.op) 67 x.c&&((if (x.op==(11:Int))=true then dx x.b 1 6 else kO (jW x.op) 66 x.b)&&((if (x.op==(2:Int))=true then ir x.s else zR x.s)&&zV x n)))))
theorem wP{x:In}{n:Int}(hs:x.s.size<=9223372036854775807)(hb:base<=h.length):∃ h',run (Et base) 82 [.agg (h_ x).toArray,.int .i64 n] h=some (.bool (iA x n),h')/\KB bp h h':=by
 obtain ⟨o1,k1,q1⟩:=aI (base:=base) (t:=89) (h:=h) (cs:=h_ x) hb rfl
 generalize da:h++[some (⟨h_ x,89⟩:df)]=h1 at o1 k1 q1
 have e1:=cU (base:=base) (h:=h1) (x:=n) (a:=1) (b:=200)
 have e2:=cU (base:=base) (h:=h1) (x:=x.op) (a:=1) (b:=20)
 cases c1:dx n 1 200 with
 | false=>
  rw [c1] at e1
  rw [show iA x n=false by unfold iA;rw [c1];rfl]
  refine ⟨h1,Am.E1 (lets λy ey=>?_),k1⟩
  rw [da] at ey
  rw [ey]
  exact bj _ (bs e1 (bB rfl (aE rfl rfl))) (bI rfl (bs rfl (bB rfl (aE rfl rfl))))
 | true=>
  rw [c1] at e1
  cases c2:dx x.op 1 20 with
  | false=>
   rw [c2] at e2
   rw [show iA x n=false by unfold iA;rw [c1,c2];rfl]
   refine ⟨h1,Am.E1 (lets λy ey=>?_),k1⟩
   rw [da] at ey
   rw [ey]
   exact bj _ (bs e1 (bB rfl (aU (by decide) (bI (o1.ap (i:=0) rfl) (bs e2 (bB rfl rfl)))))) (bI rfl (bs rfl (bB rfl (aE rfl rfl))))
  | true=>
   rw [c2] at e2
   have O5:1<=x.op/\x.op<=20:=by
    unfold dx at c2
    simp at c2
    omega
   obtain ⟨o3,k3,q3⟩:=aI (base:=base) (t:=9) (h:=h1) (cs:=Nq) (by omega) rfl
   generalize IB:h1++[some (⟨Nq,9⟩:df)]=h3 at o3 k3 q3
   have e3:run (Et base) 112 [] h1=some (.slice (ap h1.length) 20 20,h3):=Am.Fl (lets λy ey=>by
    have:y=h3:=ey.trans IB
    rw [this])
   have o1:=o1.aj k3
   have fg:=kN k1 k3
   have hw:ag .i64 (x.op-1)=x.op-1:=bm (by omega) (by omega)
   have jk:(jW x.op).size<=9223372036854775807:=by
    rcases oQ O5 with e|e|e|e|e|e|e|e|e|e|e|e|e|e|e|e|e|e|e|e<;>rw [e]<;>decide
   have eA:=sE (base:=base) (h:=h3) (s:=jW x.op) (c:=65) (r:=x.a) jk
   have eC:=sE (base:=base) (h:=h3) (s:=jW x.op) (c:=67) (r:=x.c) jk
   have eB:=sE (base:=base) (h:=h3) (s:=jW x.op) (c:=66) (r:=x.b) jk
   have eK:=cU (base:=base) (h:=h3) (x:=x.b) (a:=1) (b:=6)
   have eS:=oO (base:=base) (h:=h3) hs
   obtain ⟨h4,e4,k4⟩:=II (base:=base) (h:=h3) (x:=x) (n:=n) (by omega)
   have g0:=o1.ap (i:=0) rfl
   have head:∀ {r:Value×AH} (J:Bool),((if (!kO (jW x.op) 65 x.a)=true then true else if (!kO (jW x.op) 67 x.c)=true then true else if (x.op != (11:Int))=true then !kO (jW x.op) 66 x.b else !dx x.b 1 6)=J) ->
     (∀ (z:Bool),((if (x.op==(2:Int))=true then !ir x.s else !zR x.s)=z)->(if J=true then some (.bool false,h3) else if z=true then some (.bool false,h3) else some (.bool (zV x n),h4))=some r)->run (Et base) 82 [.agg (h_ x).toArray,.int .i64 n] h=some r:=by
    intro r J hJ hZ
    have fin:=hZ _ rfl
    refine Am.E1 (lets λy ey=>?_)
    rw [da] at ey
    rw [ey]
    refine bj _ (bs e1 (bB rfl (aU (by decide) (bI (by rw [<- da];exact (bQ.new base _ h _ hb).ap (i:=0) rfl) (bs e2 (bB rfl rfl)))))) (bI rfl (bs rfl (bB rfl (aU (by decide) (bs e3 (bS rfl ?_))))))
    rw [iP (d_ k3 (by rw [<- da];exact (bQ.new base _ h _ hb).ap (i:=0) rfl))]
    refine bI g0 ?_
    rw [hw]
    refine aE ⟨by omega,by omega⟩ (bs rfl ?_)
    refine bT (s:=jW x.op) (by
     have:=o3.ap (i:=af (x.op-1)*1) (by rw [kh];exact Qu O5)
     rw [cQ]
     exact this) ?_
    refine bj (q:=([some (.int .i64 n),some (.pointer (ap h.length)),some (.bool J)],h3)) ?_ ?_
    ·refine bI (o1.ap (i:=1) rfl) (bs eA (bB rfl ?_))
     rw [<- hJ]
     cases kO (jW x.op) 65 x.a with
     | false=>exact aE rfl rfl
     | true=>
      refine aU (by decide) (bI (o1.ap (i:=3) rfl) (bs eC (bB rfl ?_)))
      cases kO (jW x.op) 67 x.c with
      | false=>exact aE rfl rfl
      | true=>
       refine aU (by decide) (bI g0 ?_)
       cases c5:x.op != (11:Int) with
       | true=>
        have c6:(x.op==(11:Int))=false:=by simpa [bne] using c5
        refine aE rfl (bI (o1.ap (i:=2) rfl) (bs eB (bB rfl ?_)))
        cases kO (jW x.op) 66 x.b with
        | false=>exact aE rfl rfl
        | true=>
         refine aU (by decide) (bI g0 ?_)
         rw [c6]
         exact aU (by decide) rfl
       | false=>
        have c6:(x.op==(11:Int))=true:=by simpa [bne] using c5
        refine aU (by decide) (bI g0 ?_)
        rw [c6]
        exact aE rfl (bI (o1.ap (i:=2) rfl) (bs eK (bB rfl rfl)))
    ·refine bI rfl (bs rfl (bB rfl ?_))
     cases J with
     | true=>exact aE rfl (by simpa using fin)
     | false=>
      refine aU (by decide) ?_
      rw [if_neg (by decide)] at fin
      refine bj (q:=([some (.int .i64 n),some (.pointer (ap h.length)),some (.bool (if (x.op==(2:Int))=true then !ir x.s else !zR x.s))],h3)) ?_ ?_
      ·refine bI g0 ?_
       cases c5:x.op==(2:Int) with
       | true=>
        have c6:(x.op != (2:Int))=false:=by simpa [bne] using c5
        refine aE rfl (bT (o1.ap (i:=5) rfl) (bs eS (bB rfl ?_)))
        cases ir x.s with
        | false=>exact aE rfl rfl
        | true=>
         refine aU (by decide) (bI g0 ?_)
         rw [c6]
         exact aU (by decide) rfl
       | false=>
        have c6:(x.op != (2:Int))=true:=by simpa [bne] using c5
        refine aU (by decide) (bI g0 ?_)
        rw [c6]
        exact aE rfl (bT (o1.ap (i:=5) rfl) rfl)
      ·refine bI rfl (bs rfl (bB rfl ?_))
       revert fin
       cases (if (x.op==(2:Int))=true then !ir x.s else !zR x.s) with
       | true=>intro fin;exact aE rfl (by simpa using fin)
       | false=>
        intro fin
        exact aU (by decide) (qi o1 (bs e4 (bB rfl (by simpa using fin))))
   have hv:iA x n=(!(if (!kO (jW x.op) 65 x.a)=true then true else if (!kO (jW x.op) 67 x.c)=true then true else if (x.op != (11:Int))=true then !kO (jW x.op) 66 x.b else !dx x.b 1 6)&&(!(if (x.op==(2:Int))=true then !ir x.s else !zR x.s)&&zV x n)):=by
    unfold iA
    rw [c1,c2]
    cases kO (jW x.op) 65 x.a<;>cases kO (jW x.op) 67 x.c<;>cases jc:(x.op==(11:Int))<;>cases h2:(x.op==(2:Int))<;>simp [bne,jc,h2]
   cases hJ:(if (!kO (jW x.op) 65 x.a)=true then true else if (!kO (jW x.op) 67 x.c)=true then true else if (x.op != (11:Int))=true then !kO (jW x.op) 66 x.b else !dx x.b 1 6) with
   | true=>exact ⟨h3,head true hJ λz hz=>by rw [hv,hJ];rfl,fg⟩
   | false=>
    cases hZ:(if (x.op==(2:Int))=true then !ir x.s else !zR x.s) with
    | true=>exact ⟨h3,head false hJ λz hz=>by rw [<- hz,hv,hJ,hZ];rfl,fg⟩
    | false=>exact ⟨h4,head false hJ λz hz=>by rw [<- hz,hv,hJ,hZ];simp,kN fg k4⟩
theorem Yd(h:1<=op/\op<=20):hasB (jW op) 65=Dx (jW op) 65/\hasB (jW op) 66=Dx (jW op) 66/\hasB (jW op) 67=Dx (jW op) 67/\zR (jW op)=false:=by
 rcases oQ h with rfl|rfl|rfl|rfl|rfl|rfl|rfl|rfl|rfl|rfl|rfl|rfl|rfl|rfl|rfl|rfl|rfl|rfl|rfl|rfl<;>decide +kernel
theorem FF{t:ByteArray}{v:Int}(h:hasB t c=Dx t c):kO t c v=((hasB t c||v==0)&&dx v 0 7):=by
 unfold kO
 rw [h]
 cases Dx t c with
 | true=>rfl
 | false=>
  by_cases h:v=0
  ·subst h;rfl
  ·simp [h]
theorem Nr(x:In)(n:Int):me x n=iA x n:=by
 unfold me iA
 cases c1:dx n 1 200 with
 | false=>rfl
 | true=>
  have hn:1<=n/\n<=200:=by unfold dx at c1;simp at c1;omega
  have hw:ag .i64 (n-1)=n-1:=bm (by omega) (by omega)
  rw [fx,fx]
  by_cases c2:1<=x.op/\x.op<=20
  ·have e2:dx x.op 1 20=true:=by unfold dx;simp;omega
   rw [e2,fx]
   obtain ⟨op,a,b,c,m,s⟩:=x
   simp only at c2 ⊢
   obtain ⟨eA,eB,eC,eE⟩:=Yd c2
   rw [FF eA,FF eB,FF eC]
   unfold lq Hd zV
   simp only [hw,eE]
   have k16:dx b 1 6=true->dx b 0 7=true:=λh=>by unfold dx at h ⊢;simp at h ⊢;omega
   have kn:(if decide (m>=0)=true then decide (m<n) else false)=dx m 0 (n-1):=by
    unfold dx
    by_cases h:m>=0
    ·by_cases h2:m<n
     ·simp [h,h2];omega
     ·simp [h,h2];omega
    ·simp [h]
   rw [kn]
   clear eA eB eC eE
   generalize hX:dx a 0 7=ia
   generalize hY:dx c 0 7=ic
   rcases oQ c2 with rfl|rfl|rfl|rfl|rfl|rfl|rfl|rfl|rfl|rfl|rfl|rfl|rfl|rfl|rfl|rfl|rfl|rfl|rfl|rfl
   all_goals
    first
     | rw [show hasB (jW _) 78=true from by decide +kernel]
     | rw [show hasB (jW _) 78=false from by decide +kernel]
    first
     | rw [show hasB (jW _) 83=true from by decide +kernel]
     | rw [show hasB (jW _) 83=false from by decide +kernel]
    simp only [Int.reduceBEq,if_true,vw,if_false,Bool.not_false,fx,lH,iM,FG,↓reduceIte]
    first
     | ac_rfl
     | (cases Cn:dx b 1 6 with
       | true=>rw [k16 Cn];simp only [if_true,FG,fx];rw [show hasB (jW _) 66=true from by decide +kernel];simp only [lH,fx,FG];ac_rfl
       | false=>simp)
  ·have e2:dx x.op 1 20=false:=by
    unfold dx
    simp
    omega
   have e3:lq x=false:=by
    unfold lq
    rw [Hb c2,show zR ⟨#[]⟩=true from by simp [zR]]
    rfl
   rw [e2,e3]
   rfl
def jT(n:Int):List In->Bool
 | []=>true
 | x :: r=>iA x n&&jT n r
def jq(l:List In):Int:=(l.getD (l.length-1) ⟨0,0,0,0,0,⟨#[]⟩⟩).op
def codeOk(l:List In):Bool:=dx (l.length:Int) 1 200&&((jq l==(19:Int)||jq l==(12:Int))&&jT (l.length:Int) l)
theorem wQ{l:List In}(hL:∀ x∈l,x.s.size<=9223372036854775807)(hl:l.length<=9223372036854775807):∀ (d i:Nat) (h:AH),i+d=l.length->Sl h a (cV l)->base<=h.length ->
  ∃ h',aF (GX base) [some (.slice a l.length l.length),some (.int .i64 (l.length:Int)),some (.slice a l.length l.length),some (.int .i64 (l.length:Int)),some (.int .i64 (i:Int))] h=some (if jT (l.length:Int) (l.drop i)=true then (2,[some (.slice a l.length l.length),some (.int .i64 (l.length:Int))],h') else (1,[some (.bool false)],h'))/\KB bp h h':=by
 intro d
 induction d with
 | zero=>
  intro i h hi hs hb
  refine ⟨h,?_,KB.refl _ _⟩
  rw [dZ (by omega),show jT (l.length:Int) []=true from rfl,if_pos rfl]
  refine aC (by decide) ?_
  rw [CL]
  exact aU (by simp;omega) rfl
 | succ d fJ=>
  intro i h hi hs hb
  have aS:i<l.length:=by omega
  obtain ⟨ad,rfl,g0,g1,g2,g3,g4,g5⟩:=In.get hs aS
  obtain ⟨o1,k1,q1⟩:=aI (base:=base) (t:=89) (h:=h) (cs:=h_ l[i]) hb rfl
  generalize da:h++[some (⟨h_ l[i],89⟩:df)]=h1 at o1 k1 q1
  obtain ⟨h2,e2,k2⟩:=wN (base:=base) (h:=h1) (x:=l[i]) (n:=(l.length:Int)) (hL _ (aQ aS)) (by omega)
  rw [Nr] at e2
  have n2:=k2.1
  rw [dJ aS,jT]
  have head:∀ {r:Option (Nat×az×AH)},(if (!iA l[i] (l.length:Int))=true then some (1,[some (.bool false)],h2) else some (0,[some (.slice (some ad) l.length l.length),some (.int .i64 (l.length:Int)),some (.slice (some ad) l.length l.length),some (.int .i64 (l.length:Int)),some (.int .i64 (ag .i64 ((i:Int)+(1:Int))))],h2))=r ->
    GX base [some (.slice (some ad) l.length l.length),some (.int .i64 (l.length:Int)),some (.slice (some ad) l.length l.length),some (.int .i64 (l.length:Int)),some (.int .i64 (i:Int))] h=r:=by
   intro r hr
   rw [CL]
   refine aE (decide_eq_true (by omega)) (aE ⟨by omega,by omega⟩ (bs rfl ?_))
   simp only [aM]
   refine bI g0 (bI g1 (bI g2 (bI g3 (bI g4 (bT g5 (nw hb rfl λy ey=>?_))))))
   rw [da] at ey
   rw [ey]
   exact qi o1 (bs e2 (bB rfl hr))
  cases c:iA l[i] (l.length:Int) with
  | false=>
   refine ⟨h2,?_,kN k1 k2⟩
   rw [FH,if_neg (by decide)]
   exact aC (by decide) (head (by rw [c];exact aE rfl rfl))
  | true=>
   rw [fx]
   obtain ⟨h3,y1,y2⟩:=fJ (i+1) h2 (by omega) (hs.aj (kN k1 k2)) (by omega)
   refine ⟨h3,bl (head ?_) y1,kN (kN k1 k2) y2⟩
   rw [c,bm (n:=(i:Int)+1) (by omega) (by omega)]
   exact aU (by decide) rfl
theorem wR{l:List In}(hL:∀ x∈l,x.s.size<=9223372036854775807)(hl:l.length<=9223372036854775807):∀ (d i:Nat) (h:AH),i+d=l.length->Sl h a (cV l)->base<=h.length ->
  ∃ h',aF (CH base) [some (.slice a l.length l.length),some (.int .i64 (l.length:Int)),some (.int .i64 (i:Int))] h=some (if jT (l.length:Int) (l.drop i)=true then (2,[],h') else (1,[some (.bool false)],h'))/\KB bp h h':=by
 intro d
 induction d with
 | zero=>
  intro i h hi hs hb
  refine ⟨h,?_,KB.refl _ _⟩
  rw [dZ (by omega),show jT (l.length:Int) []=true from rfl,if_pos rfl]
  refine aC (by decide) ?_
  rw [CI]
  exact aU (by simp;omega) rfl
 | succ d fJ=>
  intro i h hi hs hb
  have aS:i<l.length:=by omega
  obtain ⟨ad,rfl,g0,g1,g2,g3,g4,g5⟩:=In.get hs aS
  obtain ⟨h2,e2,k2⟩:=wP (base:=base) (h:=h) (x:=l[i]) (n:=(l.length:Int)) (hL _ (aQ aS)) (by omega)
  have n2:=k2.1
  rw [dJ aS,jT]
  have head:∀ {r:Option (Nat×az×AH)},(if (!iA l[i] (l.length:Int))=true then some (1,[some (.bool false)],h2) else some (0,[some (.slice (some ad) l.length l.length),some (.int .i64 (l.length:Int)),some (.int .i64 (ag .i64 ((i:Int)+(1:Int))))],h2))=r ->
    CH base [some (.slice (some ad) l.length l.length),some (.int .i64 (l.length:Int)),some (.int .i64 (i:Int))] h=r:=by
   intro r hr
   rw [CI]
   refine aE (decide_eq_true (by omega)) (aE ⟨by omega,by omega⟩ (bs rfl ?_))
   simp only [aM]
   exact bI g0 (bI g1 (bI g2 (bI g3 (bI g4 (bT g5 (bs e2 (bB rfl hr)))))))
  cases c:iA l[i] (l.length:Int) with
  | false=>
   refine ⟨h2,?_,k2⟩
   rw [FH,if_neg (by decide)]
   exact aC (by decide) (head (by rw [c];exact aE rfl rfl))
  | true=>
   rw [fx]
   obtain ⟨h3,y1,y2⟩:=fJ (i+1) h2 (by omega) (hs.aj k2) (by omega)
   refine ⟨h3,bl (head ?_) y1,kN k2 y2⟩
   rw [c,bm (n:=(i:Int)+1) (by omega) (by omega)]
   exact aU (by decide) rfl
theorem He{l:List In}(hs:Sl h a (cV l))(hl:1<=l.length)(G9:l.length<=9223372036854775807):(0<=ag .i64 ((l.length:Int)-1)/\ag .i64 ((l.length:Int)-1)<(l.length:Int)) /\
  ∃ ad,a=some ad/\Am.cell h ad.block ((ad.off+af (ag .i64 ((l.length:Int)-1))*6)+0)=some (.int .i64 (jq l)):=by
 have hw:ag .i64 ((l.length:Int)-1)=((l.length-1:Nat):Int):=by rw [bm (by omega) (by omega)];omega
 rw [hw]
 obtain ⟨ad,e,g0,_⟩:=In.get hs (i:=l.length-1) (by omega)
 refine ⟨⟨by omega,by omega⟩,ad,e,?_⟩
 rw [aM,Nat.add_zero,g0]
 unfold jq
 rw [List.getD_eq_getElem?_getD,bk (by omega)]
 rfl
theorem oR{l:List In}(hL:∀ x∈l,x.s.size<=9223372036854775807)(hl:l.length<=9223372036854775807)(hs:Sl h a (cV l))(hb:base<=h.length):
  ∃ h',run (Et base) 53 [.slice a l.length l.length] h=some (.bool (codeOk l),h')/\KB bp h h':=by
 obtain ⟨h1,e1,k1⟩:=wQ (base:=base) hL hl l.length 0 h (by omega) hs hb
 rw [cH,show ((0:Nat):Int)=0 from rfl] at e1
 refine ⟨h1,?_,k1⟩
 unfold codeOk
 cases c:jT (l.length:Int) l with
 | false=>
  rw [c,if_neg (by decide)] at e1
  refine Am.r53 (bs e1 (aE rfl (bB rfl ?_)))
  rw [Ye,Ye]
 | true=>
  rw [c,if_pos rfl] at e1
  refine Am.r53 (bs e1 (aU (show ¬(2:Nat)=1 by decide) (aE rfl (bS rfl (bI rfl (bs eW (bB rfl ?_)))))))
  cases c2:dx (l.length:Int) 1 200 with
  | false=>exact aU (by decide) rfl
  | true=>
   have hn:1<=l.length:=by unfold dx at c2;simp at c2;omega
   obtain ⟨Eb,ad,rfl,g⟩:=He (hs.aj k1) hn hl
   refine aE rfl (aE Eb (bs rfl (bI g ?_)))
   rw [FG,fx]
   cases c3:jq l==(19:Int) with
   | true=>exact aE rfl rfl
   | false=>exact aU (by decide) (aE Eb (bs rfl (bI g (by rw [iM]))))
theorem oS{l:List In}(hL:∀ x∈l,x.s.size<=9223372036854775807)(hl:l.length<=9223372036854775807)(hs:Sl h a (cV l))(hb:base<=h.length):
  ∃ h',run (Et base) 41 [.slice a l.length l.length] h=some (.bool (codeOk l),h')/\KB bp h h':=by
 have e0:=cU (base:=base) (h:=h) (x:=(l.length:Int)) (a:=1) (b:=200)
 unfold codeOk
 cases c2:dx (l.length:Int) 1 200 with
 | false=>
  rw [c2] at e0
  exact ⟨h,Am.ud (bj _ (bs e0 (bB rfl (aE rfl rfl))) (bS rfl (bI rfl (bB rfl (aE rfl rfl))))),KB.refl _ _⟩
 | true=>
  rw [c2] at e0
  have hn:1<=l.length:=by unfold dx at c2;simp at c2;omega
  obtain ⟨Eb,ad,rfl,g⟩:=He hs hn hl
  obtain ⟨h1,e1,k1⟩:=wR (base:=base) hL hl l.length 0 h (by omega) hs hb
  rw [cH,show ((0:Nat):Int)=0 from rfl] at e1
  have eJ:∀ {r:Value×AH},((if (!(jq l==(19:Int)||jq l==(12:Int)))=true then some (.bool false,h) else (aF (CH base) [some (.slice (some ad) l.length l.length),some (.int .i64 (l.length:Int)),some (.int .i64 0)] h).bind λqw=>(if qw.1=1 then ((ay qw.2.1 0).bind aO).bind λwy=>some ((.bool wy),qw.2.2) else (if qw.1=2 then some ((.bool true),qw.2.2) else none)))=some r) ->
    run (Et base) 41 [.slice (some ad) l.length l.length] h=some r:=by
   intro r hr
   refine Am.ud (bj (q:=([some (.slice (some ad) l.length l.length),some (.int .i64 (l.length:Int)),some (.bool (!(jq l==(19:Int)||jq l==(12:Int))))],h)) (bs e0 (bB rfl (aU (by decide) (aE Eb (bs rfl (bI g ?_)))))) (bS rfl (bI rfl (bB rfl hr))))
   cases c3:jq l==(19:Int) with
   | true=>exact aU (by simp [bne,c3]) rfl
   | false=>exact aE (by simp [bne,c3]) (aE Eb (bs rfl (bI g rfl)))
  cases c3:(jq l==(19:Int)||jq l==(12:Int)) with
  | false=>exact ⟨h,eJ (by rw [c3];exact aE rfl rfl),KB.refl _ _⟩
  | true=>
   cases c:jT (l.length:Int) l with
   | false=>
    rw [c,if_neg (by decide)] at e1
    exact ⟨h1,eJ (by rw [c3];exact aU (by decide) (bs e1 (aE rfl (bB rfl rfl)))),k1⟩
   | true=>
    rw [c,if_pos rfl] at e1
    exact ⟨h1,eJ (by rw [c3];exact aU (by decide) (bs e1 (aU (show ¬(2:Nat)=1 by decide) (aE rfl rfl)))),k1⟩
set_option maxRecDepth 100000 in
theorem Qv(x:Rd Tryz.prog h f 70 cs):∃ y:In,cs=h_ y/\y.s.size<=maxLen:=by
 have cT:Tryz.prog.cellsOf 70=6:=by kernel_rfl
 have c3:Tryz.prog.cellsOf 3=1:=by kernel_rfl
 have c9:Tryz.prog.cellsOf 9=1:=by kernel_rfl
 match f,x with
 | 0,x=>exact x.elim
 | f+1,x=>
  simp only [Rd,Tryz.underlying70] at x
  obtain ⟨hl,hf⟩:=x
  rw [cT] at hl
  match cs,hl with
  | [v0,v1,v2,v3,v4,v5],_=>
   simp only [aA,c3,c9,cH,zW,ui,uj] at hf
   obtain ⟨f0,f1,f2,f3,f4,f5,_⟩:=hf
   obtain ⟨n0,e0,_⟩:=f0.int Tryz.underlying3
   obtain ⟨n1,e1,_⟩:=f1.int Tryz.underlying3
   obtain ⟨n2,e2,_⟩:=f2.int Tryz.underlying3
   obtain ⟨n3,e3,_⟩:=f3.int Tryz.underlying3
   obtain ⟨n4,e4,_⟩:=f4.int Tryz.underlying3
   obtain ⟨s,e5,hs⟩:=f5.str Tryz.underlying9
   injection e0 with e0 _
   injection e1 with e1 _
   injection e2 with e2 _
   injection e3 with e3 _
   injection e4 with e4 _
   injection e5 with e5 _
   subst e0;subst e1;subst e2;subst e3;subst e4;subst e5
   exact ⟨⟨n0,n1,n2,n3,n4,s⟩,rfl,hs⟩
set_option maxRecDepth 100000 in
theorem Yf{u:Value}(x:Rd Tryz.prog h f 22 [u]):∃ a l,u = .slice a (ae l) (ae l)/\l.length<=maxLen/\Sl h a (cV l)/\∀ y∈l,y.s.size<=maxLen:=by
 have cT:Tryz.prog.cellsOf 70=6:=by kernel_rfl
 match f,x with
 | 0,x=>exact x.elim
 | f+1,x=>
  simp only [Rd,Tryz.underlying22] at x
  obtain ⟨a,n,vs,e,h2,h3,h4,h5⟩:=x
  injection e with e _
  subst e
  rw [cT] at h4 h5
  have each:∀ i,i<n->∃ y:In,(vs.drop (i*6)).take 6=h_ y/\y.s.size<=maxLen:=λi hi=>Qv (h5 i hi)
  let g:Nat->In:=λi=>if hi:i<n then (each i hi).choose else ⟨0,0,0,0,0,⟨#[]⟩⟩
  have hg:∀ i,i<n->(vs.drop (i*6)).take 6=h_ (g i)/\(g i).s.size<=maxLen:=by
   intro i hi
   simp only [g,hi,dite_true]
   exact (each i hi).choose_spec
  have hv:vs=cV ((dM n).map g):=by
   apply io
   intro q
   by_cases hq:q<n*6
   ·have hi:q / 6<n:=by omega
    have e1:q=q / 6*6+q % 6:=by omega
    have hm:q % 6<6:=Nat.mod_lt _ (by decide)
    have h1:(cV ((dM n).map g))[q / 6*6+q % 6]? = (h_ (g (q / 6)))[q % 6]?:=vx (by simp [hi]) hm
    rw [<- e1] at h1
    rw [h1,<- (hg _ hi).1,bJ hm,bZ,<- e1]
   ·rw [cE (by omega),cE (by rw [jH];simp;omega)]
  refine ⟨a,(dM n).map g,by simp,by simpa using h2,by rw [<- hv];exact h3,λy hy=>?_⟩
  obtain ⟨i,hi,rfl⟩:=dR.1 hy
  exact (hg i (by simpa using hi)).2
theorem cD.up{h:AH}{p:Nat->Prop}:∀ (f:Nat) (t:Tm) (cs:List Value),cD h p f t cs->cD h p (f+1) t cs
 | 0,_,_,x=>x.elim
 | f+1,.mk k n s l,cs,x=>by
  obtain ⟨h1,h2,a,vs,h3,h4,h5,h6,h7⟩:=x
  exact ⟨h1,h2,a,vs,h3,h4,h5,h6,λi t hi=>cD.up f t _ (h7 i t hi)⟩
set_option maxRecDepth 100000 in
theorem Hf:∀ (f:Nat) (cs:List Value),Rd Tryz.prog h f 77 cs->∃ t,cD h (· < h.length) f t cs:=by
 have cT:Tryz.prog.cellsOf 77=4:=by kernel_rfl
 have c3:Tryz.prog.cellsOf 3=1:=by kernel_rfl
 have c9:Tryz.prog.cellsOf 9=1:=by kernel_rfl
 have cL:Tryz.prog.cellsOf 72=1:=by kernel_rfl
 intro f
 induction f using Nat.strongRecOn with
 | _ f ih=>
  intro cs x
  match f,ih,x with
  | 0,_,x=>exact x.elim
  | f+1,ih,x=>
   simp only [Rd,Tryz.underlying77] at x
   obtain ⟨hl,hf⟩:=x
   rw [cT] at hl
   match cs,hl with
   | [v0,v1,v2,v3],_=>
    simp only [aA,c3,c9,cL,cH,zW,ui,uj] at hf
    obtain ⟨f0,f1,f2,f3,_⟩:=hf
    obtain ⟨n0,e0,_⟩:=f0.int Tryz.underlying3
    obtain ⟨n1,e1,_⟩:=f1.int Tryz.underlying3
    obtain ⟨s,e2,hs⟩:=f2.str Tryz.underlying9
    injection e0 with e0 _
    injection e1 with e1 _
    injection e2 with e2 _
    subst e0;subst e1;subst e2
    match f,ih,f3 with
    | 0,_,f3=>exact f3.elim
    | f+1,ih,f3=>
     simp only [Rd,Tryz.underlying72] at f3
     obtain ⟨a,n,vs,e3,h2,h3,h4,h5⟩:=f3
     injection e3 with e3 _
     subst e3
     rw [cT] at h4 h5
     have each:∀ i,i<n->∃ t,cD h (· < h.length) f t ((vs.drop (i*4)).take 4):=λi hi=>ih f (by omega) _ (h5 i hi)
     let g:Nat->Tm:=λi=>if hi:i<n then (each i hi).choose else .mk 0 0 ⟨#[]⟩ []
     have hg:∀ i,i<n->cD h (· < h.length) f (g i) ((vs.drop (i*4)).take 4):=by
      intro i hi
      simp only [g,hi,dite_true]
      exact (each i hi).choose_spec
     refine ⟨.mk n0 n1 s ((dM n).map g),hs,by simpa using h2,a,vs,by simp,h3,l_ h3,by simpa using h4,λi t hi=>?_⟩
     have aS:i<n:=by have:=(bY.1 hi).1;simpa using this
     simp [aS] at hi
     subst hi
     exact cD.up _ _ _ (hg i aS)
theorem iQ.tJ(x:iQ h p f l a)(hi:i<l.length):
  ∃ ad k n s a2 m,a=some ad/\Am.cell h ad.block (ad.off+i*4)=some (.int .i64 k)/\Am.cell h ad.block (ad.off+i*4+1)=some (.int .i64 n)/\Am.cell h ad.block (ad.off+i*4+1+1)=some (.string s)/\Am.cell h ad.block (ad.off+i*4+1+1+1)=some (.slice a2 m m)/\cD h p f l[i] (ah k n s a2 m):=by
 obtain ⟨ad,c0,c1,c2,c3,e,g0,g1,g2,g3,hm⟩:=x.get hi
 obtain ⟨k,n,s,a2,m,e2⟩:=hm.form
 injection e2 with q0 e2
 injection e2 with q1 e2
 injection e2 with q2 e2
 injection e2 with q3 _
 subst q0;subst q1;subst q2;subst q3
 exact ⟨ad,k,n,s,a2,m,e,g0,g1,g2,g3,hm⟩
def uk(f:Nat):List Tm->Bool
 | []=>true
 | t :: r=>jo f t&&uk f r
theorem zX(hl:l.length<=9223372036854775807):∀ (d i:Nat) (h:AH),i+d=l.length->iQ h p f l a->base<=h.length ->
  ∃ h',aF (G1 base) [some (.slice a l.length l.length),some (.int .i64 (i:Int))] h=some (if uk f (l.drop i)=true then (2,[],h') else (1,[some (.bool false)],h'))/\KB bp h h':=by
 intro d
 induction d with
 | zero=>
  intro i h hi hs hb
  refine ⟨h,?_,KB.refl _ _⟩
  rw [dZ (by omega),show uk f []=true from rfl,if_pos rfl]
  refine aC (by decide) ?_
  rw [C3]
  exact aU (by simp;omega) rfl
 | succ d fJ=>
  intro i h hi hs hb
  have aS:i<l.length:=by omega
  obtain ⟨ad,k,n,s,a2,m,rfl,g0,g1,g2,g3,hm⟩:=hs.tJ aS
  obtain ⟨h2,e2,k2⟩:=iR (base:=base) hm hb
  have n2:=k2.1
  rw [dJ aS,uk]
  have head:∀ {r:Option (Nat×az×AH)},(if (!jo f l[i])=true then some (1,[some (.bool false)],h2) else some (0,[some (.slice (some ad) l.length l.length),some (.int .i64 (ag .i64 ((i:Int)+(1:Int))))],h2))=r->G1 base [some (.slice (some ad) l.length l.length),some (.int .i64 (i:Int))] h=r:=by
   intro r hr
   rw [C3]
   refine aE (decide_eq_true (by omega)) (aE ⟨by omega,by omega⟩ (bs rfl ?_))
   simp only [aM]
   exact bI g0 (bI g1 (bT g2 (bS g3 (bs e2 (bB rfl hr)))))
  cases c:jo f l[i] with
  | false=>
   refine ⟨h2,?_,k2⟩
   rw [FH,if_neg (by decide)]
   exact aC (by decide) (head (by rw [c];exact aE rfl rfl))
  | true=>
   rw [fx]
   obtain ⟨h3,y1,y2⟩:=fJ (i+1) h2 (by omega) (hs.ax k2 λ_ _ h=>h) (by omega)
   refine ⟨h3,bl (head ?_) y1,kN k2 y2⟩
   rw [c,bm (n:=(i:Int)+1) (by omega) (by omega)]
   exact aU (by decide) rfl
theorem te(hl:l.length<=9223372036854775807)(hs:iQ h p f l a)(hb:base<=h.length):∃ h',run (Et base) 84 [.slice a l.length l.length] h=some (.bool (uk f l),h')/\KB bp h h':=by
 obtain ⟨h1,e1,k1⟩:=zX (base:=base) hl l.length 0 h (by omega) hs hb
 rw [cH,show ((0:Nat):Int)=0 from rfl] at e1
 refine ⟨h1,?_,k1⟩
 cases c:uk f l with
 | false=>
  rw [c,if_neg (by decide)] at e1
  exact Am.r84 (bs e1 (aE rfl (bB rfl rfl)))
 | true=>
  rw [c,if_pos rfl] at e1
  exact Am.r84 (bs e1 (aU (show ¬(2:Nat)=1 by decide) (aE rfl rfl)))
theorem zY(hl:l.length<=9223372036854775807):∀ (d i:Nat) (h:AH),i+d=l.length->iQ h p f l a->base<=h.length ->
  ∃ h',aF (zn base) [some (.slice a l.length l.length),some (.int .i64 (l.length:Int)),some (.int .i64 (i:Int))] h=some (if uk f (l.drop i)=true then (2,[],h') else (1,[some (.bool false)],h'))/\KB bp h h':=by
 intro d
 induction d with
 | zero=>
  intro i h hi hs hb
  refine ⟨h,?_,KB.refl _ _⟩
  rw [dZ (by omega),show uk f []=true from rfl,if_pos rfl]
  refine aC (by decide) ?_
  rw [xP]
  exact aU (by simp;omega) rfl
 | succ d fJ=>
  intro i h hi hs hb
  have aS:i<l.length:=by omega
  obtain ⟨ad,k,n,s,a2,m,rfl,g0,g1,g2,g3,hm⟩:=hs.tJ aS
  obtain ⟨o1,k1,q1⟩:=aI (base:=base) (t:=56) (h:=h) (cs:=ah k n s a2 m) hb rfl
  generalize da:h++[some (⟨ah k n s a2 m,56⟩:df)]=h1 at o1 k1 q1
  obtain ⟨h2,e2,k2⟩:=iT (base:=base) (h:=h1) (cD.ax k1 (λ_ _ h=>h) _ _ _ hm) (by omega)
  have n2:=k2.1
  rw [dJ aS,uk]
  have head:∀ {r:Option (Nat×az×AH)},(if (!jo f l[i])=true then some (1,[some (.bool false)],h2) else some (0,[some (.slice (some ad) l.length l.length),some (.int .i64 (l.length:Int)),some (.int .i64 (ag .i64 ((i:Int)+(1:Int))))],h2))=r->zn base [some (.slice (some ad) l.length l.length),some (.int .i64 (l.length:Int)),some (.int .i64 (i:Int))] h=r:=by
   intro r hr
   rw [xP]
   refine aE (decide_eq_true (by omega)) (aE ⟨by omega,by omega⟩ (bs rfl ?_))
   simp only [aM]
   refine bI g0 (bI g1 (bT g2 (bS g3 (nw hb rfl λy ey=>?_))))
   rw [da] at ey
   rw [ey]
   exact q4 o1 (bs e2 (bB rfl hr))
  cases c:jo f l[i] with
  | false=>
   refine ⟨h2,?_,kN k1 k2⟩
   rw [FH,if_neg (by decide)]
   exact aC (by decide) (head (by rw [c];exact aE rfl rfl))
  | true=>
   rw [fx]
   obtain ⟨h3,y1,y2⟩:=fJ (i+1) h2 (by omega) (hs.ax (kN k1 k2) λ_ _ h=>h) (by omega)
   refine ⟨h3,bl (head ?_) y1,kN (kN k1 k2) y2⟩
   rw [c,bm (n:=(i:Int)+1) (by omega) (by omega)]
   exact aU (by decide) rfl
theorem tg(hl:l.length<=9223372036854775807)(hs:iQ h p f l a)(hb:base<=h.length):∃ h',run (Et base) 102 [.slice a l.length l.length] h=some (.bool (uk f l),h')/\KB bp h h':=by
 obtain ⟨h1,e1,k1⟩:=zY (base:=base) hl l.length 0 h (by omega) hs hb
 rw [cH,show ((0:Nat):Int)=0 from rfl] at e1
 refine ⟨h1,?_,k1⟩
 cases c:uk f l with
 | false=>
  rw [c,if_neg (by decide)] at e1
  exact Am.adY (bs e1 (aE rfl (bB rfl rfl)))
 | true=>
  rw [c,if_pos rfl] at e1
  exact Am.adY (bs e1 (aU (show ¬(2:Nat)=1 by decide) (aE rfl rfl)))
def nB(zs:List Int)(v:Int)(i:Nat):Bool:=
 if (!dx (zs.getD i 0) 1 99999)=true then true else if (zs.getD i 0==v)=true then true else if decide ((i:Int)>(0:Int))=true then decide (zs.getD (i-1) 0>=zs.getD i 0) else false
def nC(zs:List Int)(v:Int):Nat->Nat->Bool
 | 0,_=>false
 | d+1,i=>nB zs v i||nC zs v d (i+1)
def pL(zs:List Int)(v:Int):Bool:=!nC zs v zs.length 0&&decide ((zs.length:Int)<=(50:Int))
theorem zZ(hs:Sl h a (iv .i64 zs))(hi:i<zs.length):∃ ad,a=some ad/\Am.cell h ad.block (ad.off+i*1)=some (.int .i64 (zs.getD i 0)):=by
 obtain ⟨ad,e,g⟩:=hs.cell (i:=i) (v:=.int .i64 (zs.getD i 0)) (by simp [iv,hi])
 exact ⟨ad,e,by rw [kh];exact g⟩
theorem z_{v:Int}(hl:zs.length<=9223372036854775807)(hs:Sl h a (iv .i64 zs)):∀ (d i:Nat),i+d=zs.length ->
  aF (G2 base) [some (.slice a zs.length zs.length),some (.int .i64 v),some (.int .i64 (i:Int))] h=some (if nC zs v d i=true then (1,[some (.bool false)],h) else (2,[some (.slice a zs.length zs.length)],h)):=by
 intro d
 induction d with
 | zero=>
  intro i hi
  rw [nC,if_neg (by decide)]
  refine aC (by decide) ?_
  rw [C4]
  exact aU (by simp;omega) rfl
 | succ d fJ=>
  intro i hi
  have aS:i<zs.length:=by omega
  obtain ⟨ad,rfl,g⟩:=zZ hs aS
  have eI:=cU (base:=base) (h:=h) (x:=zs.getD i 0) (a:=1) (b:=99999)
  have head:∀ {r:Option (Nat×az×AH)},(if nB zs v i=true then some (1,[some (.bool false)],h) else some (0,[some (.slice (some ad) zs.length zs.length),some (.int .i64 v),some (.int .i64 (ag .i64 ((i:Int)+(1:Int))))],h))=r->G2 base [some (.slice (some ad) zs.length zs.length),some (.int .i64 v),some (.int .i64 (i:Int))] h=r:=by
   intro r hr
   rw [C4]
   refine aE (decide_eq_true (by omega)) ?_
   refine bj (q:=([some (.slice (some ad) zs.length zs.length),some (.int .i64 v),some (.int .i64 (i:Int)),some (.bool (nB zs v i))],h)) ?_ (bS rfl (bI rfl (bI rfl (bB rfl hr))))
   refine aE ⟨by omega,by omega⟩ (bs rfl ?_)
   simp only [aM]
   refine bI g (bs eI (bB rfl ?_))
   unfold nB
   refine Qs (λb=>[some (.slice (some ad) zs.length zs.length),some (.int .i64 v),some (.int .i64 (i:Int)),some (.bool b)]) rfl ?_
   refine aE ⟨by omega,by omega⟩ (bs rfl (bI g (Qs (λb=>[some (.slice (some ad) zs.length zs.length),some (.int .i64 v),some (.int .i64 (i:Int)),some (.bool b)]) rfl ?_)))
   by_cases c:(i:Int)>0
   ·have hw:ag .i64 ((i:Int)-(1:Int))=((i-1:Nat):Int):=by rw [bm (by omega) (by omega)];omega
    obtain ⟨qW,e2,g2⟩:=zZ hs (i:=i-1) (by omega)
    injection e2 with e2
    subst e2
    rw [decide_eq_true c,hw]
    refine aE rfl (aE ⟨by omega,by omega⟩ (bs rfl ?_))
    simp only [aM]
    exact bI g2 (aE ⟨by omega,by omega⟩ (bs rfl (bI g rfl)))
   ·rw [decide_eq_false c]
    exact aU (by decide) rfl
  rw [nC]
  cases c:nB zs v i with
  | true=>
   rw [lH,if_pos rfl]
   exact aC (by decide) (head (by rw [c];exact aE rfl rfl))
  | false=>
   rw [iM,<- fJ (i+1) (by omega)]
   refine bl (head ?_) rfl
   rw [c,bm (n:=(i:Int)+1) (by omega) (by omega)]
   exact aU (by decide) rfl
theorem Dy{v:Int}(hl:zs.length<=9223372036854775807)(hs:Sl h a (iv .i64 zs)):run (Et base) 85 [.slice a zs.length zs.length,.int .i64 v] h=some (.bool (pL zs v),h):=by
 have e:=z_ (base:=base) (v:=v) hl hs zs.length 0 (by omega)
 rw [show ((0:Nat):Int)=0 from rfl] at e
 unfold pL
 cases c:nC zs v zs.length 0 with
 | true=>
  rw [c,if_pos rfl] at e
  exact Am.r85 (bs e (aE rfl (bB rfl rfl)))
 | false=>
  rw [c,if_neg (by decide)] at e
  exact Am.r85 (bs e (aU (show ¬(2:Nat)=1 by decide) (aE rfl (bS rfl (by simp)))))
theorem Aa{v:Int}(hl:zs.length<=9223372036854775807)(hs:Sl h a (iv .i64 zs)):∀ (d i:Nat),i+d=zs.length ->
  aF (zo base) [some (.slice a zs.length zs.length),some (.int .i64 v),some (.slice a zs.length zs.length),some (.int .i64 (zs.length:Int)),some (.int .i64 (i:Int))] h=some (if nC zs v d i=true then (1,[some (.bool false)],h) else (2,[some (.slice a zs.length zs.length)],h)):=by
 intro d
 induction d with
 | zero=>
  intro i hi
  rw [nC,if_neg (by decide)]
  refine aC (by decide) ?_
  rw [xQ]
  exact aU (by simp;omega) rfl
 | succ d fJ=>
  intro i hi
  have aS:i<zs.length:=by omega
  obtain ⟨ad,rfl,g⟩:=zZ hs aS
  have eI:=eW (base:=base) (h:=h) (x:=zs.getD i 0) (a:=1) (b:=99999)
  have head:∀ {r:Option (Nat×az×AH)},(if nB zs v i=true then some (1,[some (.bool false)],h) else some (0,[some (.slice (some ad) zs.length zs.length),some (.int .i64 v),some (.slice (some ad) zs.length zs.length),some (.int .i64 (zs.length:Int)),some (.int .i64 (ag .i64 ((i:Int)+(1:Int))))],h))=r->zo base [some (.slice (some ad) zs.length zs.length),some (.int .i64 v),some (.slice (some ad) zs.length zs.length),some (.int .i64 (zs.length:Int)),some (.int .i64 (i:Int))] h=r:=by
   intro r hr
   rw [xQ]
   refine aE (decide_eq_true (by omega)) (aE ⟨by omega,by omega⟩ (bs rfl ?_))
   simp only [aM]
   refine bI g ?_
   refine bj (q:=([some (.slice (some ad) zs.length zs.length),some (.int .i64 v),some (.slice (some ad) zs.length zs.length),some (.int .i64 (zs.length:Int)),some (.int .i64 (i:Int)),some (.bool (nB zs v i))],h)) ?_ (bS rfl (bI rfl (bS rfl (bI rfl (bI rfl (bB rfl hr))))))
   refine bs eI (bB rfl ?_)
   unfold nB
   refine Qs (λb=>[some (.slice (some ad) zs.length zs.length),some (.int .i64 v),some (.slice (some ad) zs.length zs.length),some (.int .i64 (zs.length:Int)),some (.int .i64 (i:Int)),some (.bool b)]) rfl (Qs (λb=>[some (.slice (some ad) zs.length zs.length),some (.int .i64 v),some (.slice (some ad) zs.length zs.length),some (.int .i64 (zs.length:Int)),some (.int .i64 (i:Int)),some (.bool b)]) rfl ?_)
   by_cases c:(i:Int)>0
   ·have hw:ag .i64 ((i:Int)-(1:Int))=((i-1:Nat):Int):=by rw [bm (by omega) (by omega)];omega
    obtain ⟨qW,e2,g2⟩:=zZ hs (i:=i-1) (by omega)
    injection e2 with e2
    subst e2
    rw [decide_eq_true c,hw]
    refine aE rfl (aE ⟨by omega,by omega⟩ (bs rfl ?_))
    simp only [aM]
    exact bI g2 rfl
   ·rw [decide_eq_false c]
    exact aU (by decide) rfl
  rw [nC]
  cases c:nB zs v i with
  | true=>
   rw [lH,if_pos rfl]
   exact aC (by decide) (head (by rw [c];exact aE rfl rfl))
  | false=>
   rw [iM,<- fJ (i+1) (by omega)]
   refine bl (head ?_) rfl
   rw [c,bm (n:=(i:Int)+1) (by omega) (by omega)]
   exact aU (by decide) rfl
theorem Dz{v:Int}(hl:zs.length<=9223372036854775807)(hs:Sl h a (iv .i64 zs)):run (Et base) 103 [.slice a zs.length zs.length,.int .i64 v] h=some (.bool (pL zs v),h):=by
 have e:=Aa (base:=base) (v:=v) hl hs zs.length 0 (by omega)
 rw [show ((0:Nat):Int)=0 from rfl] at e
 unfold pL
 cases c:nC zs v zs.length 0 with
 | true=>
  rw [c,if_pos rfl] at e
  exact Am.adZ (bs e (aE rfl (bB rfl rfl)))
 | false=>
  rw [c,if_neg (by decide)] at e
  exact Am.adZ (bs e (aU (show ¬(2:Nat)=1 by decide) (aE rfl (bS rfl (by simp)))))
def jr(f:Nat)(l:List In)(A:Ac):Bool:=
 codeOk l&&(dx A.pid 1 99999&&(dx A.pc 0 (ag .i64 ((l.length:Int)-(1:Int)))&&(((A.aH.length:Int)==(8:Int))&&(uk f A.aH&&(decide ((A.box.length:Int)<=(30:Int))&&(uk f A.box&&pL A.aw A.pid))))))
theorem nE{l:List In}{c:Option Addr}(hL:∀ x∈l,x.s.size<=9223372036854775807)(hl:l.length<=9223372036854775807)(hc:Sl h c (cV l))(hM:Nj A)(x:rH h p f A cs)(hb:base<=h.length):
  ∃ h',run (Et base) 55 [.slice c l.length l.length,.agg cs.toArray] h=some (.bool (jr f l A),h')/\KB bp h h':=by
 obtain ⟨a,b,g,rfl,hr,hx,hk,_⟩:=x
 obtain ⟨m1,m2,m3⟩:=hM
 obtain ⟨o1,k1,q1⟩:=aI (base:=base) (t:=53) (h:=h) (cs:=de A.pid A.pc a A.aH.length b A.box.length g A.aw.length) hb rfl
 generalize da:h++[some (⟨de A.pid A.pc a A.aH.length b A.box.length g A.aw.length,53⟩:df)]=h1 at o1 k1 q1
 obtain ⟨h2,e2,k2⟩:=oR (base:=base) hL hl (hc.aj k1) (by omega)
 have n2:=k2.1
 have o2:=o1.aj k2
 have dH:=kN k1 k2
 obtain ⟨h3,e3,k3⟩:=tg (base:=base) m1 (hr.ax dH λ_ _ h=>h) (by omega)
 have n3:=k3.1
 have o3:=o2.aj k3
 have fg:=kN dH k3
 obtain ⟨h4,e4,k4⟩:=tg (base:=base) m2 (hx.ax fg λ_ _ h=>h) (by omega)
 have o4:=o3.aj k4
 have oL:=kN fg k4
 have e5:=Dz (base:=base) (v:=A.pid) m3 (hk.aj oL)
 have e6:=eW (base:=base) (h:=h2) (x:=A.pid) (a:=1) (b:=99999)
 have e7:=eW (base:=base) (h:=h2) (x:=A.pc) (a:=0) (b:=ag .i64 ((l.length:Int)-(1:Int)))
 have start:∀ {r:Value×AH},_=some r->run (Et base) 55 [.slice c l.length l.length,.agg (de A.pid A.pc a A.aH.length b A.box.length g A.aw.length).toArray] h=some r:=fun {r} hr=>Am.r55 (lets λy ey=>(by rw [ey,da];exact bs e2 (bB rfl hr)))
 unfold jr
 cases c1:codeOk l with
 | false=>exact ⟨h2,start (by rw [c1];exact aU (by decide) rfl),dH⟩
 | true=>
  cases c2:dx A.pid 1 99999 with
  | false=>rw [c2] at e6;exact ⟨h2,start (by rw [c1];exact aE rfl (bI (o2.ap (i:=0) rfl) (bs e6 (bB rfl (aU (by decide) rfl))))),dH⟩
  | true=>
   rw [c2] at e6
   cases c3:dx A.pc 0 (ag .i64 ((l.length:Int)-(1:Int))) with
   | false=>rw [c3] at e7;exact ⟨h2,start (by rw [c1];exact aE rfl (bI (o2.ap (i:=0) rfl) (bs e6 (bB rfl (aE rfl (bI (o2.ap (i:=1) rfl) (bs e7 (bB rfl (aU (by decide) rfl))))))))),dH⟩
   | true=>
    rw [c3] at e7
    cases c4:(A.aH.length:Int)==(8:Int) with
    | false=>exact ⟨h2,start (by rw [c1];exact aE rfl (bI (o2.ap (i:=0) rfl) (bs e6 (bB rfl (aE rfl (bI (o2.ap (i:=1) rfl) (bs e7 (bB rfl (aE rfl (bS (o2.ap (i:=2) rfl) (aU (by simp [c4]) rfl))))))))))),dH⟩
    | true=>
     cases c5:uk f A.aH with
     | false=>rw [c5] at e3;exact ⟨h3,start (by rw [c1];exact aE rfl (bI (o2.ap (i:=0) rfl) (bs e6 (bB rfl (aE rfl (bI (o2.ap (i:=1) rfl) (bs e7 (bB rfl (aE rfl (bS (o2.ap (i:=2) rfl) (aE c4 (bS (o2.ap (i:=2) rfl) (bs e3 (bB rfl (aU (by decide) rfl))))))))))))))),fg⟩
     | true=>
      rw [c5] at e3
      by_cases c6:(A.box.length:Int)<=30
      ·rw [decide_eq_true c6]
       cases c7:uk f A.box with
       | false=>rw [c7] at e4;exact ⟨h4,start (by rw [c1];exact aE rfl (bI (o2.ap (i:=0) rfl) (bs e6 (bB rfl (aE rfl (bI (o2.ap (i:=1) rfl) (bs e7 (bB rfl (aE rfl (bS (o2.ap (i:=2) rfl) (aE c4 (bS (o2.ap (i:=2) rfl) (bs e3 (bB rfl (aE rfl (bS (o3.ap (i:=3) rfl) (aE (decide_eq_true c6) (bS (o3.ap (i:=3) rfl) (bs e4 (bB rfl (aU (by decide) rfl))))))))))))))))))))),oL⟩
       | true=>rw [c7] at e4;exact ⟨h4,start (by rw [c1];exact aE rfl (bI (o2.ap (i:=0) rfl) (bs e6 (bB rfl (aE rfl (bI (o2.ap (i:=1) rfl) (bs e7 (bB rfl (aE rfl (bS (o2.ap (i:=2) rfl) (aE c4 (bS (o2.ap (i:=2) rfl) (bs e3 (bB rfl (aE rfl (bS (o3.ap (i:=3) rfl) (aE (decide_eq_true c6) (bS (o3.ap (i:=3) rfl) (bs e4 (bB rfl (aE rfl (bS (o4.ap (i:=4) rfl) (bI (o4.ap (i:=0) rfl) (bs e5 (bB rfl rfl))))))))))))))))))))))))),oL⟩
      ·rw [decide_eq_false c6]
       exact ⟨h3,start (by rw [c1];exact aE rfl (bI (o2.ap (i:=0) rfl) (bs e6 (bB rfl (aE rfl (bI (o2.ap (i:=1) rfl) (bs e7 (bB rfl (aE rfl (bS (o2.ap (i:=2) rfl) (aE c4 (bS (o2.ap (i:=2) rfl) (bs e3 (bB rfl (aE rfl (bS (o3.ap (i:=3) rfl) (aU (by simpa using c6) rfl))))))))))))))))),fg⟩
section
abbrev Ds:=List (Nat×Nat×List Value)
structure Rs where
 S:Fp
 mu:Bool
 A:AH->Prop
def Rs.Ok(r:Rs):Prop:=∀ (U:Fp) (h h':AH),KB U h h'->(∀ b,r.S b->¬U b)->r.A h->r.A h'
def Rs.dj(r s:Rs):Prop:=(r.mu||s.mu)=true->∀ b,r.S b->¬s.S b
theorem Rs.dj.symm{r s:Rs}(x:r.dj s):s.dj r:=λe b h1 h2=>x (by rw [Bool.or_comm];exact e) b h2 h1
structure Hs (base:Nat) (W:Fp) (h0 h:AH) (D:Ds) (R:List Rs):Prop where
 ge:base<=h.length
 kb:KB W h0 h
 own:∀ x∈D,bQ base x.2.1 h (ap x.1) x.2.2/\(W x.1\/h0.length<=x.1)
 nd:(D.map (·.1)).Nodup
 iH:∀ r∈R,r.A h/\r.Ok/\(∀ b,r.S b->b<h.length)/\(r.mu=true->∀ b,r.S b->W b\/h0.length<=b)/\∀ x∈D,¬r.S x.1
 dj:R.Pairwise Rs.dj
inductive fz {α:Type}:List α->α->α->List α->Prop
 | here {x y:α} {l:List α}:fz (x :: l) x y (y :: l)
 | there {x y z:α} {l l':List α}:fz l x y l'->fz (z :: l) x y (z :: l')
theorem fz.mem{l l':List α}{x y:α}(u:fz l x y l'):x∈l:=by
 induction u with
 | here=>exact .head _
 | there _ ih=>exact .tail _ ih
theorem fz.of{l l':List α}{x y:α}(u:fz l x y l'):∀ z∈l',z=y\/z∈l:=by
 induction u with
 | here=>exactλz hz=>(bn.1 hz).imp id λh=>.tail _ h
 | there _ ih=>
  intro z hz
  rcases bn.1 hz with rfl|hz
  ·exact .inr (.head _)
  ·exact (ih z hz).imp id λh=>.tail _ h
theorem fz.fst{l l':Ds}{x y:Nat×Nat×List Value}(u:fz l x y l')(e:x.1=y.1):l'.map (·.1)=l.map (·.1):=by
 induction u with
 | here=>simp [e]
 | there _ ih=>simp [ih e]
theorem fz.vz{l l':Ds}{x y:Nat×Nat×List Value}(u:fz l x y l')(e:x.1=y.1)(nd:(l.map (·.1)).Nodup):∀ z∈l',z=y\/(z∈l/\z.1≠x.1):=by
 induction u with
 | @here x y l=>
  intro z hz
  rcases bn.1 hz with rfl|hz
  ·exact .inl rfl
  ·refine .inr ⟨.tail _ hz,λh=>?_⟩
   have:=(mY.1 nd).1
   exact this (dR.2 ⟨z,hz,h⟩)
 | @there x y w l l' u ih=>
  have nd':=mY.1 nd
  intro z hz
  rcases bn.1 hz with rfl|hz
  ·refine .inr ⟨.head _,λh=>nd'.1 (dR.2 ⟨_,u.mem,h.symm⟩)⟩
  ·exact (ih e nd'.2 z hz).imp id λh=>⟨.tail _ h.1,h.2⟩
theorem fz.pair{l l':List Rs}{x y:Rs}(u:fz l x y l')(p:l.Pairwise Rs.dj)(hy:∀ z∈l,z.dj x->z.dj y):l'.Pairwise Rs.dj:=by
 induction u with
 | @here x y l=>
  rw [ib] at p ⊢
  exact ⟨λz hz=>(hy z (.tail _ hz) (p.1 z hz).symm).symm,p.2⟩
 | @there x y w l l' u ih=>
  rw [ib] at p ⊢
  refine ⟨λz hz=>?_,ih p.2 λz hz=>hy z (.tail _ hz)⟩
  rcases u.of z hz with rfl|hz
  ·exact hy w (.head _) (p.1 _ u.mem)
  ·exact p.1 z hz
theorem fz.at{α:Type}{l:List α}{x:α}:∀ {i:Nat},l[i]? = some x->∀ {y:α},fz l x y (l.set i y):=by
 induction l with
 | nil=>intro i e;simp at e
 | cons z l ih=>
  intro i e y
  cases i with
  | zero=>simp at e;subst e;exact .here
  | succ i=>exact .there (ih (by simpa using e))
inductive gJ {α:Type}:List α->α->List α->Prop
 | here {x:α} {l:List α}:gJ (x :: l) x l
 | there {x z:α} {l l':List α}:gJ l x l'->gJ (z :: l) x (z :: l')
theorem gJ.at{α:Type}{l:List α}{x:α}:∀ {i:Nat},l[i]? = some x->gJ l x (l.eraseIdx i):=by
 induction l with
 | nil=>intro i e;simp at e
 | cons z l ih=>
  intro i e
  cases i with
  | zero=>simp at e;subst e;exact .here
  | succ i=>exact .there (ih (by simpa using e))
theorem gJ.mem{l l':List α}{x:α}(u:gJ l x l'):x∈l:=by
 induction u with
 | here=>exact .head _
 | there _ ih=>exact .tail _ ih
theorem gJ.of{l l':List α}{x:α}(u:gJ l x l'):∀ z∈l',z∈l:=by
 induction u with
 | here=>exactλz hz=>.tail _ hz
 | there _ ih=>
  intro z hz
  rcases bn.1 hz with rfl|hz
  ·exact .head _
  ·exact .tail _ (ih z hz)
theorem gJ.vz{l l':Ds}{x:Nat×Nat×List Value}(u:gJ l x l')(nd:(l.map (·.1)).Nodup):(l'.map (·.1)).Nodup/\∀ z∈l',z.1≠x.1:=by
 induction u with
 | @here x l=>
  have nd:=mY.1 nd
  exact ⟨nd.2,λz hz e=>nd.1 (dR.2 ⟨z,hz,e⟩)⟩
 | @there x z l l' u ih=>
  have nd:=mY.1 nd
  obtain ⟨h1,h2⟩:=ih nd.2
  refine ⟨mY.2 ⟨λhm=>?_,h1⟩,λy hy=>?_⟩
  ·obtain ⟨y,hy,e⟩:=dR.1 hm
   exact nd.1 (dR.2 ⟨y,u.of y hy,e⟩)
  ·rcases bn.1 hy with rfl|hy
   ·exactλe=>nd.1 (dR.2 ⟨_,u.mem,e.symm⟩)
   ·exact h2 y hy
theorem fz.key{l l':List Rs}{r r':Rs}(u:fz l r r' l'):l.Pairwise Rs.dj->∀ s∈l',s=r'\/(s∈l/\s.dj r):=by
 induction u with
 | @here x y l=>
  intro p s hs
  rw [ib] at p
  rcases bn.1 hs with rfl|hs
  ·exact .inl rfl
  ·exact .inr ⟨.tail _ hs,(p.1 s hs).symm⟩
 | @there x y w l l' u ih=>
  intro p s hs
  rw [ib] at p
  rcases bn.1 hs with rfl|hs
  ·exact .inr ⟨.head _,p.1 _ u.mem⟩
  ·exact (ih p.2 s hs).imp id λh=>⟨.tail _ h.1,h.2⟩
theorem fz.off{l l':List Rs}{s e:Rs}(u:fz l s e l')(he:∀ b,¬e.S b)(ms:s.mu=true):l.Pairwise Rs.dj->∀ z∈l',∀ b,z.S b->¬s.S b:=by
 induction u with
 | @here x y l=>
  intro p z hz b h1 h2
  rw [ib] at p
  rcases bn.1 hz with rfl|hz
  ·exact he b h1
  ·exact p.1 z hz (by rw [ms];simp) b h2 h1
 | @there x y w l l' u ih=>
  intro p z hz b h1 h2
  rw [ib] at p
  rcases bn.1 hz with rfl|hz
  ·exact p.1 _ u.mem (by rw [ms];simp) b h1 h2
  ·exact ih he ms p.2 z hz b h1 h2
theorem fz.two{l l':List α}{x y:α}(z:α)(u:fz l x y l'):∃ m,fz l x z m/\fz m z y l':=by
 induction u with
 | here=>exact ⟨_,.here,.here⟩
 | there u ih=>
  obtain ⟨m,h1,h2⟩:=ih
  exact ⟨_,.there h1,.there h2⟩
namespace Hs
variable {base:Nat} {W:Fp} {h0 h:AH} {D:Ds} {R:List Rs}
theorem start(hb:base<=h.length):Hs base bp h h [] []:=⟨hb,KB.refl _ _,λx hx=>(nomatch hx),by simp,λr hr=>(nomatch hr),.nil⟩
theorem IJ(d:Hs base W h0 h D R)(S:Fp)(A:AH->Prop)(hA:A h)(ok:∀ (U:Fp) (h h':AH),KB U h h'->(∀ b,S b->¬U b)->A h->A h')(lt:∀ b,S b->b<h.length)(hD:∀ x∈D,¬S x.1)(hR:R.all (λr=>!r.mu)=true):Hs base W h0 h D (R++[⟨S,false,A⟩]):=by
 refine ⟨d.ge,d.kb,d.own,d.nd,λr hr=>?_,?_⟩
 ·rcases dQ.1 hr with hr|hr
  ·exact d.iH r hr
  ·rw [dY] at hr
   subst hr
   exact ⟨hA,ok,lt,λh=>(nomatch h),hD⟩
 ·rw [iU]
  refine ⟨d.dj,by simp,λr hr s hs=>?_⟩
  rw [dY] at hs
  subst hs
  intro e
  have:=List.all_eq_true.1 hR r hr
  simp only [Yg] at e
  rw [e] at this
  cases this
theorem ax{U:Fp}{h':AH}(d:Hs base W h0 h D R)(k:KB U h h')(h1:∀ b,U b->b<h.length->W b\/h0.length<=b)(h2:∀ x∈D,¬U x.1)(h3:∀ r∈R,∀ b,r.S b->¬U b):Hs base W h0 h' D R:=by
 refine ⟨gi d.ge k.1,KB.trans d.kb k (λ_ _ h=>h) (λi hi hu=>?_),λx hx=>⟨(d.own x hx).1.ax k λb hb hu=>h2 x hx ((aG.1 hb) ▸ hu),(d.own x hx).2⟩,d.nd,λr hr=>?_,d.dj⟩
 ·rcases h1 i hu (cW hi d.kb.1) with h|h
  ·exact h
  ·exact absurd hi (by omega)
 ·obtain ⟨r1,r2,r3,r4⟩:=d.iH r hr
  exact ⟨r2 U h h' k (h3 r hr) r1,r2,λb hb=>cW (r3 b hb) k.1,r4⟩
theorem kN(d:Hs base W h0 h D R)(k:KB bp h h'):Hs base W h0 h' D R:=d.ax k (λ_ h=>h.elim) (λ_ _ h=>h) (λ_ _ _ _ h=>h)
theorem call(d:Hs base W h0 h D R)(k:KB bp h h')(S:Fp)(A:AH->Prop)(hA:A h')(ok:∀ (U:Fp) (h h':AH),KB U h h'->(∀ b,S b->¬U b)->A h->A h')(hS:∀ b,S b->h.length<=b/\b<h'.length):Hs base W h0 h' D (R++[⟨S,true,A⟩]):=by
 have d':=d.kN k
 refine ⟨d'.ge,d'.kb,d'.own,d'.nd,λr hr=>?_,?_⟩
 ·rcases dQ.1 hr with hr|hr
  ·exact d'.iH r hr
  ·rw [dY] at hr
   subst hr
   refine ⟨hA,ok,λb hb=>(hS b hb).2,λ_ b hb=>.inr ?_,λx hx Ek=>?_⟩
   ·have:=(hS b hb).1
    have:=d.kb.1
    omega
   ·have:=((d.own x hx).1.lt (aG.2 rfl)).2
    have:=(hS _ Ek).1
    omega
 ·rw [iU]
  refine ⟨d'.dj,by simp,λr hr s hs e b h1 h2=>?_⟩
  rw [dY] at hs
  subst hs
  have:=(d.iH r hr).2.2.1 b h1
  have:=(hS b h2).1
  omega
theorem call2(d:Hs base W h0 h D R)(k:KB bp h h')(S T:Fp)(A B:AH->Prop)(hA:A h')(hB:B h')(pz:∀ (U:Fp) (h h':AH),KB U h h'->(∀ b,S b->¬U b)->A h->A h')(okB:∀ (U:Fp) (h h':AH),KB U h h'->(∀ b,T b->¬U b)->B h->B h')(hS:∀ b,S b->h.length<=b/\b<h'.length)(hT:∀ b,T b->h.length<=b/\b<h'.length)(hd:∀ b,S b->¬T b):Hs base W h0 h' D (R++[⟨S,true,A⟩]++[⟨T,true,B⟩]):=by
 have d1:=d.call k S A hA pz hS
 have d2:=d.call k T B hB okB hT
 refine ⟨d1.ge,d1.kb,d1.own,d1.nd,λr hr=>?_,?_⟩
 ·rcases dQ.1 hr with hr|hr
  ·exact d1.iH r hr
  ·exact d2.iH r (List.mem_append_right _ hr)
 ·rw [iU]
  refine ⟨d1.dj,by simp,λr hr s hs=>?_⟩
  rcases dQ.1 hr with hr|hr
  ·exact (iU.1 d2.dj).2.2 r hr s hs
  ·rw [dY] at hr hs
   subst hr;subst hs
   exactλ_=>hd
theorem rs(d:Hs base W h0 h D R){r:Rs}(e:R[i]? = some r):r.A h:=(d.iH r (dX e)).1
theorem fK(d:Hs base W h0 h D R){r:Rs}(e:R[i]? = some r):∀ b,r.S b->b<h.length:=(d.iH r (dX e)).2.2.1
theorem Ab(d:Hs base W h0 h D R){r:Rs}(e:R[i]? = some r)(m:r.mu=true):∀ b,r.S b->W b\/h0.length<=b:=(d.iH r (dX e)).2.2.2.1 m
theorem au(d:Hs base W h0 h D R)(m:(b,t,cs)∈D)(e:cs[o]? = some v):Am.cell h b o=some v:=(d.own _ m).1.ap e
theorem lt{b t:Nat}{cs:List Value}(d:Hs base W h0 h D R)(m:(b,t,cs)∈D):b<h.length:=((d.own _ m).1.lt (aG.2 rfl)).2
theorem ol(d:Hs base W h0 h D R)(m:(b,t,cs)∈D):bQ base t h (ap b) cs:=(d.own _ m).1
theorem new(d:Hs base W h0 h D R)(t:Nat)(cs:List Value):Hs base W h0 (h++[some ⟨cs,t⟩]) ((h.length,t,cs) :: D) R:=by
 obtain ⟨o1,k1,q1⟩:=aI (base:=base) (t:=t) (h:=h) (cs:=cs) d.ge rfl
 have d':=d.kN k1
 refine ⟨d'.ge,d'.kb,λx hx=>?_,?_,λr hr=>?_,d'.dj⟩
 ·rcases bn.1 hx with rfl|hx
  ·exact ⟨o1,.inr d.kb.1⟩
  ·exact d'.own x hx
 ·rw [mD,mY]
  refine ⟨λhm=>?_,d'.nd⟩
  obtain ⟨x,hx,e⟩:=dR.1 hm
  have:=((d.own x hx).1.lt (aG.2 rfl)).2
  simp only at e
  omega
 ·obtain ⟨r1,r2,r3,r4,r5⟩:=d'.iH r hr
  refine ⟨r1,r2,r3,r4,λx hx hS=>?_⟩
  rcases bn.1 hx with rfl|hx
  ·have:=(d.iH r hr).2.2.1 _ hS
   simp only at this
   omega
  ·exact r5 x hx hS
theorem wr{new:List Value}{D':Ds}(d:Hs base W h0 h D R)(u:fz D (b,t,cs) (b,t,setAt cs o new) D')(hi:o+new.length<=cs.length)(hz:0<new.length):
  ∃ h1,Am.wr base h b o new=some h1/\Hs base W h0 h1 D' R/\h1.length=h.length/\KB (· = b) h h1:=by
 obtain ⟨h1,e,o1,k1,l1⟩:=((d.own _ u.mem).1).fF hi hz
 refine ⟨h1,e,⟨by rw [l1];exact d.ge,KB.trans d.kb k1 (λ_ _ h=>h) (λi hi hu=>?_),λx hx=>?_,?_,λr hr=>?_,d.dj⟩,l1,k1⟩
 ·simp only at hu
  subst hu
  rcases (d.own _ u.mem).2 with h|h
  ·exact h
  ·simp only at h;omega
 ·rcases u.vz rfl d.nd x hx with rfl|⟨hx,dv⟩
  ·exact ⟨o1,(d.own _ u.mem).2⟩
  ·exact ⟨(d.own x hx).1.bF k1 λi hi=>(aG.1 hi) ▸ dv,(d.own x hx).2⟩
 ·rw [u.fst rfl];exact d.nd
 ·obtain ⟨r1,r2,r3,r4,r5⟩:=d.iH r hr
  refine ⟨r2 _ _ _ k1 (λi hS hi=>?_) r1,r2,λb hb=>by rw [l1];exact r3 b hb,r4,λx hx=>?_⟩
  ·simp only at hi
   subst hi
   exact r5 _ u.mem hS
  ·rcases u.vz rfl d.nd x hx with rfl|⟨hx,_⟩
   ·exactλh=>r5 _ u.mem h
   ·exact r5 x hx
theorem Ns{r r':Rs}{R':List Rs}(d:Hs base W h0 h D R)(u:fz R r r' R')(m:r.mu=true)(m':r'.mu=true)(k:KB U h h')(hU:∀ b,U b->r.S b\/h.length<=b)(hA:r'.A h')(ok:r'.Ok)(hS:∀ b,r'.S b->r.S b\/(h.length<=b/\b<h'.length)):Hs base W h0 h' D R':=by
 obtain ⟨r1,r2,r3,r4,r5⟩:=d.iH r u.mem
 have hb:=d.kb.1
 have hUD:∀ x∈D,¬U x.1:=λx hx hu=>by
  have:=((d.own x hx).1.lt (aG.2 rfl)).2
  rcases hU _ hu with h|h
  ·exact r5 x hx h
  ·omega
 refine ⟨gi d.ge k.1,KB.trans d.kb k (λ_ _ h=>h) (λi hi hu=>?_),λx hx=>⟨(d.own x hx).1.ax k λb hb hu=>hUD x hx ((aG.1 hb) ▸ hu),(d.own x hx).2⟩,d.nd,?_,?_⟩
 ·rcases hU i hu with h|h
  ·exact (r4 m i h).resolve_right (by omega)
  ·omega
 ·intro s hs
  rcases u.key d.dj s hs with rfl|⟨hs,hd⟩
  ·refine ⟨hA,ok,λb hb=>?_,λ_ b hb=>?_,λx hx Ek=>?_⟩
   ·rcases hS b hb with h|h
    ·exact cW (r3 b h) k.1
    ·exact h.2
   ·rcases hS b hb with h|h
    ·exact r4 m b h
    ·exact .inr (by omega)
   ·have:=((d.own x hx).1.lt (aG.2 rfl)).2
    rcases hS _ Ek with h|h
    ·exact r5 x hx h
    ·omega
  ·obtain ⟨s1,s2,s3,s4,s5⟩:=d.iH s hs
   refine ⟨s2 U h h' k (λb hb hu=>?_) s1,s2,λb hb=>cW (s3 b hb) k.1,s4,s5⟩
   rcases hU b hu with h|h
   ·exact hd (by rw [m];simp) b hb h
   ·have:=s3 b hb;omega
 ·refine u.pair d.dj λz hz hd e b h1 h2=>?_
  rcases hS b h2 with h|h
  ·exact hd (by rw [m];simp) b h1 h
  ·have:=(d.iH z hz).2.2.1 b h1;omega
theorem re{r r':Rs}{R':List Rs}(d:Hs base W h0 h D R)(u:fz R r r' R')(m:r.mu=true)(m':r'.mu=true)(hA:r'.A h)(ok:r'.Ok)(hS:∀ b,r'.S b->r.S b):Hs base W h0 h D R':=
 d.Ns u m m' (KB.refl bp h) (λ_ h=>h.elim) hA ok λb hb=>.inl (hS b hb)
theorem join{r s r':Rs}{R1 R2:List Rs}(d:Hs base W h0 h D R)(us:fz R s ⟨λ_=>False,true,λ_=>True⟩ R1)(ur:fz R1 r r' R2)(ms:s.mu=true)(m:r.mu=true)(m':r'.mu=true)(k:KB U h h')(hU:∀ b,U b->r.S b\/h.length<=b)(hA:r'.A h')(ok:r'.Ok)(hS:∀ b,r'.S b->r.S b\/s.S b\/(h.length<=b/\b<h'.length)):Hs base W h0 h' D R2:=by
 have dE:Hs base W h0 h D R1:=d.re us ms rfl trivial (λ_ _ _ _ _ h=>h) (λ_ h=>h.elim)
 obtain ⟨r1,r2,r3,r4,r5⟩:=dE.iH r ur.mem
 obtain ⟨s1,s2,s3,s4,s5⟩:=d.iH s us.mem
 have dj1:=us.off (λ_ h=>h) ms d.dj
 obtain ⟨R3,u1,u2⟩:=ur.two ⟨λb=>r.S b\/s.S b,true,r.A⟩
 have dF:Hs base W h0 h D R3:=by
  refine ⟨dE.ge,dE.kb,dE.own,dE.nd,λz hz=>?_,?_⟩
  ·rcases u1.of z hz with rfl|hz
   ·refine ⟨r1,λU h h' k hk=>r2 U h h' k λb hb=>hk b (.inl hb),λb hb=>hb.elim (r3 b) (s3 b),λ_ b hb=>hb.elim (r4 m b) (s4 ms b),λx hx hb=>hb.elim (r5 x hx) (s5 x hx)⟩
   ·exact dE.iH z hz
  ·refine u1.pair dE.dj λz hz hd e b h1 h2=>?_
   rcases h2 with h2|h2
   ·exact hd (by rw [m];simp) b h1 h2
   ·exact dj1 z hz b h1 h2
 exact dF.Ns u2 rfl m' k (λb hb=>(hU b hb).imp .inl id) hA ok λb hb=>by
  rcases hS b hb with h|h|h
  ·exact .inl (.inl h)
  ·exact .inl (.inr h)
  ·exact .inr h
theorem Hg(d:Hs base W h0 h D R){D':Ds}(u:gJ D (b,t,cs) D'):Hs base W h0 h D' (R++[⟨(· = b),true,λy=>bQ base t y (ap b) cs⟩]):=by
 obtain ⟨n1,n2⟩:=u.vz d.nd
 refine ⟨d.ge,d.kb,λx hx=>d.own x (u.of x hx),n1,λr hr=>?_,?_⟩
 ·rcases dQ.1 hr with hr|hr
  ·obtain ⟨r1,r2,r3,r4,r5⟩:=d.iH r hr
   exact ⟨r1,r2,r3,r4,λx hx=>r5 x (u.of x hx)⟩
  ·rw [dY] at hr
   subst hr
   refine ⟨(d.own _ u.mem).1,λU y y' k hk x=>x.ax k λi hi hu=>hk i (aG.1 hi) hu,λi hi=>?_,λ_ i hi=>?_,λx hx hi=>n2 x hx hi⟩
   ·simp only at hi;subst hi;exact d.lt u.mem
   ·simp only at hi;subst hi;exact (d.own _ u.mem).2
 ·rw [iU]
  refine ⟨d.dj,by simp,λr hr s hs e i h1 h2=>?_⟩
  rw [dY] at hs
  subst hs
  simp only at h2
  subst h2
  exact (d.iH r hr).2.2.2.2 _ u.mem h1
theorem aei{l:List Rs}(p:l.Pairwise Rs.dj){r s:Rs}(hr:r∈l)(hs:s∈l)(dv:r≠s):r.dj s:=by
 induction l with
 | nil=>cases hr
 | cons x l ih=>
  rw [ib] at p
  rcases bn.1 hr with h1|hr
  ·rcases bn.1 hs with h2|hs
   ·exact absurd (h1.trans h2.symm) dv
   ·exact h1 ▸ p.1 s hs
  ·rcases bn.1 hs with h2|hs
   ·exact h2 ▸ (p.1 r hr).symm
   ·exact ih p.2 hr hs
theorem Nt(d:Hs base W h0 h D R){r:Rs}(e:R[i]? = some r)(m:r.mu=false)(A:AH->Prop)(hA:A h)(ok:∀ (U:Fp) (h h':AH),KB U h h'->(∀ b,r.S b->¬U b)->A h->A h'):Hs base W h0 h D (R++[⟨r.S,false,A⟩]):=by
 have hm:=dX e
 obtain ⟨r1,r2,r3,r4,r5⟩:=d.iH r hm
 refine ⟨d.ge,d.kb,d.own,d.nd,λs hs=>?_,?_⟩
 ·rcases dQ.1 hs with hs|hs
  ·exact d.iH s hs
  ·rw [dY] at hs
   subst hs
   exact ⟨hA,ok,r3,λh=>(nomatch h),r5⟩
 ·rw [iU]
  refine ⟨d.dj,by simp,λs hs t ht=>?_⟩
  rw [dY] at ht
  subst ht
  intro e2
  simp only [Yg] at e2
  have:=aei d.dj hs hm (λe3=>by rw [e3,m] at e2;cases e2)
  exact this (by rw [e2];rfl)
theorem fb{P:Fp->AH->α->List Value->Prop}(d:Hs base W h0 h D R)(kp:Kp P)(k:KB bp h h'){x:α}(hx:P (iS h.length h'.length) h' x cs):Hs base W h0 h' D (R++[⟨iS h.length h'.length,true,λy=>P (iS h.length h'.length) y x cs⟩]):=
 d.call k _ _ hx (λU y y' ky hs z=>kp _ U y y' x cs ky hs z) λb hb=>hb
theorem akS{r:Rs}(d:Hs base W h0 h D R)(e:R[i]? = some r)(m:r.mu=true)(k:KB U h h')(hU:∀ b,U b->r.S b\/h.length<=b):Hs base W h0 h' D (R.set i ⟨r.S,true,λ_=>True⟩):=
 d.Ns (fz.at e) m rfl k hU trivial (λ_ _ _ _ _ h=>h) λb hb=>.inl hb
theorem aej{P:Fp->AH->α->List Value->Prop}{l:List α}(d:Hs base W h0 h D R)(kp:Kp P)(k:KB bp h h')(hx:a_ base t w P (iS h.length h'.length) h' l a):Hs base W h0 h' D (R++[⟨iS h.length h'.length,true,λy=>a_ base t w P (iS h.length h'.length) y l a⟩]):=
 d.call k _ _ hx (λU y y' ky hs z=>z.ax kp ky hs) λb hb=>hb
theorem oT{r s:Rs}{R1 R2:List Rs}{P:Fp->AH->α->List Value->Prop}{l:List α}(d:Hs base W h0 h D R)(kp:Kp P)(us:fz R s ⟨λ_=>False,true,λ_=>True⟩ R1)(ur:fz R1 r ⟨S',true,λy=>a_ base t w P S' y l a⟩ R2)(ms:s.mu=true)(m:r.mu=true)(k:KB U h h')(hA:a_ base t w P S' h' l a)(hU:∀ b,U b->r.S b\/h.length<=b)(hS:∀ b,S' b->r.S b\/s.S b\/(h.length<=b/\b<h'.length)):Hs base W h0 h' D R2:=
 d.join us ur ms m rfl k hU hA (λU y y' ky hs z=>z.ax kp ky hs) hS
theorem IK{r:Rs}{R':List Rs}{P:Fp->AH->α->List Value->Prop}{l:List α}(d:Hs base W h0 h D R)(kp:Kp P)(u:fz R r ⟨S',true,λy=>a_ base t w P S' y l a⟩ R')(m:r.mu=true)(k:KB U h h')(hA:a_ base t w P S' h' l a)(hU:∀ b,U b->r.S b\/h.length<=b)(hS:∀ b,S' b->r.S b\/(h.length<=b/\b<h'.length)):Hs base W h0 h' D R':=
 d.Ns u m rfl k hU hA (λU y y' ky hs z=>z.ax kp ky hs) hS
theorem aek{r:Rs}{R':List Rs}{P:Fp->AH->α->List Value->Prop}{x:α}(d:Hs base W h0 h D R)(kp:Kp P)(u:fz R r ⟨S',true,λy=>P S' y x cs⟩ R')(m:r.mu=true)(k:KB U h h')(hA:P S' h' x cs)(hU:∀ b,U b->r.S b\/h.length<=b)(hS:∀ b,S' b->r.S b\/(h.length<=b/\b<h'.length)):Hs base W h0 h' D R':=
 d.Ns u m rfl k hU hA (λU y y' ky hs z=>kp _ U y y' x cs ky hs z) hS
theorem kL{r s:Rs}{R1 R2:List Rs}{P:Fp->AH->α->List Value->Prop}{x:α}(d:Hs base W h0 h D R)(kp:Kp P)(us:fz R s ⟨λ_=>False,true,λ_=>True⟩ R1)(ur:fz R1 r ⟨S',true,λy=>P S' y x cs⟩ R2)(ms:s.mu=true)(m:r.mu=true)(k:KB U h h')(hA:P S' h' x cs)(hU:∀ b,U b->r.S b\/h.length<=b)(hS:∀ b,S' b->r.S b\/s.S b\/(h.length<=b/\b<h'.length)):Hs base W h0 h' D R2:=
 d.join us ur ms m rfl k hU hA (λU y y' ky hs z=>kp _ U y y' x cs ky hs z) hS
theorem out{P:Fp->AH->α->List Value->Prop}(d:Hs base bp h0 h D R)(mo:Mo P){x:α}(e:R[i]? = some ⟨S,true,λy=>P S y x cs⟩):P (iS h0.length h.length) h x cs:=
 mo S _ h x cs (λb hb=>⟨(d.Ab e rfl b hb).resolve_left (λh=>h),d.fK e b hb⟩) (d.rs e)
end Hs
theorem n1{l:List α}: []++l=l:=rfl
theorem n2{x:α}{l m:List α}:x :: l++m=x :: (l++m):=rfl
theorem n3{x y:α}{l:List α}:(x :: l).set 0 y=y :: l:=rfl
theorem n4{x y:α}{l:List α}:(x :: l).set (n+1) y=x :: l.set n y:=rfl
theorem n5{x:α}{l:List α}:(x :: l).eraseIdx 0=l:=rfl
theorem n6{x:α}{l:List α}:(x :: l).eraseIdx (n+1)=x :: l.eraseIdx n:=rfl
namespace W
variable {β γ:Type} {Q:β->Prop} {base:Nat} {Wr:Fp} {h0 h:AH} {D:Ds} {R:List Rs}
theorem nD(d:Hs base Wr h0 h D R){f:AH->Option β}(w:∀ h1,Hs base Wr h0 h1 ((h.length,t,cs) :: D) R->h1.length=h.length+1->KB bp h h1->Wp (f h1) Q):Wp ((some (h++[some ⟨cs,t⟩])).bind f) Q:=w _ (d.new t cs) (by simp) (KB.push _ _ _)
theorem wD(d:Hs base Wr h0 h D R){new:List Value}{D':Ds}{f:AH->Option β}(u:fz D (b,t,cs) (b,t,setAt cs o new) D')(hi:dC (o+new.length) cs.length=true)(hz:Nat.blt 0 new.length=true)(w:∀ h1,Hs base Wr h0 h1 D' R->h1.length=h.length->KB (· = b) h h1->Wp (f h1) Q):Wp ((Am.wr base h b o new).bind f) Q:=by
 obtain ⟨h1,e,d1,l1,k1⟩:=d.wr u (iK hi) (by rw [Nat.blt_eq] at hz;exact hz)
 rw [e]
 exact w h1 d1 l1 k1
theorem gS(d:Hs base Wr h0 h D R){U4:List Value}{Wr1:Fp}{h01:AH}{D1:Ds}{R1:List Rs}{x:Option β}(m:(b,t,cs)∈D)(d1:Hs base Wr1 h01 h1 D1 R1)(m1:(b,t,U4)∈D1)(e:(U4.drop o).take n=(cs.drop o).take n)(hl:dC (o+n) cs.length=true)(A1:dC (o+n) U4.length=true)(w:Wp x Q):Wp (gate (bc h1 h (some ⟨b,o,none⟩) n) x) Q:=by
 refine W.gt (λad ea=>?_) w
 injection ea with ea
 subst ea
 have hl:=iK hl
 have A1:=iK A1
 refine ⟨λj hj=>?_,?_⟩
 ·have e2:(U4.drop o)[j]? = (cs.drop o)[j]?:=by
   have:=congrArg (·[j]?) e
   simp only [bJ hj] at this
   exact this
  rw [bZ,bZ] at e2
  have g1:=d1.au m1 (o:=o+j) (bk (by omega))
  have g2:=d.au m (o:=o+j) (bk (by omega))
  rw [bk (by omega),bk (by omega)] at e2
  injection e2 with e2
  show Am.cell h1 b (o+j)=Am.cell h b (o+j)
  rw [g1,g2,e2]
 ·have ty:∀ {h:AH} {cs:List Value},bQ base t h (ap b) cs->(bD h b).map (·.ty)=some t:=λo=>by
   rcases o with ⟨e,_⟩|⟨ad,k,e1,_,e2,e3,_⟩
   ·cases e
   ·injection e1 with e1
    subst e1
    rw [e2]
    simp [e3]
  show (bD h1 b).map (·.ty)=(bD h b).map (·.ty)
  rw [ty (d1.ol m1),ty (d.ol m)]
theorem gN(d:Hs base Wr h0 h D R){x:Option β}(m:(b,t,cs)∈D)(w:Wp x Q):Wp (gate (fP (some ⟨b,o,none⟩) h.length) x) Q:=W.gt (ma (Nat.ne_of_lt (d.lt m))) w
theorem iB{i n:Int}{a b:Option β}(h1:0<=i)(h2:i<n)(w:Wp a Q):Wp (if 0<=i/\i<n then a else b) Q:=W.aE ⟨h1,h2⟩ w
theorem rG(d:Hs base Wr h0 h D R){g:Value->Option α}{y:α}{f:α->Option β}(m:(b,t,cs)∈D)(e:cs[o]? = some v)(eg:g v=some y)(w:Wp (f y) Q):Wp (((Am.cell h b o).bind g).bind f) Q:=by
 rw [d.au m e,aJ,eg]
 exact w
theorem bE{δ:Type}{x:Option δ}{g:δ->Option α}{y:α}{f:α->Option β}(e:x.bind g=some y)(w:Wp (f y) Q):Wp ((x.bind g).bind f) Q:=by rw [e];exact w
theorem bU{l:List Value}{f:List Value->Option β}(e:cM n v=some l)(w:Wp (f l) Q):Wp ((cM n v).bind f) Q:=by rw [e];exact w
theorem bo{a:Addr}{f:Addr->Option β}(w:Wp (f a) Q):Wp ((some a).bind f) Q:=w
theorem a1(d:Hs base Wr h0 h D R){g:Value->Option α}{y:α}{f:α->Option β}(w:Wp (f y) Q)(m:(b,t,cs)∈D:=by with_unfolding_all (repeat first|exact List.Mem.head _|apply List.Mem.tail))(e:cs[o]? = some v:=by with_unfolding_all exact rfl)(eg:g v=some y:=by with_unfolding_all exact rfl):Wp (((Am.cell h b o).bind g).bind f) Q:=rG d m e eg w
theorem a2{δ:Type}{x:Option δ}{g:δ->Option α}{y:α}{f:α->Option β}(w:Wp (f y) Q)(e:x.bind g=some y:=by with_unfolding_all exact rfl):Wp ((x.bind g).bind f) Q:=bE e w
theorem a3{l:List Value}{f:List Value->Option β}(w:Wp (f l) Q)(e:cM n v=some l:=by with_unfolding_all exact rfl):Wp ((cM n v).bind f) Q:=bU e w
theorem a5(d:Hs base Wr h0 h D R){new:List Value}{D':Ds}{f:AH->Option β}(w:∀ h1,Hs base Wr h0 h1 D' R->h1.length=h.length->KB (· = b) h h1->Wp (f h1) Q)(u:fz D (b,t,cs) (b,t,setAt cs o new) D':=by with_unfolding_all (repeat first|exact fz.here|apply fz.there))(hi:dC (o+new.length) cs.length=true:=by with_unfolding_all exact rfl)(hz:Nat.blt 0 new.length=true:=by with_unfolding_all exact rfl):Wp ((Am.wr base h b o new).bind f) Q:=wD d u hi hz w
theorem a6(d:Hs base Wr h0 h D R){U4:List Value}{Wr1:Fp}{h01:AH}{D1:Ds}{R1:List Rs}{x:Option β}(w:Wp x Q)(d1:Hs base Wr1 h01 h1 D1 R1:=by assumption)(m:(b,t,cs)∈D:=by with_unfolding_all (repeat first|exact List.Mem.head _|apply List.Mem.tail))(m1:(b,t,U4)∈D1:=by with_unfolding_all (repeat first|exact List.Mem.head _|apply List.Mem.tail))(e:(U4.drop o).take n=(cs.drop o).take n:=by with_unfolding_all exact rfl)(hl:dC (o+n) cs.length=true:=by with_unfolding_all exact rfl)(A1:dC (o+n) U4.length=true:=by with_unfolding_all exact rfl):Wp (gate (bc h1 h (some ⟨b,o,none⟩) n) x) Q:=gS d m d1 m1 e hl A1 w
theorem a7{x:Option β}(w:Wp x Q)(d:Hs base Wr h0 h D R:=by assumption)(m:(b,t,cs)∈D:=by with_unfolding_all (repeat first|exact List.Mem.head _|apply List.Mem.tail)):Wp (gate (fP (some ⟨b,o,none⟩) h.length) x) Q:=gN d m w
theorem a8{i n:Int}{a b:Option β}(w:Wp a Q)(h1:0<=i:=by first|omega|(dsimp only;omega))(h2:i<n:=by first|omega|(dsimp only;omega)):Wp (if 0<=i/\i<n then a else b) Q:=iB h1 h2 w
theorem jb(B:Bool)(d:Hs base Wr h0 h D R){x:Option (Sum (az×AH) β)}{k:az×AH->Option β}(w:Wp x (Sum.elim (λq=>q.1.dropLast=L/\q.1.getLast? = some (some (.bool B))/\KB bp h q.2) Q))(w2:∀ h1,Hs base Wr h0 h1 D R->h.length<=h1.length->Wp (k (L++[some (.bool B)],h1)) Q):Wp (x.bind λj=>bH j k) Q:=by
 refine W.kL _ w λq hq=>?_
 obtain ⟨q1,q2⟩:=q
 obtain ⟨e1,e2,k2⟩:=hq
 simp only at e1 e2 k2
 have:q1=L++[some (.bool B)]:=by
  rw [<- e1]
  rw [List.getLast?_eq_some_iff] at e2
  obtain ⟨ys,rfl⟩:=e2
  simp
 rw [this]
 exact w2 q2 (d.kN k2) k2.1
theorem jP(P:AH->Prop){x:Option (Sum (az×AH) β)}{k:az×AH->Option β}(w:Wp x (Sum.elim (λq=>q.1=L/\P q.2) Q))(w2:∀ h1,P h1->Wp (k (L,h1)) Q):Wp (x.bind λj=>bH j k) Q:=by
 refine W.kL _ w λq hq=>?_
 obtain ⟨q1,q2⟩:=q
 obtain ⟨e1,p⟩:=hq
 simp only at e1
 subst e1
 exact w2 q2 p
theorem lb{B:Bool}{q1:az}{h2:AH}(e1:q1.dropLast=L)(e2:q1.getLast? = some (some (.bool B)))(k:KB bp h1 h2):Wp (some (Sum.inl (q1,h2):Sum (az×AH) β)) (Sum.elim (λq=>q.1.dropLast=L/\q.1.getLast? = some (some (.bool B))/\KB bp h1 q.2) Q):=W.inl ⟨e1,e2,k⟩
end W
end
end Go.Proofs.YtkdenmdijdmnjaaGreat.Am
