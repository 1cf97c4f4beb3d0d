/- What the functions of this law compute, lemma by lemma, up to the law.
Conditions: none. -/
import Derived.Test.YtkdenmdijdmnjaaGreatP1
import Derived.IntWalk
import Derived.Laws.BitsLemmas
set_option linter.unusedSimpArgs false
set_option linter.unusedVariables false
namespace Go.Proofs.YtkdenmdijdmnjaaGreat.Am
open Go Go.RowKit
open _root_.Bool renaming and_eq_true->bz,false_or->iM,not_not->Yl,true_and->fx,true_or->lH
open _root_.ByteArray.toList renaming loop->NF
open _root_.Go.IntKind renaming wrap->ag
open _root_.Int renaming le_refl->gb,natCast_add->Yk,toNat_natCast->aM
open _root_.List renaming all_eq_true->ik,drop_eq_getElem_cons->dJ,drop_eq_nil_of_le->dZ,drop_succ_cons->zW,drop_zero->cH,ext_getElem?->io,forall_mem_cons->aA,getElem?_append_left->gE,getElem?_append_right->jL,getElem?_drop->bZ,getElem?_eq_getElem->bk,getElem?_eq_none->cE,getElem?_eq_some_iff->bY,getElem?_set_ne->qp,getElem?_take_of_lt->bJ,getElem_mem->aQ,length->ae,length_append->py,length_cons->g_,length_take->iV,map_append->Hi,mem_append->dQ,mem_append_left->ki,mem_append_right->mZ,mem_cons->bn,mem_iff_getElem->gk,mem_map->dR,mem_of_getElem?->dX,nodup_append->Hj,nodup_cons->mY,pairwise_append->iU,pairwise_cons->ib,range->dM,take_of_length_le->cG,take_succ_cons->ui,take_zero->uj
open _root_.Nat renaming add_assoc->bO,add_mul->mH,add_one_mul->Ad,lt_of_lt_of_le->cW,lt_or_ge->mO,lt_or_gt_of_ne->mV,min_eq_left->pB,mul_comm->yS,zero_add->cQ,zero_mul->yR
open _root_.Sum renaming inl->fX

variable{h h':AH}{A:Ac}{s:ByteArray}{C S:Fp}{k k' kind left n pc pid v:Int}{l:List Ac}{zs:List Int}{cs vs:List Value}{b0 b1 base bytes f f2 i lo m pb t w:Nat}{p:Nat->Prop}{a b c g:Option Addr}{α:Type}
theorem a_.one{b:Nat}{P:Fp->AH->α->List Value->Prop}{x:α}(hx:P S h x cs)(hS:¬S b)(hc:cs.length=w)(o:bQ base t h (ap b) cs):a_ base t w P (λy=>S y\/y=b) h [x] (ap b):=by
 refine ⟨cs,S,o,by simp [hc],λy hy=>?_,λy hy=>.inl hy,λq y=>q=0/\S y,λq y hy=>hy.2,λq j y hq hy hy'=>hq (hy.1.trans hy'.1.symm),λq z hz=>?_⟩
 ·rw [aG] at hy
  subst hy
  exact ⟨.inr rfl,hS⟩
 ·cases q with
  | zero=>
   simp at hz
   subst hz
   have ee:(λy=>(0:Nat)=0/\S y)=S:=by funext y;simp
   show P (λy=>(0:Nat)=0/\S y) h x (chunk w 0 cs)
   rw [ee,show chunk w 0 cs=cs from by simp only [chunk,yR,cH];exact cG (by omega)]
   exact hx
  | succ q=>simp at hz
theorem a_.qn{α:Type}{w:Nat}{P:Fp->AH->α->List Value->Prop}(kp:Kp P){base t bytes:Nat}{S C:Fp}{h:AH}{l:List α}{a:Option Addr}(x:a_ base t w P S h l a){y:α}{cs:List Value}(hy:P C h y cs)(hc:cs.length=w)(hw:0<w)(A0:cs.all leaf=true)(hC:∀ b,C b->¬S b)(wi:∀ b,C b->b<h.length)(pA:∀ b,S b->b<h.length)(hb:base<=h.length)(h1:(l.length+1)*bytes<=140737488355328)(h2:l.length+1<=9223372036854775807):
  ∃ a' h',Am.app base (h++[some ⟨cs,t⟩]) t w bytes a l.length (br (h++[some ⟨cs,t⟩]) (some ⟨h.length,0,none⟩) (1*w)) 1=some (.slice a' (l.length+1) (l.length+1),h')/\a_ base t w P (λb=>S b\/C b\/(h.length<=b/\b<h'.length)) h' (l++[y]) a'/\KB (bK a) h h'/\h.length+1<=h'.length:=by
 obtain ⟨vs,T,x1,x2,x3,x4,x5⟩:=x
 obtain ⟨a',h',e,o,k,d,n⟩:=Am.qn (bytes:=bytes) x1 x2 hc hw A0 hb h1 h2
 refine ⟨a',h',e,⟨vs++cs,λb=>T b\/C b,o,by simp [hc,x2,Ad],λb cy=>?_,λb cy=>cy.elim (λcy=>.inl (x4 b cy)) λcy=>.inr (.inl cy),?_⟩,k,n⟩
 ·have e:=d b cy
  have lt:=(o.lt cy).2
  subst e
  refine ⟨.inr (.inr ⟨by omega,lt⟩),λhh=>?_⟩
  rcases hh with hh|hh
  ·have:=pA _ (x4 _ hh);omega
  ·have:=wi _ hh;omega
 ·have c:=x5.snoc (ji:=vs++cs) (S':=λb=>T b\/C b) hy (λb hb cy=>hC b hb (x4 b cy)) (λb hb=>.inl hb) (λb hb=>.inr hb) (λq hq=>dc (by have:=dD (w:=w) hq;omega)) (eL hc x2)
  refine c.ax kp k λb hb hk=>?_
  rcases hb with hb|hb
  ·exact (x3 b hk).2 hb
  ·exact hC b hb (x3 b hk).1
section
section
variable {α:Type} {w:Nat} {P:Fp->AH->α->List Value->Prop}
theorem nF{w n:Nat}(hv:vs.length=n*w)(hi:n<=i):chunk w i (vs++cs)=chunk w (i-n) cs:=by
 have h:=Nat.mul_le_mul_right w hi
 rw [chunk,chunk,List.drop_append,dZ (by omega),List.nil_append,hv,Nat.sub_mul]
theorem bC.app{l l2:List α}{Dc:List Value}(x:bC w P S h l vs)(y:bC w P C h l2 Dc)(hv:vs.length=l.length*w)(hd:∀ b,S b->¬C b):bC w P (λb=>S b\/C b) h (l++l2) (vs++Dc):=by
 obtain ⟨A,a1,a2,a3⟩:=x
 obtain ⟨B,b1,b2,b3⟩:=y
 refine ⟨λi=>if i<l.length then A i else B (i-l.length),λi b hb=>?_,λi j b uM hi hj=>?_,λi z hz=>?_⟩
 ·simp only at hb
  split at hb
  ·exact .inl (a1 _ b hb)
  ·exact .inr (b1 _ b hb)
 ·simp only at hi hj
  split at hi
  ·split at hj
   ·exact a2 _ _ b uM hi hj
   ·exact hd b (a1 _ b hi) (b1 _ b hj)
  ·split at hj
   ·exact hd b (a1 _ b hj) (b1 _ b hi)
   ·exact b2 _ _ b (by omega) hi hj
 ·by_cases hi:i<l.length
  ·rw [gE hi] at hz
   have hle:=dD (w:=w) hi
   show P (if i<l.length then A i else B (i-l.length)) h z (chunk w i (vs++Dc))
   rw [if_pos hi,dc (by omega)]
   exact a3 i z hz
  ·rw [jL (by omega)] at hz
   show P (if i<l.length then A i else B (i-l.length)) h z (chunk w i (vs++Dc))
   rw [if_neg hi,nF hv (by omega)]
   exact b3 _ z hz
theorem bC.del{l:List α}(x:bC w P S h l vs)(hv:vs.length=l.length*w)(hi:i<l.length):
  ∃ C:Fp,P C h l[i] (chunk w i vs)/\(∀ b,C b->S b)/\bC w P (λb=>S b/\¬C b) h (l.take i++l.drop (i+1)) (vs.take (i*w)++vs.drop ((i+1)*w)):=by
 obtain ⟨A,a1,a2,a3⟩:=x
 have hle:=dD (w:=w) hi
 refine ⟨A i,a3 i _ (bk hi),a1 i,λq=>if q<i then A q else A (q+1),λq b hb=>?_,λq j b hq hb cy=>?_,λq z hz=>?_⟩
 ·simp only at hb
  split at hb
  ·exact ⟨a1 _ b hb,a2 _ _ b (by omega) hb⟩
  ·exact ⟨a1 _ b hb,a2 _ _ b (by omega) hb⟩
 ·simp only at hb cy
  split at hb
  ·split at cy
   ·exact a2 _ _ b hq hb cy
   ·exact a2 _ _ b (by omega) hb cy
  ·split at cy
   ·exact a2 _ _ b (by omega) hb cy
   ·exact a2 _ _ b (by omega) hb cy
 ·have hlv:(vs.take (i*w)).length=i*w:=by simp;omega
  by_cases hq:q<i
  ·rw [gE (by simp;omega),bJ hq] at hz
   have alx:=dD (w:=w) hq
   show P (if q<i then A q else A (q+1)) h z (chunk w q (vs.take (i*w)++vs.drop ((i+1)*w)))
   rw [if_pos hq,dc (by omega),chunk,List.drop_take,List.take_take,pB (by omega)]
   exact a3 q z hz
  ·rw [jL (by simp;omega),bZ] at hz
   have Hh:(l.take i).length=i:=by simp;omega
   rw [Hh,show i+1+(q-i)=q+1 from by omega] at hz
   show P (if q<i then A q else A (q+1)) h z (chunk w q (vs.take (i*w)++vs.drop ((i+1)*w)))
   rw [if_neg hq,nF hlv (by omega),chunk,List.drop_drop,<- mH,show i+1+(q-i)=q+1 from by omega]
   exact a3 _ z hz
theorem a_.ael(kp:Kp P){l l2:List α}{a2:Option Addr}(x:a_ base t w P S h l a){Dc:List Value}(hr:br h a2 (l2.length*w)=some Dc)(hv2:Dc.length=l2.length*w)(y:bC w P C h l2 Dc)(hw:0<w)(hC:∀ b,C b->¬S b)(wi:∀ b,C b->b<h.length)(pA:∀ b,S b->b<h.length)(hb:base<=h.length)(h1:(l.length+l2.length)*bytes<=140737488355328)(h2:l.length+l2.length<=9223372036854775807):
  ∃ a' h',Am.app base h t w bytes a l.length (br h a2 (l2.length*w)) l2.length=some (.slice a' (l.length+l2.length) (l.length+l2.length),h')/\a_ base t w P (λb=>S b\/C b\/(h.length<=b/\b<h'.length)) h' (l++l2) a'/\KB (bK a) h h':=by
 obtain ⟨vs,T,x1,x2,x3,x4,x5⟩:=x
 obtain ⟨a',h',e,o,k,d⟩:=bQ.app x1 (bytes:=bytes) (m:=l2.length) x2 hw hr hb h1 h2 hv2
 have cc:=x5.app y x2 (λb hb hc=>hC b hc (x4 b hb))
 have cc':=cc.ax kp k λb hb hk=>by
  rcases hb with hb|hb
  ·exact (x3 b hk).2 hb
  ·exact hC b hb (x3 b hk).1
 refine ⟨a',h',e,⟨vs++Dc,λb=>T b\/C b,o,by simp [x2,hv2,mH],λb cy=>?_,λb cy=>cy.elim (λh=>.inl (x4 b h)) (λh=>.inr (.inl h)),cc'⟩,k⟩
 rcases d with ⟨hm,rfl,rfl⟩|d
 ·refine ⟨.inl (x3 b cy).1,λhh=>?_⟩
  rcases hh with hh|hh
  ·exact (x3 b cy).2 hh
  ·exact hC b hh (x3 b cy).1
 ·have e1:=d b cy
  have lt:=(o.lt cy).2
  subst e1
  refine ⟨.inr (.inr ⟨Nat.le_refl _,lt⟩),λhh=>?_⟩
  rcases hh with hh|hh
  ·have:=pA _ (x4 _ hh);omega
  ·have:=wi _ hh;omega
theorem bC.leaf{T:Fp}{l:List α}(A0:∀ S h x cs,P S h x cs->cs.all leaf=true)(hw:0<w)(ch:bC w P T h l vs)(ev:vs.length=l.length*w):vs.all leaf=true:=by
 obtain ⟨C,_,_,c3⟩:=ch
 rw [ik]
 intro v hv
 obtain ⟨q,hq,rfl⟩:=gk.1 hv
 have hi:q / w<l.length:=Nat.div_lt_of_lt_mul (by rw [yS];omega)
 have hm:=A0 _ _ _ _ (c3 (q / w) _ (bk hi))
 rw [ik] at hm
 have akT:q % w<w:=Nat.mod_lt _ hw
 have hdm:q / w*w+q % w=q:=by rw [yS];exact Nat.div_add_mod q w
 refine hm _ (List.mem_iff_getElem?.2 ⟨q % w,?_⟩)
 rw [chunk,bJ akT,bZ,hdm,bk hq]
theorem a_.Nu{l:List α}(A0:∀ S h x cs,P S h x cs->cs.all leaf=true)(hw:0<w)(x:a_ base t w P S h l a):∃ vs T,br h a (l.length*w)=some vs/\vs.length=l.length*w/\Sl h a vs/\(∀ b,T b->S b)/\(∀ b,bK a b->S b/\¬T b)/\bC w P T h l vs:=by
 obtain ⟨vs,T,x1,x2,x3,x4,x5⟩:=x
 exact ⟨vs,T,by rw [<- x2];exact x1.sl.BK (x5.leaf A0 hw x2),x2,x1.sl,x4,x3,x5⟩
end
end
section
def yb(D:Ds)(R:List Rs):Fp:=λb=>(∃ x∈D,x.1=b)\/∃ r∈R,r.mu=true/\r.S b
namespace Hs
variable {base:Nat} {W:Fp} {h0 h:AH} {D:Ds} {R:List Rs}
theorem tl{x:Nat×Nat×List Value}(d:Hs base W h0 h (x :: D) R):Hs base W h0 h D R:=
 ⟨d.ge,d.kb,λy hy=>d.own y (.tail _ hy),(mY.1 d.nd).2,λr hr=>by
  obtain ⟨r1,r2,r3,r4,r5⟩:=d.iH r hr
  exact ⟨r1,r2,r3,r4,λy hy=>r5 y (.tail _ hy)⟩,d.dj⟩
theorem kP(d:Hs base W h0 h D R)(n:Nat):Hs base W h0 h D (R.take n):=
 ⟨d.ge,d.kb,d.own,d.nd,λr hr=>d.iH r (List.mem_of_mem_take hr),d.dj.sublist (List.take_sublist _ _)⟩
theorem front{x:Nat×Nat×List Value}{D':Ds}(d:Hs base W h0 h D R)(u:gJ D x D'):Hs base W h0 h (x :: D') R:=by
 obtain ⟨n1,n2⟩:=u.vz d.nd
 refine ⟨d.ge,d.kb,λy hy=>?_,?_,λr hr=>?_,d.dj⟩
 ·rcases bn.1 hy with rfl|hy
  ·exact d.own _ u.mem
  ·exact d.own y (u.of y hy)
 ·rw [List.map_cons,mY]
  refine ⟨λhm=>?_,n1⟩
  obtain ⟨y,hy,e⟩:=dR.1 hm
  exact n2 y hy e
 ·obtain ⟨r1,r2,r3,r4,r5⟩:=d.iH r hr
  refine ⟨r1,r2,r3,r4,λy hy=>?_⟩
  rcases bn.1 hy with rfl|hy
  ·exact r5 _ u.mem
  ·exact r5 y (u.of y hy)
theorem akU{l l':List Rs}{r:Rs}(u:gJ l r l')(p:l.Pairwise Rs.dj):(r :: l').Pairwise Rs.dj:=by
 induction u with
 | here=>exact p
 | @there x z l l' u ih=>
  rw [ib] at p
  have:=ih p.2
  rw [ib] at this ⊢
  refine ⟨λs hs=>?_,?_⟩
  ·rcases bn.1 hs with rfl|hs
   ·exact (p.1 _ u.mem).symm
   ·exact this.1 s hs
  ·rw [ib]
   exact ⟨λs hs=>p.1 s (u.of s hs),this.2⟩
theorem cJ{r:Rs}{R':List Rs}(d:Hs base W h0 h D R)(u:gJ R r R'):Hs base W h0 h D (r :: R'):=by
 refine ⟨d.ge,d.kb,d.own,d.nd,λs hs=>?_,akU u d.dj⟩
 rcases bn.1 hs with rfl|hs
 ·exact d.iH _ u.mem
 ·exact d.iH s (u.of s hs)
theorem part{D1 D2:Ds}{R1 R2:List Rs}(d:Hs base W h0 h (D1++D2) (R1++R2)):Hs base (yb D1 R1) h h D1 R1:=by
 refine ⟨d.ge,KB.refl _ _,λx hx=>⟨(d.own x (ki _ hx)).1,.inl (.inl ⟨x,hx,rfl⟩)⟩,?_,λr hr=>?_,(iU.1 d.dj).1⟩
 ·have:=d.nd
  rw [Hi] at this
  exact (Hj.1 this).1
 ·obtain ⟨r1,r2,r3,r4,r5⟩:=d.iH r (ki _ hr)
  exact ⟨r1,r2,r3,λm b hb=>.inl (.inr ⟨r,hr,m,hb⟩),λx hx=>r5 x (ki _ hx)⟩
theorem back{D1 D2 D1':Ds}{R1 R2 R1':List Rs}(d:Hs base W h0 h (D1++D2) (R1++R2))(d':Hs base (yb D1 R1) h h' D1' R1')(him:∀ r∈R1',r.mu=false->∃ r0∈R1,r0.mu=false/\r0.S=r.S):Hs base W h0 h' (D1'++D2) (R1'++R2):=by
 have nd:=d.nd
 rw [Hi] at nd
 obtain ⟨nd1,nd2,nd3⟩:=Hj.1 nd
 obtain ⟨p1,p2,p3⟩:=iU.1 d.dj
 have n0:=d.kb.1
 have wW:∀ b,yb D1 R1 b->W b\/h0.length<=b:=by
  rintro b (⟨x,hx,rfl⟩|⟨r,hr,m,hb⟩)
  ·exact (d.own x (ki _ hx)).2
  ·exact (d.iH r (ki _ hr)).2.2.2.1 m b hb
 have wlt:∀ b,yb D1 R1 b->b<h.length:=by
  rintro b (⟨x,hx,rfl⟩|⟨r,hr,m,hb⟩)
  ·exact ((d.own x (ki _ hx)).1.lt (aG.2 rfl)).2
  ·exact (d.iH r (ki _ hr)).2.2.1 b hb
 have wD2:∀ x∈D2,¬yb D1 R1 x.1:=by
  rintro x hx (⟨y,hy,e⟩|⟨r,hr,m,hb⟩)
  ·exact nd3 _ (dR.2 ⟨y,hy,rfl⟩) _ (dR.2 ⟨x,hx,rfl⟩) e
  ·exact (d.iH r (ki _ hr)).2.2.2.2 x (mZ _ hx) hb
 have wR2:∀ s∈R2,∀ b,s.S b->¬yb D1 R1 b:=by
  rintro s hs b hb (⟨y,hy,rfl⟩|⟨r,hr,m,cy⟩)
  ·exact (d.iH s (mZ _ hs)).2.2.2.2 y (ki _ hy) hb
  ·exact p3 r hr s hs (by rw [m];rfl) b cy hb
 have aem:∀ x∈D2,x.1<h.length:=λx hx=>((d.own x (mZ _ hx)).1.lt (aG.2 rfl)).2
 have akV:∀ s∈R2,∀ b,s.S b->b<h.length:=λs hs=>(d.iH s (mZ _ hs)).2.2.1
 have nn:=d'.kb.1
 refine ⟨d'.ge,KB.trans d.kb d'.kb (λ_ _ h=>h) (λi hi hw=>(wW i hw).resolve_right (by omega)),λx hx=>?_,?_,λr hr=>?_,?_⟩
 ·rcases dQ.1 hx with hx|hx
  ·obtain ⟨o,hw⟩:=d'.own x hx
   exact ⟨o,hw.elim (wW _) λh=>.inr (by omega)⟩
  ·obtain ⟨o,hw⟩:=d.own x (mZ _ hx)
   exact ⟨o.ax d'.kb λb hb hu=>wD2 x hx ((aG.1 hb) ▸ hu),hw⟩
 ·rw [Hi,Hj]
  refine ⟨d'.nd,nd2,λa ha b hb e=>?_⟩
  obtain ⟨x,hx,rfl⟩:=dR.1 ha
  obtain ⟨y,hy,rfl⟩:=dR.1 hb
  rcases (d'.own x hx).2 with hw|hw
  ·exact wD2 y hy (e ▸ hw)
  ·have:=aem y hy;omega
 ·rcases dQ.1 hr with hr|hr
  ·obtain ⟨r1,r2,r3,r4,r5⟩:=d'.iH r hr
   refine ⟨r1,r2,r3,λm b hb=>(r4 m b hb).elim (wW b) λh=>.inr (by omega),λx hx hb=>?_⟩
   rcases dQ.1 hx with hx|hx
   ·exact r5 x hx hb
   ·cases hm:r.mu with
    | true=>
     rcases r4 hm _ hb with hw|hw
     ·exact wD2 x hx hw
     ·have:=aem x hx;omega
    | false=>
     obtain ⟨r0,VC,_,e⟩:=him r hr hm
     rw [<- e] at hb
     exact (d.iH r0 (ki _ VC)).2.2.2.2 x (mZ _ hx) hb
  ·obtain ⟨r1,r2,r3,r4,r5⟩:=d.iH r (mZ _ hr)
   refine ⟨r2 _ _ _ d'.kb (wR2 r hr) r1,r2,λb hb=>cW (r3 b hb) nn,r4,λx hx hb=>?_⟩
   rcases dQ.1 hx with hx|hx
   ·rcases (d'.own x hx).2 with hw|hw
    ·exact wR2 r hr _ hb hw
    ·have:=r3 _ hb;omega
   ·exact r5 x (mZ _ hx) hb
 ·rw [iU]
  refine ⟨d'.dj,p2,λr hr s hs e b h1 h2=>?_⟩
  cases hm:r.mu with
  | true=>
   rcases (d'.iH r hr).2.2.2.1 hm b h1 with hw|hw
   ·exact wR2 s hs b h2 hw
   ·have:=akV s hs b h2;omega
  | false=>
   obtain ⟨r0,VC,_,e0⟩:=him r hr hm
   rw [hm,iM] at e
   rw [<- e0] at h1
   exact p3 r0 VC s hs (by rw [e];simp) b h1 h2
theorem qn{j nb:Nat}{P:Fp->AH->α->List Value->Prop}{l:List α}{y:α}(d:Hs base W h0 h D R)(kp:Kp P)(ei:R[i]? = some ⟨S,true,λx=>a_ base t w P S x l a⟩)(ej:R[j]? = some ⟨C,true,λx=>P C x y cs⟩)(uM:i≠j)(m:(nb,t,cs)∈D)(hc:cs.length=w)(hw:0<w)(A0:cs.all leaf=true)(h1:(l.length+1)*bytes<=140737488355328)(h2:l.length+1<=9223372036854775807):
  ∃ a' h' S',Am.app base h t w bytes a l.length (br h (ap nb) (1*w)) 1=some (.slice a' (l.length+1) (l.length+1),h')/\Hs base W h0 h' D ((R.set j ⟨λ_=>False,true,λ_=>True⟩).set i ⟨S',true,λx=>a_ base t w P S' x (l++[y]) a'⟩)/\(∀ b,S' b->S b\/C b\/(h.length<=b/\b<h'.length))/\h.length<=h'.length/\KB S h h':=by
 have row:a_ base t w P S h l a:=d.rs ei
 have hy:P C h y cs:=d.rs ej
 have o:=d.ol m
 obtain ⟨vs,T,x1,x2,x3,x4,x5⟩:=row
 have wF:a_ base t w P S h l a:=⟨vs,T,x1,x2,x3,x4,x5⟩
 have jC:br h (ap nb) (([y]:List α).length*w)=some cs:=by
  have:=o.sl.BK A0
  rw [hc] at this
  simpa using this
 have hd:∀ b,C b->¬S b:=by
  have hm1:=dX ei
  have De:=dX ej
  have aen:∀ {l:List Rs} {i j:Nat} {r s:Rs},l.Pairwise Rs.dj->i<j->l[i]? = some r->l[j]? = some s->r.dj s:=fun {l i j r s} p aS hr hs=>by
   obtain ⟨hi,rfl⟩:=bY.1 hr
   obtain ⟨hj,rfl⟩:=bY.1 hs
   exact List.pairwise_iff_getElem.1 p i j hi hj aS
  rcases mV uM with aS|uC
  ·exactλb h1 h2=>aen d.dj aS ei ej rfl b h2 h1
  ·exactλb h1 h2=>aen d.dj uC ej ei rfl b h1 h2
 obtain ⟨a',h',e,r',k⟩:=wF.ael kp (bytes:=bytes) (a2:=ap nb) (l2:=[y]) jC (by simpa using hc) (⟨λq b=>q=0/\C b,λq b hb=>hb.2,λq j b hq hb cy=>hq (hb.1.trans cy.1.symm),λq z hz=>by
  cases q with
  | zero=>
   simp at hz
   subst hz
   have ee:(λb=>(0:Nat)=0/\C b)=C:=by funext b;simp
   show P (λb=>(0:Nat)=0/\C b) h y (chunk w 0 cs)
   rw [ee,show chunk w 0 cs=cs from by simp only [chunk,yR,cH];exact cG (by omega)]
   exact hy
  | succ q=>simp at hz⟩:bC w P C h [y] cs) hw hd (d.fK ej) (d.fK ei) d.ge h1 h2
 refine ⟨a',h',_,e,?_,λb hb=>hb,k.1,k.mono λb _ hb=>(x3 b hb).1⟩
 have ei':(R.set j ⟨λ_=>False,true,λ_=>True⟩)[i]? = some ⟨S,true,λx=>a_ base t w P S x l a⟩:=by rw [qp (by omega)];exact ei
 exact d.oT kp (fz.at ej) (fz.at ei') rfl rfl k r' (λb hb=>.inl (x3 b hb).1) λb hb=>by
  rcases hb with hb|hb|hb
  ·exact .inl hb
  ·exact .inr (.inl hb)
  ·exact .inr (.inr hb)
theorem Nv{nb n:Nat}{dp:List Value}(d:Hs base W h0 h D R)(ei:R[i]? = some ⟨S,true,λx=>bQ base t x a dp⟩)(hS:∀ b,bK a b->S b)(m:(nb,t,cs)∈D)(hc:cs.length=w)(hw:0<w)(hn:dp.length=n*w)(A0:cs.all leaf=true)(h1:(n+1)*bytes<=140737488355328)(h2:n+1<=9223372036854775807):
  ∃ a' h',Am.app base h t w bytes a n (br h (ap nb) (1*w)) 1=some (.slice a' (n+1) (n+1),h')/\Hs base W h0 h' D (R.set i ⟨bK a',true,λx=>bQ base t x a' (dp++cs)⟩)/\(∀ b,bK a' b->b=h.length)/\KB S h h'/\h.length<h'.length:=by
 have jC:br h (ap nb) (1*w)=some cs:=by
  have:=(d.ol m).sl.BK A0
  rw [hc] at this
  simpa using this
 obtain ⟨a',h',e,o,k,q⟩:=bQ.app (x:=d.rs ei) (bytes:=bytes) (m:=1) hn hw jC d.ge h1 h2 (by omega)
 have q:∀ b,bK a' b->b=h.length:=q.resolve_left λh=>by omega
 have dv:cs≠[]:=by intro e;subst e;simp at hc;omega
 have aS:h.length<h'.length:=by
  have o':=o
  rcases o' with ⟨_,e⟩|⟨ad,kk,e,_⟩
  ·exact absurd (List.append_eq_nil_iff.1 e).2 dv
  ·have hb:bK a' ad.block:=⟨ad,e,rfl⟩
   have:=q _ hb
   have:=(o.lt hb).2
   omega
 have k:KB S h h':=k.mono λb _ hb=>hS b hb
 exact ⟨a',h',e,d.Ns (fz.at ei) rfl rfl k (λb hb=>.inl hb) o (λU y y' ky hs x=>x.ax ky hs) (λb hb=>.inr ⟨by have:=q b hb;omega,(o.lt hb).2⟩),q,k,aS⟩
end Hs
section
variable {α:Type} {w:Nat} {P:Fp->AH->α->List Value->Prop}
theorem a_.mod(kp:Kp P){l:List α}(x:a_ base t w P S h l a)(hw:0<w)(hi:i<l.length)(hS:∀ b,S b->b<h.length):
  ∃ C cs ad,P C h l[i] cs/\cs.length=w/\a=some ad/\(∀ j v,cs[j]? = some v->Am.cell h ad.block (ad.off+i*w+j)=some v)/\(∀ b,C b->S b)/\S ad.block/\¬C ad.block /\
   ∀ (U C':Fp) (h1:AH) (fy new:List Value) (j:Nat) (y:α),KB U h h1->(∀ b,U b->S b->C b)->j+new.length<=w->0<new.length->fy=setAt cs j new->(∀ h2,KB (· = ad.block) h1 h2->P C' h2 y fy)->(∀ b,C' b->S b->C b) ->
    ∃ h2,Am.wr base h1 ad.block (ad.off+i*w+j) new=some h2/\a_ base t w P (λb=>S b\/C' b) h2 (l.set i y) a/\KB (· = ad.block) h1 h2/\h2.length=h1.length:=by
 obtain ⟨vs,T,x1,x2,x3,x4,A,a1,a2,a3⟩:=x
 have hle:=dD (w:=w) hi
 have dv:vs≠[]:=by intro e;subst e;simp at x2;omega
 rcases x1 with ⟨_,e⟩|⟨ad,k,e1,e2,e3,e4,e5,e6⟩
 ·exact absurd e dv
 subst e1
 have zG:=x3 ad.block ⟨ad,rfl,rfl⟩
 refine ⟨A i,chunk w i vs,ad,a3 i _ (bk hi),kC x2 hi,rfl,λj v hj=>?_,λb hb=>x4 b (a1 i b hb),zG.1,λhb=>zG.2 (a1 i _ hb),?_⟩
 ·have hjw:j<w:=by have:=(bY.1 hj).1;rw [kC x2 hi] at this;exact this
  rw [chunk,bJ hjw,bZ] at hj
  have:=e6 _ _ hj
  rw [bO]
  simp [Am.cell,e3,this]
 ·intro U C' h1 fy new j y k1 hU hj hn xj hP hC'
  have jM:¬U ad.block:=λhu=>zG.2 (a1 i _ (hU _ hu zG.1))
  have o1:bQ base t h1 (some ad) vs:=(bQ.ax (.inr ⟨ad,k,rfl,e2,e3,e4,e5,e6⟩:bQ base t h (some ad) vs) k1 λb hb hu=>by
   obtain ⟨rv,e,eb⟩:=hb
   injection e with e
   subst e
   subst eb
   exact jM hu)
  obtain ⟨rv,h2,e,w1,w2,w3,w4⟩:=bQ.wr o1 (i:=i*w+j) (new:=new) (by omega) hn
  injection e with e
  subst e
  have k2:KB (· = ad.block) h1 h2:=w3.mono λb _ hb=>by obtain ⟨rv,e,eb⟩:=hb;injection e with e;subst e;exact eb.symm
  refine ⟨h2,by rw [bO];exact w1,⟨setAt vs (i*w+j) new,λb=>T b\/C' b,w2,by simp [setAt];omega,λb hb=>⟨.inl (x3 b hb).1,λhh=>?_⟩,λb hb=>hb.elim (λh=>.inl (x4 b h)) .inr,λq=>if q=i then C' else A q,λq b hb=>?_,λq q2 b hq hb cy=>?_,λq z hz=>?_⟩,k2,w4⟩
  ·rcases hh with hh|hh
   ·exact (x3 b hb).2 hh
   ·exact (x3 b hb).2 (a1 i b (hC' b hh (x3 b hb).1))
  ·simp only at hb
   split at hb
   ·exact .inr hb
   ·exact .inl (a1 q b hb)
  ·simp only at hb cy
   split at hb
   ·split at cy
    ·omega
    ·exact a2 _ _ b (by omega) (hC' b hb (x4 b (a1 _ b cy))) cy
   ·split at cy
    ·exact a2 _ _ b (by omega) hb (hC' b cy (x4 b (a1 _ b hb)))
    ·exact a2 _ _ b hq hb cy
  ·have nI:(chunk w i vs).length=w:=kC x2 hi
   by_cases e:q=i
   ·subst e
    rw [List.getElem?_set_self hi] at hz
    injection hz with hz
    subst hz
    have ee:(if q=q then C' else A q)=C':=if_pos rfl
    show P (if q=q then C' else A q) h2 y (chunk w q (setAt vs (q*w+j) new))
    rw [ee]
    have ec:chunk w q (setAt vs (q*w+j) new)=fy:=by
     rw [xj]
     apply io
     intro u
     by_cases hu:u<w
     ·rw [chunk,bJ hu,bZ,cY (by omega),cY (by omega)]
      by_cases Eb:j<=u/\u<j+new.length
      ·rw [if_pos (by omega),if_pos (by omega),show q*w+u-(q*w+j)=u-j from by omega]
      ·rw [if_neg (by omega),if_neg (by omega),chunk,bJ hu,bZ]
     ·rw [cE (by simp [chunk];omega),cE (by simp [setAt];omega)]
    rw [ec]
    exact hP h2 k2
   ·rw [qp (by omega)] at hz
    have ee:(if q=i then C' else A q)=A q:=if_neg e
    show P (if q=i then C' else A q) h2 z (chunk w q (setAt vs (i*w+j) new))
    rw [ee]
    have ec:chunk w q (setAt vs (i*w+j) new)=chunk w q vs:=by
     apply io
     intro u
     by_cases hu:u<w
     ·rw [chunk,chunk,bJ hu,bJ hu,bZ,bZ,cY (by omega),if_neg]
      intro hh
      rcases mV e with aS|uC
      ·have:=dD (w:=w) aS;omega
      ·have:=dD (w:=w) uC;omega
     ·rw [cE (by simp [chunk];omega),cE (by simp [chunk];omega)]
    rw [ec]
    refine kp _ _ _ _ _ _ k2 (λb hb hk=>?_) (kp _ _ _ _ _ _ k1 (λb hb hu=>?_) (a3 q z hz))
    ·subst hk;exact zG.2 (a1 q _ hb)
    ·exact a2 _ _ b e hb (hU b hu (x4 b (a1 q b hb)))
end
end
theorem tK{l:List In}(hL:∀ x∈l,x.s.size<=9223372036854775807)(hl:l.length<=9223372036854775807)(hc:Sl h c (cV l))(hM:Nj A)(x:rH h p f A cs)(hb:base<=h.length):
  ∃ h',run (Et base) 43 [.slice c l.length l.length,.agg cs.toArray] h=some (.bool (jr f l A),h')/\KB bp h h':=by
 obtain ⟨a,b,g,rfl,hr,hx,hk,_⟩:=x
 obtain ⟨m1,m2,m3⟩:=hM
 obtain ⟨o1,k1,q1⟩:=aI (base:=base) (t:=53) (h:=h) (cs:=de A.pid A.pc a A.aH.length b A.box.length g A.aw.length) hb rfl
 generalize da:h++[some (⟨de A.pid A.pc a A.aH.length b A.box.length g A.aw.length,53⟩:df)]=h1 at o1 k1 q1
 obtain ⟨h2,e2,k2⟩:=oS (base:=base) hL hl (hc.aj k1) (by omega)
 have n2:=k2.1
 have o2:=o1.aj k2
 have dH:=kN k1 k2
 obtain ⟨h3,e3,k3⟩:=te (base:=base) m1 (hr.ax dH λ_ _ h=>h) (by omega)
 have n3:=k3.1
 have o3:=o2.aj k3
 have fg:=kN dH k3
 obtain ⟨h4,e4,k4⟩:=te (base:=base) m2 (hx.ax fg λ_ _ h=>h) (by omega)
 have o4:=o3.aj k4
 have oL:=kN fg k4
 have e5:=Dy (base:=base) (v:=A.pid) m3 (hk.aj oL)
 have e6:=cU (base:=base) (h:=h2) (x:=A.pid) (a:=1) (b:=99999)
 have e7:=cU (base:=base) (h:=h2) (x:=A.pc) (a:=0) (b:=ag .i64 ((l.length:Int)-(1:Int)))
 have hJ:∃ J:Bool,(codeOk l&&(dx A.pid 1 99999&&(dx A.pc 0 (ag .i64 ((l.length:Int)-(1:Int)))&&(((A.aH.length:Int)==(8:Int))&&decide ((A.box.length:Int)<=(30:Int))))))=J:=⟨_,rfl⟩
 obtain ⟨J,hJ⟩:=hJ
 have ev:jr f l A=(J&&(uk f A.aH&&(uk f A.box&&pL A.aw A.pid))):=by
  rw [<- hJ]
  unfold jr
  cases codeOk l<;>cases dx A.pid 1 99999<;>cases dx A.pc 0 (ag .i64 ((l.length:Int)-(1:Int)))<;>cases ((A.aH.length:Int)==(8:Int))<;>cases uk f A.aH<;>cases decide ((A.box.length:Int)<=(30:Int))<;>rfl
 rw [ev]
 have start:∀ {r:Value×AH},_=some r->run (Et base) 43 [.slice c l.length l.length,.agg (de A.pid A.pc a A.aH.length b A.box.length g A.aw.length).toArray] h=some r:=fun {r} hr=>Am.r43 (lets λy ey=>(by
  rw [ey,da]
  refine bj (q:=([some (.pointer (ap h.length)),some (.bool (!J))],h2)) ?_ (bs rfl (bB rfl hr))
  refine bs e2 (bB rfl ?_)
  rw [<- hJ]
  cases codeOk l with
  | false=>exact aE rfl rfl
  | true=>
   refine aU (by decide) (bI (o2.ap (i:=0) rfl) (bs e6 (bB rfl ?_)))
   cases dx A.pid 1 99999 with
   | false=>exact aE rfl rfl
   | true=>
    refine aU (by decide) (bI (o2.ap (i:=1) rfl) (bs e7 (bB rfl ?_)))
    cases dx A.pc 0 (ag .i64 ((l.length:Int)-(1:Int))) with
    | false=>exact aE rfl rfl
    | true=>
     refine aU (by decide) (bS (o2.ap (i:=2) rfl) ?_)
     cases c4:(A.aH.length:Int)==(8:Int) with
     | false=>exact aE (by simp [bne,c4]) rfl
     | true=>
      refine aU (by simp [bne,c4]) (bS (o2.ap (i:=3) rfl) ?_)
      by_cases c6:(A.box.length:Int)<=30
      ·rw [decide_eq_true c6,decide_eq_false (by omega)];rfl
      ·rw [decide_eq_false c6,decide_eq_true (by omega)];rfl))
 cases J with
 | false=>exact ⟨h2,start (aE rfl rfl),dH⟩
 | true=>
  cases c5:uk f A.aH with
  | false=>rw [c5] at e3;exact ⟨h3,start (aU (by decide) (bS (o2.ap (i:=2) rfl) (bs e3 (bB rfl (aU (by decide) rfl))))),fg⟩
  | true=>
   rw [c5] at e3
   cases c7:uk f A.box with
   | false=>rw [c7] at e4;exact ⟨h4,start (aU (by decide) (bS (o2.ap (i:=2) rfl) (bs e3 (bB rfl (aE rfl (bS (o3.ap (i:=3) rfl) (bs e4 (bB rfl (aU (by decide) rfl))))))))),oL⟩
   | true=>rw [c7] at e4;exact ⟨h4,start (aU (by decide) (bS (o2.ap (i:=2) rfl) (bs e3 (bB rfl (aE rfl (bS (o3.ap (i:=3) rfl) (bs e4 (bB rfl (aE rfl (bS (o4.ap (i:=4) rfl) (bI (o4.ap (i:=0) rfl) (bs e5 (bB rfl rfl))))))))))))),oL⟩
set_option maxRecDepth 100000 in
theorem DA{u:Value}(x:Rd Tryz.prog h f 72 [u]):∃ a l,u = .slice a (ae l) (ae l)/\l.length<=maxLen/\iQ h (· < h.length) f l a:=by
 have cT:Tryz.prog.cellsOf 77=4:=by kernel_rfl
 match f,x with
 | 0,x=>exact x.elim
 | f+1,x=>
  simp only [Rd,Tryz.underlying72] at x
  obtain ⟨a,n,vs,e,h2,h3,h4,h5⟩:=x
  injection e with e _
  subst e
  rw [cT] at h4 h5
  have each:∀ i,i<n->∃ t,cD h (· < h.length) f t ((vs.drop (i*4)).take 4):=λi hi=>Hf f _ (h5 i hi)
  let g:Nat->Tm:=λi=>if hi:i<n then (each i hi).choose else .mk 0 0 ⟨#[]⟩ []
  have hg:∀ i,i<n->cD h (· < h.length) f (g i) ((vs.drop (i*4)).take 4):=by
   intro i hi
   simp only [g,hi,dite_true]
   exact (each i hi).choose_spec
  refine ⟨a,(dM n).map g,by simp,by simpa using h2,vs,h3,l_ h3,by simpa using h4,λi t hi=>?_⟩
  have aS:i<n:=by have:=(bY.1 hi).1;simpa using this
  simp [aS] at hi
  subst hi
  exact cD.up _ _ _ (hg i aS)
def js(h:AH)(p:Nat->Prop)(f:Nat)(l:List Ac)(a:Option Addr):Prop:=
 ∃ vs,Sl h a vs/\(vs = []\/∀ b,bK a b->p b)/\vs.length=l.length*5/\∀ i x,l[i]? = some x->rH h p f x (chunk 5 i vs)
theorem js.ax{h h':AH}{p S:Nat->Prop}(k:KB S h h')(hp:∀ b,p b->¬S b){f:Nat}{l:List Ac}{a:Option Addr}(x:js h p f l a):js h' p f l a:=by
 obtain ⟨vs,h4,h5,h6,h7⟩:=x
 refine ⟨vs,?_,h5,h6,λi t hi=>(h7 i t hi).ax k hp⟩
 rcases h5 with e|h5
 ·exact .inl e
 ·exact h4.ax k λb hb hs=>hp b (h5 b hb) hs
theorem js.aj(k:KB bp h h')(x:js h p f l a):js h' p f l a:=x.ax k λ_ _ h=>h
theorem rH.mono{h:AH}{p q:Nat->Prop}(Kc:∀ b,p b->q b){f:Nat}{A:Ac}{cs:List Value}(x:rH h p f A cs):rH h q f A cs:=by
 obtain ⟨a,b,g,e,h1,h2,h3,h4⟩:=x
 exact ⟨a,b,g,e,h1.mono Kc,h2.mono Kc,h3,h4.imp id λk y hy=>Kc y (k y hy)⟩
theorem fk.wj(x:fk 5 (wh base f) S h l a):js h S f l a:=by
 obtain ⟨vs,T,x1,x2,x3,x4,C,c1,c2,c3⟩:=x
 exact ⟨vs,x1,x3.imp id λg b hb=>(g b hb).1,x2,λi t hi=>(c3 i t hi).Qp.mono λb hb=>x4 b (c1 i b hb)⟩
theorem a_.wj{base t f:Nat}{S:Fp}{h:AH}{l:List Ac}{a:Option Addr}(x:a_ base t 5 (b_ base f) S h l a):js h S f l a:=(x.d.imp λ_ _ _ _=>b_.acD).wj
theorem js.get{al:Option Addr}(x:js h p f l al)(hi:i<l.length):
  ∃ ad a b g,al=some ad/\ad.block<h.length/\Am.cell h ad.block (ad.off+i*5)=some (.int .i64 l[i].pid)/\Am.cell h ad.block (ad.off+i*5+1)=some (.int .i64 l[i].pc)/\Am.cell h ad.block (ad.off+i*5+1+1)=some (.slice a l[i].aH.length l[i].aH.length) /\
   Am.cell h ad.block (ad.off+i*5+1+1+1)=some (.slice b l[i].box.length l[i].box.length)/\Am.cell h ad.block (ad.off+i*5+1+1+1+1)=some (.slice g l[i].aw.length l[i].aw.length) /\
   rH h p f l[i] (de l[i].pid l[i].pc a l[i].aH.length b l[i].box.length g l[i].aw.length)/\Sl h g (iv .i64 l[i].aw):=by
 obtain ⟨vs,h4,h5,h6,h7⟩:=x
 have aS:i*5+4<vs.length:=by omega
 have hm:=h7 i l[i] (bk hi)
 obtain ⟨a,b,g,bV,q1,q2,q3,q4⟩:=hm
 have each:∀ (j:Nat) (v:Value),(de l[i].pid l[i].pc a l[i].aH.length b l[i].box.length g l[i].aw.length)[j]? = some v->vs[i*5+j]? = some v:=by
  intro j v hv
  have hj:j<5:=by have:=(bY.1 hv).1;simpa using this
  rw [<- bV] at hv
  unfold chunk at hv
  rw [bJ hj,bZ] at hv
  exact hv
 rcases h4 with e|⟨ad,kk,e1,e2,e3,e4⟩
 ·subst e;simp at aS
 ·have c:∀ (j:Nat) (v:Value),(de l[i].pid l[i].pc a l[i].aH.length b l[i].box.length g l[i].aw.length)[j]? = some v->Am.cell h ad.block (ad.off+i*5+j)=some v:=by
   intro j v hv
   have:=e4 _ _ (each j v hv)
   rw [bO]
   simp [Am.cell,e2,this]
  exact ⟨ad,a,b,g,e1,di e2,c 0 _ rfl,c 1 _ rfl,c 2 _ rfl,c 3 _ rfl,c 4 _ rfl,⟨a,b,g,rfl,q1,q2,q3,q4⟩,q3⟩
def FI(f:Nat)(A:Ac):Nat:=A.aH.length+dt (eH f) A.aH+(A.box.length+dt (eH f) A.box)+A.aw.length
theorem wT(hl:l.length<=1048576)(hM:∀ x∈l,Nj x):∀ (d i:Nat) (h:AH) (left:Int),i+d=l.length->js h p f l a->base<=h.length->(∀ b,p b->b<h.length)->0<=left->left<=1048576 ->
  ∃ e z h',aF (GL base) [some (.slice a l.length l.length),some (.int .i64 left),some (.int .i64 (i:Int))] h=some (e,[some (.int .i64 z)],h')/\(e=1\/e=2)/\KB bp h h'/\z<=left/\-1<=z/\(¬z<0->(∀ j x,i<=j->l[j]? = some x->x_ f x)/\z+(dt (FI f) (l.drop i):Int)<=left):=by
 intro d
 induction d with
 | zero=>
  intro i h left hi hs hb hp h0 h1
  refine ⟨2,left,h,?_,.inr rfl,KB.refl _ _,gb _,by omega,λ_=>⟨λj t hj vn=>?_,by rw [show l.drop i = [] from dZ (by omega)];simp [dt]⟩⟩
  ·refine aC (by decide) ?_
   rw [B4]
   exact aU (by simp;omega) rfl
  ·have:=(bY.1 vn).1;omega
 | succ d fJ=>
  intro i h left hi hs hb hp h0 h1
  have aS:i<l.length:=by omega
  obtain ⟨ad,x1,x2,x3,rfl,eN,g0,g1,g2,g3,g4,hm,_⟩:=hs.get aS
  obtain ⟨z,h',e1,k1,z1,z2,z3⟩:=Dn (base:=base) (hM _ (aQ aS)) hm hb hp h0 h1
  have step:∀ r,(if (decide (z<(0:Int)))=true then
    some (1,[some (Value.int .i64 (-1:Int))],h')
   else
    some (0,[some (.slice (some ad) l.length l.length),some (.int .i64 z),some (.int .i64 (ag .i64 ((i:Int)+(1:Int))))],h'))=some r ->
    GL base [some (.slice (some ad) l.length l.length),some (.int .i64 left),some (.int .i64 (i:Int))] h=some r:=by
   intro r hr
   rw [B4]
   refine aE (decide_eq_true (by omega)) (aE ⟨by omega,by omega⟩ (bs rfl ?_))
   simp only [aM]
   refine bI g0 (bI g1 (bS g2 (bS g3 (bS g4 ?_))))
   exact bs e1 (bI rfl hr)
  by_cases hz:z<0
  ·exact ⟨1,-1,h',aC (by decide) (step _ (aE (decide_eq_true hz) rfl)),.inl rfl,k1,by omega,by omega,λh=>absurd (by decide) h⟩
  ·obtain ⟨e,zz,IA,m1,m2,m3,m4,m5,m6⟩:=fJ (i+1) h' z (by omega) (hs.ax k1 λ_ _ h=>h) (by have:=k1.1;omega) (λb zy=>by have:=hp b zy;have:=k1.1;omega) (by omega) (by omega)
   refine ⟨e,zz,IA,?_,m2,kN k1 m3,by omega,m5,λOD=>⟨λj t hj vn=>?_,by rw [sy _ aS];have:=(m6 OD).2;have:=(z3 hz).2;unfold FI at *;omega⟩⟩
   ·refine bl (step _ (aU (by simpa using hz) rfl)) ?_
    rw [bm (by omega) (by omega)]
    exact m1
   ·by_cases hji:j=i
    ·subst hji
     rw [bk aS] at vn
     injection vn with vn
     rw [<- vn]
     exact (z3 hz).1
    ·exact (m6 OD).1 j t (by omega) vn
theorem Ae(hl:l.length<=9223372036854775807)(hM:∀ x∈l,Nj x)(hs:js h p f l a)(hb:base<=h.length)(hp:∀ b,p b->b<h.length)(h0:0<=left)(h1:left<=1048576):
  ∃ z h',run (Et base) 12 [.slice a l.length l.length,.int .i64 left] h=some (.int .i64 z,h')/\KB bp h h'/\z<=left/\-1<=z/\(¬z<0->l.length<=1048576/\(∀ x∈l,x_ f x)/\z+((l.length+dt (FI f) l:Nat):Int)<=left):=by
 by_cases c:left-(l.length:Int)<0
 ·refine ⟨-1,h,Am.iq ?_,KB.refl _ _,by omega,by omega,λh=>absurd (by decide) h⟩
  rw [bm (by omega) (by omega)]
  exact aE (decide_eq_true c) rfl
 ·obtain ⟨e,z,h2,m1,m2,m3,m4,m5,m6⟩:=wT (base:=base) (f:=f) (by omega) hM l.length 0 h (left-l.length) (by omega) hs hb hp (by omega) (by omega)
  refine ⟨z,h2,Am.iq ?_,m3,by omega,m5,λhz=>⟨by omega,λx hx=>?_,by have:=(m6 hz).2;simp only [cH] at this;omega⟩⟩
  ·rw [bm (by omega) (by omega)]
   rw [show ((0:Nat):Int)=0 from rfl] at m1
   refine aU (by simpa using c) (bs m1 ?_)
   rcases m2 with rfl|rfl
   ·exact aE rfl (bI rfl rfl)
   ·exact aU (by simp) (aE rfl (bI rfl rfl))
  ·obtain ⟨j,hj,rfl⟩:=gk.1 hx
   exact (m6 hz).1 j _ (by omega) (bk hj)
theorem wU{p2:Nat->Prop}{a2:Option Addr}(hl:l.length<=9223372036854775807)(hL:∀ x∈l,x.Le):∀ (d i:Nat) (h:AH),i+d=l.length->js h p f l a->js h p2 f2 l a2->base<=h.length ->
  ∃ h',aF (Mr base) [some (.slice a l.length l.length),some (.slice a2 l.length l.length),some (.int .i64 (i:Int))] h=some (2,[],h')/\KB bp h h':=by
 intro d
 induction d with
 | zero=>
  intro i h hi hs nJ hb
  refine ⟨h,?_,KB.refl _ _⟩
  refine aC (by decide) ?_
  rw [Cv]
  exact aU (by simp;omega) rfl
 | succ d fJ=>
  intro i h hi hs nJ hb
  have aS:i<l.length:=by omega
  obtain ⟨ad,x1,x2,x3,rfl,_,g0,g1,g2,g3,g4,hm,_⟩:=hs.get aS
  obtain ⟨qW,u1,u2,u3,rfl,_,y0,y1,y2,y3,y4,De,_⟩:=nJ.get aS
  obtain ⟨h1,e1,k1⟩:=Dh (base:=base) (hL _ (aQ aS)) hm De hb
  obtain ⟨h2,m1,q2⟩:=fJ (i+1) h1 (by omega) (hs.ax k1 λ_ _ h=>h) (nJ.ax k1 λ_ _ h=>h) (by have:=k1.1;omega)
  refine ⟨h2,bl ?_ m1,kN k1 q2⟩
  rw [Cv]
  refine aE (decide_eq_true (by omega)) (aE ⟨by omega,by omega⟩ (bs rfl ?_))
  simp only [aM]
  refine bI g0 (bI g1 (bS g2 (bS g3 (bS g4 (aE ⟨by omega,by omega⟩ (bs rfl ?_))))))
  refine bI y0 (bI y1 (bS y2 (bS y3 (bS y4 (bs e1 (bB rfl (aU (by decide) ?_)))))))
  rw [bm (n:=(i:Int)+1) (by omega) (by omega)]
  rfl
theorem Af{p2:Nat->Prop}{a2:Option Addr}(hl:l.length<=9223372036854775807)(hL:∀ x∈l,x.Le)(hs:js h p f l a)(nJ:js h p2 f2 l a2)(hb:base<=h.length):
  ∃ h',run (Et base) 28 [.slice a l.length l.length,.slice a2 l.length l.length] h=some (.bool true,h')/\KB bp h h':=by
 obtain ⟨h',e,k⟩:=wU (base:=base) hl hL l.length 0 h (by omega) hs nJ hb
 refine ⟨h',Am.r28 (aU (by simp) ?_),k⟩
 rw [show ((0:Nat):Int)=0 from rfl] at e
 exact bs e (aU (by simp) (aE rfl rfl))
theorem wV{ob:Nat}(hl:l.length<=1048576)(hB:∀ x∈l,x_ f x)(hp:∀ b,p b->b<ob):∀ (d i:Nat) (h:AH) (vs:List Value),i+d=l.length->js h p f l a->ob<h.length->base<=h.length->bQ base 53 h (ap ob) vs->vs.length=l.length*5 ->
  bC 5 (b_ base f) (iS (ob+1) h.length) h (l.take i) vs ->
  ∃ h' ji,aF (LR base) [some (.slice a l.length l.length),some (.slice (ap ob) l.length l.length),some (.int .i64 (i:Int))] h=some (2,[some (.slice (ap ob) l.length l.length)],h')/\bQ base 53 h' (ap ob) ji/\ji.length=l.length*5 /\
   bC 5 (b_ base f) (iS (ob+1) h'.length) h' l ji/\KB (· = ob) h h':=by
 intro d
 induction d with
 | zero=>
  intro i h vs hi hs ho hb ow hv hd
  rw [cG (by omega)] at hd
  refine ⟨h,vs,?_,ow,hv,hd,KB.refl _ _⟩
  refine aC (by decide) ?_
  rw [Cc]
  exact aU (by simp;omega) rfl
 | succ d fJ=>
  intro i h vs hi hs ho hb ow hv hd
  have aS:i<l.length:=by omega
  obtain ⟨ad,x1,x2,x3,rfl,eN,g0,g1,g2,g3,g4,hm,_⟩:=hs.get aS
  obtain ⟨fy,h1,e1,m1,k1⟩:=Dp (base:=base) (hB _ (aQ aS)) hm hb (λb zy=>by have:=hp b zy;omega)
  have n1:=k1.1
  obtain ⟨p5,c5,a5,n5,b5,m5,g5,q5,rfl⟩:=m1.form
  obtain ⟨h2,w1,w2,w3,w4⟩:=(ow.aj k1).fF (i:=i*5) (new:=de p5 c5 a5 n5 b5 m5 g5 q5) (by simp;omega) (by simp)
  have vr:KB (· = ob) h h2:=X2 k1 w3
  have m2:=b_.kp base f _ _ _ _ l[i] (de p5 c5 a5 n5 b5 m5 g5 q5) w3 (λb (cy:iS h.length h1.length b) e=>by omega) m1
  have ch:=(hd.ax (b_.kp _ _) vr λb cy e=>by omega).snoc (ji:=setAt vs (i*5) (de p5 c5 a5 n5 b5 m5 g5 q5)) (S':=iS (ob+1) h2.length) m2 (λb cy hc=>by omega) (λb cy=>by constructor<;>omega) (λb cy=>by constructor<;>omega) (λq hq=>fW rfl (by omega) (by simp at hq;omega)) (by
   rw [iV,pB (by omega)]
   exact gr rfl (by omega))
  rw [<- ed aS] at ch
  obtain ⟨h3,vs3,y1,y2,y3,y4,y5⟩:=fJ (i+1) h2 (setAt vs (i*5) (de p5 c5 a5 n5 b5 m5 g5 q5)) (by omega) (hs.ax vr λb h1 h2=>by have:=hp b h1;omega) (by omega) (by omega) w2 (by simp [setAt];omega) ch
  refine ⟨h3,vs3,?_,y2,y3,y4,KB.trans vr y5 (λ_ _ h=>h) (λ_ _ h=>h)⟩
  refine bl ?_ y1
  rw [Cc]
  refine aE (decide_eq_true (by omega)) (aE ⟨by omega,by omega⟩ (bs rfl ?_))
  simp only [aM]
  refine bI g0 (bI g1 (bS g2 (bS g3 (bS g4 ?_))))
  refine bs e1 ?_
  refine bs (v:=de p5 c5 a5 n5 b5 m5 g5 q5) rfl (bI rfl (bI rfl (bS rfl (bS rfl (bS rfl ?_)))))
  refine aE ⟨by omega,by omega⟩ (bs rfl ?_)
  have w1':Am.wr base h1 ob (0+i*5) (de p5 c5 a5 n5 b5 m5 g5 q5)=some h2:=by rw [cQ];exact w1
  refine bs w1' ?_
  rw [bm (n:=(i:Int)+1) (by omega) (by omega)]
  rfl
theorem DB(z0 z1 z2 z3 z4:Value):∀ n,(lz [z0,z1,z2,z3,z4] n).length=n*5
 | 0=>rfl
 | n+1=>by simp only [lz,py,DB z0 z1 z2 z3 z4 n];simp;omega
theorem Ah(hl:l.length<=1048576)(hB:∀ x∈l,x_ f x)(hs:js h p f l a)(hb:base<=h.length)(hp:∀ b,p b->b<h.length):
  ∃ a' h',run (Et base) 19 [.slice a l.length l.length] h=some (.slice a' l.length l.length,h')/\a_ base 53 5 (b_ base f) (iS h.length h'.length) h' l a'/\KB bp h h':=by
 obtain ⟨o1,k1,q1⟩:=aI (base:=base) (t:=53) (h:=h) (cs:=lz [(.int .i64 0),(.int .i64 0),(.slice none 0 0),(.slice none 0 0),(.slice none 0 0)] l.length) hb rfl
 generalize da:h++[some (⟨lz [(.int .i64 0),(.int .i64 0),(.slice none 0 0),(.slice none 0 0),(.slice none 0 0)] l.length,53⟩:df)]=h1 at o1 k1 q1
 obtain ⟨h2,Dc,e2,o2,v2,m2,k2⟩:=wV (base:=base) (p:=p) (ob:=h.length) hl hB hp l.length 0 h1 _ (by omega) (hs.ax k1 λ_ _ h=>h) (by omega) (by omega) o1 (DB ..) bC.nil
 have n2:=k2.1
 refine ⟨ap h.length,h2,Am.pP ?_,⟨Dc,iS (h.length+1) h2.length,o2,v2,λb cy=>by rw [aG] at cy;subst cy;exact ⟨by constructor<;>omega,by omega⟩,λb cy=>by constructor<;>omega,m2⟩,KB.trans k1 k2 (λ_ _ h=>h) (λi hi h=>by omega)⟩
 refine aE ⟨rfl,by omega,by omega,by omega⟩ (lets λkg eh=>?_)
 simp only [aM] at eh ⊢
 rw [da] at eh
 subst eh
 rw [show ((0:Nat):Int)=0 from rfl] at e2
 exact bs e2 (aE rfl (bS rfl rfl))
def Yh(base f F:Nat):Prop:=∀ (h:AH) (p:Nat->Prop) (t:Tm) (cs:List Value),cD h p f t cs->jJ f t->base<=h.length->(∀ b,p b->b<h.length) ->
 ∃ fy h',run (Et base) F [.agg cs.toArray] h=some (.agg fy.toArray,h')/\jG f (iS h.length h'.length) h' t fy/\KB bp h h'
def FJ(base f F:Nat):Prop:=∀ (h:AH) (p:Nat->Prop) (t:Tm) (cs:List Value),cD h p f t cs->jJ f t->base<=h.length->(∀ b,p b->b<h.length) ->
 ∃ fy h',run (Et base) F [.agg cs.toArray] h=some (.agg fy.toArray,h')/\bM base f (iS h.length h'.length) h' t fy/\KB bp h h'
theorem jG.form{t:Tm}(x:jG f S h t cs):∃ k n s a m,cs=ah k n s a m:=by
 cases f with
 | zero=>exact x.elim
 | succ f=>obtain ⟨k,n,s,l⟩:=t;obtain ⟨_,_,a,e,_⟩:=x;exact ⟨k,n,s,a,_,e⟩
theorem vB(ih:FJ base f 62){l:List Tm}(hl:l.length<=1048576)(hB:∀ t∈l,jJ f t)(hp:∀ b,p b->b<lo)(ZL:base<=lo):∀ (d i:Nat) (h:AH) (ao:Option Addr) (vs:List Value) (T:Fp),i+d=l.length->iQ h p f l a->lo<=h.length->bQ base 56 h ao vs->vs.length=i*4->bC 4 (bM base f) T h (l.take i) vs->(∀ b,T b->lo<=b/\b<h.length)->(∀ b,bK ao b->¬T b/\lo<=b) ->
  ∃ h' FK ji T',aF (M4 base) [some (.slice ao i i),some (.slice a l.length l.length),some (.int .i64 (l.length:Int)),some (.int .i64 (i:Int))] h=some (2,[some (.slice FK l.length l.length)],h')/\bQ base 56 h' FK ji/\ji.length=l.length*4 /\
   bC 4 (bM base f) T' h' l ji/\(∀ b,T' b->lo<=b/\b<h'.length)/\(∀ b,bK FK b->¬T' b/\lo<=b)/\KB (λb=>lo<=b) h h':=by
 intro d
 induction d with
 | zero=>
  intro i h ao vs T hi hs U3 ow hv hc hT ha
  rw [cG (by omega)] at hc
  have lL:i=l.length:=by omega
  subst lL
  refine ⟨h,ao,vs,T,?_,ow,hv,hc,hT,ha,KB.refl _ _⟩
  refine aC (by decide) ?_
  rw [Da]
  exact aU (by simp) rfl
 | succ d fJ=>
  intro i h ao vs T hi hs U3 ow hv hc hT ha
  have aS:i<l.length:=by omega
  obtain ⟨ad,c0,c1,c2,c3,rfl,g0,g1,g2,g3,hm⟩:=hs.get aS
  have kp1:KB bp h (h++[some ⟨[c0,c1,c2,c3],56⟩]):=KB.push _ _ _
  have Jy:=hm
  cases f with
  | zero=>exact Jy.elim
  | succ f=>
   generalize ht:l[i]=tt at Jy
   obtain ⟨k,n,s,ll⟩:=tt
   obtain ⟨a2,bV,_,_,_⟩:=Jy.parts
   injection bV with q0 bV
   injection bV with q1 bV
   injection bV with q2 bV
   injection bV with q3 _
   subst q0;subst q1;subst q2;subst q3
   obtain ⟨o1,k1,q1⟩:=aI (base:=base) (t:=56) (h:=h) (cs:=ah k n s a2 ll.length) (by omega) rfl
   generalize da:h++[some (⟨ah k n s a2 ll.length,56⟩:df)]=h1 at o1 k1 q1
   obtain ⟨fy,h2,e2,m2,k2⟩:=ih h1 p l[i] _ (cD.ax k1 (λ_ _ h=>h) _ _ _ hm) (hB _ (aQ aS)) (by omega) (λb hb=>by have:=hp b hb;omega)
   have n2:=k2.1
   have dH:KB bp h h2:=kN k1 k2
   obtain ⟨k',n',s',a',m',rfl⟩:=m2.form
   obtain ⟨a3,h3,e3,o3,k3,b3,n3⟩:=Am.qn (bytes:=56) (ow.aj dH) (n:=i) (sz:=4) (cs:=ah k' n' s' a' m') hv rfl (by decide) rfl (by omega) (by omega) (by omega)
   have hao:∀ b,bK ao b->b<h.length:=λb hb=>(ow.lt hb).2
   have ch:=((hc.ax (bM.kp _ _) dH λ_ _ h=>h).snoc (ji:=vs++ah k' n' s' a' m') (S':=λb=>T b\/iS h1.length h2.length b) m2 (λb hb cy=>by have:=hT b cy;omega) (λb hb=>.inl hb) (λb hb=>.inr hb) (λq hq=>dc (by simp at hq;have:=dD (w:=4) (show q<i from by omega);omega)) (by
    rw [iV,pB (by omega)]
    exact eL rfl hv)).ax (bM.kp _ _) k3 (λb hb hk=>by
     rcases hb with hb|hb
     ·exact (ha b hk).1 hb
     ·have:=hao b hk;omega)
   rw [<- ed aS] at ch
   obtain ⟨h4,a4,vs4,T4,y1,y2,y3,y4,y5,y6,y7⟩:=fJ (i+1) h3 a3 (vs++ah k' n' s' a' m') (λb=>T b\/iS h1.length h2.length b) (by omega) (hs.ax (X2 dH k3) λb h1 h2=>by have:=hp b h1;have:=(ha b h2).2;omega) (by omega) o3 (by simp;omega) ch (λb hb=>by
    rcases hb with hb|hb
    ·have:=hT b hb;omega
    ·constructor<;>omega) (λb hb=>by
    have:=b3 b hb
    subst this
    refine ⟨λhb=>?_,by omega⟩
    rcases hb with hb|hb
    ·have:=hT _ hb;omega
    ·omega)
   refine ⟨h4,a4,vs4,T4,?_,y2,y3,y4,y5,y6,KB.trans (X2 dH k3) y7 (λb _ hb=>(ha b hb).2) (λ_ _ h=>h)⟩
   refine bl ?_ y1
   rw [Da]
   refine aE (decide_eq_true (by omega)) (aE ⟨by omega,by omega⟩ (bs rfl ?_))
   simp only [aM]
   refine bI g0 (bI g1 (bT g2 (bS g3 (nw (by omega) rfl λy ey=>?_))))
   rw [da] at ey
   subst ey
   refine q4 o1 (bs e2 (bs (v:=ah k' n' s' a' m') rfl (bI rfl (bI rfl (bT rfl (bS rfl (lets λy2 YY=>?_)))))))
   subst YY
   refine bs e3 (bS rfl ?_)
   rw [bm (n:=(i:Int)+1) (by omega) (by omega)]
   rfl
theorem lI(ih:FJ base f 62){l:List Tm}(hl:l.length<=1048576)(hB:∀ t∈l,jJ f t)(hs:iQ h p f l a)(hb:base<=h.length)(hp:∀ b,p b->b<h.length):
  ∃ a' h',run (Et base) 99 [.slice a l.length l.length] h=some (.slice a' l.length l.length,h')/\a_ base 56 4 (bM base f) (iS h.length h'.length) h' l a'/\KB bp h h':=by
 obtain ⟨h',ao,vs,T,e,ow,hv,hc,hT,ha,k⟩:=vB (base:=base) ih hl hB hp hb l.length 0 h none [] (λ_=>False) (by omega) hs (by omega) (.inl ⟨rfl,rfl⟩) (by simp) bC.nil (λ_ h=>h.elim) (λb hb=>by obtain ⟨_,e,_⟩:=hb;cases e)
 rw [show ((0:Nat):Int)=0 from rfl] at e
 refine ⟨ao,h',Am.r99 (bs e (aE rfl (bS rfl rfl))),⟨vs,T,ow,hv,λb cy=>⟨⟨(ha b cy).2,(ow.lt cy).2⟩,(ha b cy).1⟩,λb cy=>hT b cy,hc⟩,k.mono λi hi h=>by omega⟩
theorem cK{base:Nat}:∀ f,FJ base f 62
 | 0=>λh p t cs x=>x.elim
 | f+1=>λh p t cs x hB hb hp=>by
  obtain ⟨k,n,s,l⟩:=t
  obtain ⟨a,rfl,vo,hs,hl⟩:=x.parts
  obtain ⟨b1,b2,b3⟩:=hB
  obtain ⟨o1,k1,q1⟩:=aI (base:=base) (t:=56) (h:=h) (cs:=ah k n s a l.length) hb rfl
  generalize da:h++[some (⟨ah k n s a l.length,56⟩:df)]=h1 at o1 k1 q1
  obtain ⟨o2,k2,q2⟩:=aI (base:=base) (t:=56) (h:=h1) (cs:=ah 0 0 ⟨#[]⟩ none 0) (by omega) rfl
  generalize nO:h1++[some (⟨ah 0 0 ⟨#[]⟩ none 0,56⟩:df)]=h2 at o2 k2 q2
  have dH:KB bp h h2:=kN k1 k2
  obtain ⟨a',h3,e3,t3,k3⟩:=lI (base:=base) (cK f) b2 b3 (vo.ax dH λ_ _ h=>h) (by omega) (λb hb=>by have:=hp b hb;omega)
  have n3:=k3.1
  obtain ⟨h4,e4,o4,k4,l4⟩:=((o1.aj k2).aj k3).fF (i:=3) (new:=[.slice a' l.length l.length]) (by simp) (by simp)
  have jp:setAt (ah k n s a l.length) 3 [.slice a' l.length l.length]=ah k n s a' l.length:=rfl
  rw [jp] at o4
  have z4:=(o2.aj k3).bF k4 λi hi=>by rw [aG] at hi;omega
  obtain ⟨h5,e5,o5,k5,l5⟩:=z4.fF (i:=0) (new:=ah k n s a' l.length) (by simp) (by simp)
  have hz:setAt (ah 0 0 ⟨#[]⟩ none 0) 0 (ah k n s a' l.length)=ah k n s a' l.length:=rfl
  rw [hz] at o5
  have t5:=(t3.ax (bM.kp _ _) k4 λb h1 h2=>by omega).ax (bM.kp _ _) k5 λb h1 h2=>by omega
  refine ⟨ah k n s a' l.length,h5,Am.r62 (lets λy1 ey=>?_),⟨hs,hl,a',rfl,t5.mono λb cy=>by constructor<;>omega⟩,bR (bR (kN dH k3) k4 λi hi=>by omega) k5 λi hi=>by omega⟩
  rw [da] at ey
  subst ey
  refine lets λy2 ey=>?_
  rw [nO] at ey
  subst ey
  refine bS ((o1.aj k2).ap (i:=3) rfl) (bs e3 (bS rfl (bs e4 (q4 o4 (bs e5 (q4 o5 rfl))))))
theorem FJ.d{base f F:Nat}(x:FJ base f F):Yh base f F:=λh p t cs y hB hb hp=>by
 obtain ⟨fy,h',e,m,k⟩:=x h p t cs y hB hb hp
 exact ⟨fy,h',e,m.d,k⟩
theorem Ai(f:Nat):Yh base f 62:=(cK f).d
theorem DC(ih:FJ base f 40){l:List Tm}{b2:Nat}(hl:l.length<=1048576)(hB:∀ t∈l,jJ f t)(hp:∀ b,p b->b<b2)(h02:b0<b2)(jx:base<=b2):∀ (d i:Nat) (h:AH) (ao:Option Addr) (vs:List Value) (T:Fp),i+d=l.length->iQ h p f l a->b2<h.length->bQ base 56 h (ap b0) (ah k n s a l.length)->bQ base 56 h (ap b2) (ah k n s ao i)->bQ base 56 h ao vs->vs.length=i*4->bC 4 (bM base f) T h (l.take i) vs->(∀ b,T b->b2<b/\b<h.length)->(∀ b,bK ao b->¬T b/\b2<b) ->
  ∃ h' FK ji T',aF (Mz base) [some (.pointer (ap b0)),some (.pointer (ap b1)),some (.pointer (ap b2)),some (.int .i64 (i:Int))] h=some (2,[some (.pointer (ap b1)),some (.pointer (ap b2))],h')/\bQ base 56 h' (ap b2) (ah k n s FK l.length)/\bQ base 56 h' FK ji/\ji.length=l.length*4 /\
   bC 4 (bM base f) T' h' l ji/\(∀ b,T' b->b2<b/\b<h'.length)/\(∀ b,bK FK b->¬T' b/\b2<b)/\KB (λb=>b2<=b) h h':=by
 intro d
 induction d with
 | zero=>
  intro i h ao vs T hi hs U3 ot oo ow hv hc hT ha
  rw [cG (by omega)] at hc
  have lL:i=l.length:=by omega
  subst lL
  refine ⟨h,ao,vs,T,?_,oo,ow,hv,hc,hT,ha,KB.refl _ _⟩
  refine aC (by decide) ?_
  rw [CG]
  exact bS (ot.ap (i:=3) rfl) (aU (by simp) rfl)
 | succ d fJ=>
  intro i h ao vs T hi hs U3 ot oo ow hv hc hT ha
  have aS:i<l.length:=by omega
  obtain ⟨ad,c0,c1,c2,c3,rfl,g0,g1,g2,g3,hm⟩:=hs.get aS
  have Jy:=hm
  cases f with
  | zero=>exact Jy.elim
  | succ f=>
   generalize ht:l[i]=tt at Jy
   obtain ⟨k1,n1,s1,ll⟩:=tt
   obtain ⟨a2,bV,_,_,_⟩:=Jy.parts
   injection bV with q0 bV
   injection bV with q1 bV
   injection bV with q2 bV
   injection bV with q3 _
   subst q0;subst q1;subst q2;subst q3
   obtain ⟨fy,h2,e2,m2,k2⟩:=ih h p l[i] _ hm (hB _ (aQ aS)) (by omega) (λb hb=>by have:=hp b hb;omega)
   have nn2:=k2.1
   obtain ⟨k',n',s',a',m',rfl⟩:=m2.form
   obtain ⟨a3,h3,e3,o3,k3,b3,n3⟩:=Am.qn (bytes:=56) (ow.aj k2) (n:=i) (sz:=4) (cs:=ah k' n' s' a' m') hv rfl (by decide) rfl (by omega) (by omega) (by omega)
   have hao:∀ b,bK ao b->b<h.length:=λb hb=>(ow.lt hb).2
   have oo3:=(oo.aj k2).ax k3 λb hb hk=>by have:=(ha b hk).2;rw [aG] at hb;omega
   obtain ⟨h4,w4,oo4,k4,l4⟩:=oo3.fF (i:=3) (new:=[.slice a3 (i+1) (i+1)]) (by simp) (by simp)
   have jp:setAt (ah k n s ao i) 3 [.slice a3 (i+1) (i+1)]=ah k n s a3 (i+1):=rfl
   rw [jp] at oo4
   have fg:KB (bK ao) h h3:=X2 k2 k3
   have oL:KB (λb=>bK ao b\/b=b2) h h4:=KB.trans fg k4 (λ_ _ h=>.inl h) (λ_ _ h=>.inr h)
   have ch:=(((hc.ax (bM.kp _ _) k2 λ_ _ h=>h).snoc (ji:=vs++ah k' n' s' a' m') (S':=λb=>T b\/iS h.length h2.length b) m2 (λb hb cy=>by have:=hT b cy;omega) (λb hb=>.inl hb) (λb hb=>.inr hb) (λq hq=>dc (by simp at hq;have:=dD (w:=4) (show q<i from by omega);omega)) (by
    rw [iV,pB (by omega)]
    exact eL rfl hv)).ax (bM.kp _ _) k3 (λb hb hk=>by
     rcases hb with hb|hb
     ·exact (ha b hk).1 hb
     ·have:=hao b hk;omega)).ax (bM.kp _ _) k4 (λb hb hk=>by
     rcases hb with hb|hb
     ·have:=hT b hb;omega
     ·omega)
   rw [<- ed aS] at ch
   have hT':∀ b,(T b\/iS h.length h2.length b)->b2<b/\b<h4.length:=λb hb=>by
    rcases hb with hb|hb
    ·have:=hT b hb;omega
    ·omega
   have o4:=o3.bF k4 λb hb=>by have:=b3 b hb;omega
   obtain ⟨h5,a5,vs5,T5,y1,y1',y2,y3,y4,y5,y6,y7⟩:=fJ (i+1) h4 a3 (vs++ah k' n' s' a' m') (λb=>T b\/iS h.length h2.length b) (by omega) (hs.ax oL λb h1 h2=>by
    have:=hp b h1
    rcases h2 with h2|h2
    ·have:=(ha b h2).2;omega
    ·omega) (by omega) (ot.ax oL λb hb h2=>by
    rw [aG] at hb
    rcases h2 with h2|h2
    ·have:=(ha b h2).2;omega
    ·omega) oo4 o4 (by simp;omega) ch hT' (λb hb=>by
    have:=b3 b hb
    subst this
    refine ⟨λhb=>?_,by omega⟩
    rcases hb with hb|hb
    ·have:=hT _ hb;omega
    ·omega)
   refine ⟨h5,a5,vs5,T5,?_,y1',y2,y3,y4,y5,y6,KB.trans oL y7 (λb _ hb=>by
    rcases hb with hb|hb
    ·have:=(ha b hb).2;omega
    ·omega) (λ_ _ h=>h)⟩
   refine bl ?_ y1
   rw [CG]
   refine bS (ot.ap (i:=3) rfl) (aE (decide_eq_true (by simp;omega)) (bS (oo.ap (i:=3) rfl) (bS (ot.ap (i:=3) rfl) (aE ⟨by omega,by simp;omega⟩ (bs rfl ?_)))))
   simp only [aM]
   refine bI g0 (bI g1 (bT g2 (bS g3 (bs e2 ?_))))
   refine bs (v:=ah k' n' s' a' m') rfl (bI rfl (bI rfl (bT rfl (bS rfl ?_))))
   try dsimp only
   rw [iP (by
    intro x hx
    injection hx with hx
    subst hx
    have e:=k2.2 b2 U3 (λh=>h)
    exact ⟨λj _=>by unfold Am.cell;rw [e],by rw [e]⟩)]
   rw [iP (by
    intro x hx
    injection hx with hx
    subst hx
    show b2≠h2.length
    omega)]
   refine lets λy2 YY=>?_
   subst YY
   refine bs e3 (bS rfl (bs w4 ?_))
   rw [bm (n:=(i:Int)+1) (by omega) (by omega)]
   rfl
theorem dh{base:Nat}:∀ f,FJ base f 40
 | 0=>λh p t cs x=>x.elim
 | f+1=>λh p t cs x hB hb hp=>by
  obtain ⟨k,n,s,l⟩:=t
  obtain ⟨a,rfl,vo,hs,hl⟩:=x.parts
  obtain ⟨b1,b2,b3⟩:=hB
  obtain ⟨o1,k1,q1⟩:=aI (base:=base) (t:=56) (h:=h) (cs:=ah k n s a l.length) hb rfl
  generalize da:h++[some (⟨ah k n s a l.length,56⟩:df)]=h1 at o1 k1 q1
  obtain ⟨o2,k2,q2⟩:=aI (base:=base) (t:=56) (h:=h1) (cs:=ah 0 0 ⟨#[]⟩ none 0) (by omega) rfl
  generalize nO:h1++[some (⟨ah 0 0 ⟨#[]⟩ none 0,56⟩:df)]=h2 at o2 k2 q2
  obtain ⟨o3,k3,q3⟩:=aI (base:=base) (t:=56) (h:=h2) (cs:=ah k n s a l.length) (by omega) rfl
  generalize IB:h2++[some (⟨ah k n s a l.length,56⟩:df)]=h3 at o3 k3 q3
  obtain ⟨o4,k4,q4'⟩:=aI (base:=base) (t:=56) (h:=h3) (cs:=[]) (by omega) rfl
  generalize hh4:h3++[some (⟨[],56⟩:df)]=h4 at o4 k4 q4'
  obtain ⟨h5,e5,o5,k5,l5⟩:=(o3.aj k4).fF (i:=3) (new:=[.slice (ap h3.length) 0 0]) (by simp) (by simp)
  have jp:setAt (ah k n s a l.length) 3 [.slice (ap h3.length) 0 0]=ah k n s (ap h3.length) 0:=rfl
  rw [jp] at o5
  have oL:KB bp h h4:=kN (kN (kN k1 k2) k3) k4
  have qZ:KB bp h h5:=bR oL k5 λi hi=>by omega
  obtain ⟨h6,ao,vs,T,e6,oo6,ow6,hv6,hc6,hT6,ha6,k6⟩:=DC (base:=base) (dh f) (p:=p) (l:=l) (a:=a) (b0:=h.length) (b1:=h1.length) (b2:=h2.length) (k:=k) (n:=n) (s:=s) b2 b3 (λb hb=>by have:=hp b hb;omega) (by omega) (by omega) l.length 0 h5 (ap h3.length) [] (λ_=>False) (by omega) (vo.ax qZ λ_ _ h=>h) (by omega)
   ((((o1.aj k2).aj k3).aj k4).bF k5 λi hi=>by rw [aG] at hi;omega) o5 (o4.bF k5 λi hi=>by rw [aG] at hi;omega) (by simp) bC.nil (λ_ h=>h.elim) (λb hb=>by rw [aG] at hb;exact ⟨λh=>h,by omega⟩)
  have n6:=k6.1
  have z6:=(((o2.aj k3).aj k4).bF k5 λi hi=>by rw [aG] at hi;omega).ax k6 λb hb hk=>by rw [aG] at hb;omega
  obtain ⟨h7,e7,o7,k7,l7⟩:=z6.fF (i:=0) (new:=ah k n s ao l.length) (by simp) (by simp)
  have hz:setAt (ah 0 0 ⟨#[]⟩ none 0) 0 (ah k n s ao l.length)=ah k n s ao l.length:=rfl
  rw [hz] at o7
  have Zo:=ow6.bF k7 λb hb=>by have:=(ha6 b hb).2;omega
  have hc7:=hc6.ax (bM.kp _ _) k7 λb hb hk=>by have:=hT6 b hb;omega
  refine ⟨ah k n s ao l.length,h7,Am.Za (lets λy1 ey=>?_),⟨hs,hl,ao,rfl,⟨vs,T,Zo,hv6,λb cy=>⟨⟨by have:=(ha6 b cy).2;omega,by have:=(Zo.lt cy).2;omega⟩,(ha6 b cy).1⟩,λb cy=>by have:=hT6 b cy;constructor<;>omega,hc7⟩⟩,bR (bR qZ k6 λi hi=>by omega) k7 λi hi=>by omega⟩
  rw [da] at ey
  subst ey
  refine lets λy2 ey=>?_
  rw [nO] at ey
  subst ey
  refine q4 (o1.aj k2) (nw (by omega) rfl λy3 ey=>?_)
  rw [IB] at ey
  subst ey
  refine lets λy4 ey=>?_
  rw [hh4] at ey
  subst ey
  refine bs e5 ?_
  rw [show ((0:Nat):Int)=0 from rfl] at e6
  refine bs e6 (aE rfl (bs rfl (bs rfl (q4 oo6 (bs e7 (q4 o7 rfl))))))
theorem FL(f:Nat):Yh base f 40:=(dh f).d
structure Sd where
 kind:Int
 pid:Int
 t:Tm
def mA(h:AH)(p:Nat->Prop)(f:Nat)(l:List Sd)(a:Option Addr):Prop:=
 ∃ vs,Sl h a vs/\(vs = []\/∀ b,bK a b->p b)/\vs.length=l.length*6/\∀ i x,l[i]? = some x->∃ cs,(vs.drop (i*6)).take 6 = .int .i64 x.kind :: .int .i64 x.pid :: cs/\cD h p f x.t cs
theorem mA.ax{h h':AH}{p S:Nat->Prop}(k:KB S h h')(hp:∀ b,p b->¬S b){f:Nat}{l:List Sd}{a:Option Addr}(x:mA h p f l a):mA h' p f l a:=by
 obtain ⟨vs,h4,h5,h6,h7⟩:=x
 refine ⟨vs,?_,h5,h6,λi t hi=>?_⟩
 ·rcases h5 with e|h5
  ·exact .inl e
  ·exact h4.ax k λb hb hs=>hp b (h5 b hb) hs
 ·obtain ⟨cs,e,hm⟩:=h7 i t hi
  exact ⟨cs,e,cD.ax k hp f _ _ hm⟩
theorem mA.get{l:List Sd}(x:mA h p f l a)(hi:i<l.length):
  ∃ ad k n s a2 m,a=some ad/\ad.block<h.length/\Am.cell h ad.block (ad.off+i*6)=some (.int .i64 l[i].kind)/\Am.cell h ad.block (ad.off+i*6+1)=some (.int .i64 l[i].pid)/\Am.cell h ad.block (ad.off+i*6+1+1)=some (.int .i64 k) /\
   Am.cell h ad.block (ad.off+i*6+1+1+1)=some (.int .i64 n)/\Am.cell h ad.block (ad.off+i*6+1+1+1+1)=some (.string s)/\Am.cell h ad.block (ad.off+i*6+1+1+1+1+1)=some (.slice a2 m m)/\cD h p f l[i].t (ah k n s a2 m):=by
 obtain ⟨vs,h4,h5,h6,h7⟩:=x
 have aS:i*6+5<vs.length:=by omega
 obtain ⟨cs,bV,hm⟩:=h7 i l[i] (bk hi)
 cases f with
 | zero=>exact hm.elim
 | succ f=>
  generalize ht:l[i].t=tt at hm
  obtain ⟨k,n,s,ll⟩:=tt
  obtain ⟨a2,rfl,_,_,_⟩:=hm.parts
  have each:∀ (j:Nat) (v:Value),(Value.int .i64 l[i].kind :: .int .i64 l[i].pid :: ah k n s a2 ll.length)[j]? = some v->vs[i*6+j]? = some v:=by
   intro j v hv
   have hj:j<6:=by have:=(bY.1 hv).1;simpa using this
   rw [<- bV,bJ hj,bZ] at hv
   exact hv
  rcases h4 with e|⟨ad,kk,e1,e2,e3,e4⟩
  ·subst e;simp at aS
  ·have c:∀ (j:Nat) (v:Value),(Value.int .i64 l[i].kind :: .int .i64 l[i].pid :: ah k n s a2 ll.length)[j]? = some v->Am.cell h ad.block (ad.off+i*6+j)=some v:=by
    intro j v hv
    have:=e4 _ _ (each j v hv)
    rw [bO]
    simp [Am.cell,e2,this]
   exact ⟨ad,k,n,s,a2,ll.length,e1,di e2,c 0 _ rfl,c 1 _ rfl,c 2 _ rfl,c 3 _ rfl,c 4 _ rfl,c 5 _ rfl,hm⟩
abbrev dr(kind pid k n:Int)(s:ByteArray)(a:Option Addr)(m:Nat):List Value:=[.int .i64 kind,.int .i64 pid,.int .i64 k,.int .i64 n,.string s,.slice a m m]
theorem DD(z0 z1 z2 z3 z4 z5:Value):∀ n,(lz [z0,z1,z2,z3,z4,z5] n).length=n*6
 | 0=>rfl
 | n+1=>by simp only [lz,py,DD z0 z1 z2 z3 z4 z5 n];simp;omega
theorem mA.le{h:AH}{p:Nat->Prop}{f f':Nat}(hf:f<=f'){l:List Sd}{a:Option Addr}(x:mA h p f l a):mA h p f' l a:=by
 obtain ⟨vs,h1,h2,h3,h4⟩:=x
 exact ⟨vs,h1,h2,h3,λi y hy=>by obtain ⟨cs,e,m⟩:=h4 i y hy;exact ⟨cs,e,m.le hf⟩⟩
def d0:Sd:=⟨0,0,.mk 0 0 ⟨#[]⟩ []⟩
def gz(f:Nat)(S:Fp)(h:AH)(x:Sd)(cs:List Value):Prop:=∃ k n s a m,cs=dr x.kind x.pid k n s a m/\jG f S h x.t (ah k n s a m)
theorem gz.kp(f:Nat):Kp (gz f):=λS U h h' x cs k hs y=>by
 obtain ⟨k1,n,s,a,m,e,r⟩:=y
 exact ⟨k1,n,s,a,m,e,jG.kp f _ _ _ _ _ _ k hs r⟩
theorem fk.ssR{l:List Sd}(x:fk 6 (gz f) S h l a):mA h S f l a:=by
 obtain ⟨vs,T,x1,x2,x3,x4,C,c1,c2,c3⟩:=x
 refine ⟨vs,x1,x3.imp id λg b hb=>(g b hb).1,x2,λi t hi=>?_⟩
 obtain ⟨k,n,s,a,m,e,r⟩:=c3 i t hi
 exact ⟨_,e,(jG.vq _ _ _ _ _ r).mono (λb hb=>x4 b (c1 i b hb)) _ _ _⟩
inductive wX:List Sd->Int->Int->Prop
 | nil (k:Int):wX [] k k
 | cons {k k1 k2:Int} {l:List Tm} {r:List Sd}:IC l (k+5) k1->wX r k1 k2->wX (⟨k,k+1,.mk (k+2) (k+3) (mt (k+4)) l⟩ :: r) k k2
theorem wX.le{l:List Sd}{k k':Int}(x:wX l k k'):k<=k':=by
 induction x with
 | nil=>exact gb _
 | cons m _ UY=>have:=m.le;omega
def rI(f:Nat)(l:List Sd):Int:=((5*l.length+3*dt (λx=>eH f x.t) l:Nat):Int)
theorem vC{w:ByteArray}(hb:base<=h.length):∃ h',run (Et base) 92 [.string w] h=some (.agg (ah 2 0 w none 0).toArray,h')/\KB bp h h':=by
 obtain ⟨o1,k1,q1⟩:=aI (base:=base) (t:=56) (h:=h) (cs:=ah 0 0 ⟨#[]⟩ none 0) hb rfl
 generalize da:h++[some (⟨ah 0 0 ⟨#[]⟩ none 0,56⟩:df)]=h1 at o1 k1 q1
 obtain ⟨h2,e2,o2,k2,l2⟩:=o1.fF (i:=0) (new:=ah 2 0 w none 0) (by simp) (by simp)
 have hz:setAt (ah 0 0 ⟨#[]⟩ none 0) 0 (ah 2 0 w none 0)=ah 2 0 w none 0:=rfl
 rw [hz] at o2
 refine ⟨h2,Am.UW (lets λkg eh=>?_),KB.trans k1 k2 (λ_ _ h=>h) (λi hi h=>by omega)⟩
 rw [da] at eh
 subst eh
 exact bs e2 (bI (o2.ap (i:=0) rfl) (bI (o2.ap (i:=1) rfl) (bT (o2.ap (i:=2) rfl) (bS (o2.ap (i:=3) rfl) rfl))))
theorem vD{w:ByteArray}(hb:base<=h.length):∃ h',run (Et base) 66 [.string w] h=some (.agg (ah 2 0 w none 0).toArray,h')/\KB bp h h':=by
 obtain ⟨o1,k1,q1⟩:=aI (base:=base) (t:=56) (h:=h) (cs:=ah 0 0 ⟨#[]⟩ none 0) hb rfl
 generalize da:h++[some (⟨ah 0 0 ⟨#[]⟩ none 0,56⟩:df)]=h1 at o1 k1 q1
 obtain ⟨h2,e2,o2,k2,l2⟩:=o1.fF (i:=0) (new:=ah 2 0 w none 0) (by simp) (by simp)
 have hz:setAt (ah 0 0 ⟨#[]⟩ none 0) 0 (ah 2 0 w none 0)=ah 2 0 w none 0:=rfl
 rw [hz] at o2
 refine ⟨h2,Am.Zf (lets λkg eh=>?_),KB.trans k1 k2 (λ_ _ h=>h) (λi hi h=>by omega)⟩
 rw [da] at eh
 subst eh
 exact bs e2 (bI (o2.ap (i:=0) rfl) (bI (o2.ap (i:=1) rfl) (bT (o2.ap (i:=2) rfl) (bS (o2.ap (i:=3) rfl) rfl))))
def Nw(k n:Int)(s:ByteArray)(m:Nat)(w:ByteArray):Bool:=!(k != 2) && !(n != 0)&&(s.toList==w.toList) && !(((m:Nat):Int) != ((0:Nat):Int))
theorem sF{w:ByteArray}(hb:base<=h.length):
  ∃ h',run (Et base) 87 [.agg (ah k n s a m).toArray,.agg (ah 2 0 w none 0).toArray] h=some (.bool (Nw k n s m w),h')/\KB bp h h':=by
 obtain ⟨o1,k1,q1⟩:=aI (base:=base) (t:=56) (h:=h) (cs:=ah k n s a m) hb rfl
 generalize da:h++[some (⟨ah k n s a m,56⟩:df)]=h1 at o1 k1 q1
 obtain ⟨o2,k2,q2⟩:=aI (base:=base) (t:=56) (h:=h1) (cs:=ah 2 0 w none 0) (by omega) rfl
 generalize nO:h1++[some (⟨ah 2 0 w none 0,56⟩:df)]=h2 at o2 k2 q2
 have Bg:=o1.aj k2
 refine ⟨h2,Am.r87 (lets λkg eh=>?_),KB.trans k1 k2 (λ_ _ h=>h) (λ_ _ h=>h)⟩
 rw [da] at eh
 subst eh
 refine lets λM9 eh=>?_
 rw [nO] at eh
 subst eh
 refine bs (v:=.inl ([some (.pointer (some ⟨h.length,0,none⟩)),some (.pointer (some ⟨kg.length,0,none⟩)),some (.bool (!Nw k n s m w))],M9)) ?_ ?_
 ·refine bI (Bg.ap (i:=0) rfl) (bI (o2.ap (i:=0) rfl) ?_)
  by_cases c0:(k != 2)=true
  ·refine aE c0 ?_
   simp [Nw,c0]
  refine aU c0 (bI (Bg.ap (i:=1) rfl) (bI (o2.ap (i:=1) rfl) ?_))
  by_cases c1:(n != 0)=true
  ·refine aE c1 ?_
   simp [Nw,c1]
  refine aU c1 (bT (Bg.ap (i:=2) rfl) (bT (o2.ap (i:=2) rfl) ?_))
  by_cases c2:(!(s.toList==w.toList))=true
  ·refine aE c2 ?_
   have Qw:(s.toList==w.toList)=false:=by simpa using c2
   simp [Nw,Qw]
  refine aU c2 (bS (Bg.ap (i:=3) rfl) (bS (o2.ap (i:=3) rfl) ?_))
  have e0:(k != 2)=false:=by simpa using c0
  have e1:(n != 0)=false:=by simpa using c1
  have e2:(s.toList==w.toList)=true:=by simpa using c2
  simp [Nw,e0,e1,e2]
 refine jn (bs (v:=(⟨h.length,0,none⟩:Addr)) rfl (bs (v:=(⟨kg.length,0,none⟩:Addr)) rfl (bB rfl ?_)))
 by_cases hA:Nw k n s m w=true
 ·have hm:m=0:=by simp [Nw] at hA;omega
  rw [hA]
  refine aU (by decide) (bs (v:=(2,[],M9)) ?_ (aU (by simp) (aE rfl rfl)))
  rw [cg,vi]
  have hc:=Bg.ap (i:=3) (v:=.slice a m m) rfl
  refine bs (bS hc (aU (by simp [hm]) rfl)) rfl
 ·have:Nw k n s m w=false:=by simpa using hA
  rw [this]
  exact aE (by decide) rfl
theorem FM{t:Tm}(hm:cD h p f t (ah k n s a m))(hb:base<=h.length)(hp:∀ b,p b->b<h.length)(h0:0<=left)(h1:left<=1048576):
  ∃ z h',run (Et base) 38 [.agg (dr kind pid k n s a m).toArray,.int .i64 left] h=some (.int .i64 z,h')/\KB bp h h'/\z<=left/\-1<=z/\(¬z<0->jJ f t/\z+(eH f t:Int)<=left):=by
 obtain ⟨o1,k1,q1⟩:=aI (base:=base) (t:=79) (h:=h) (cs:=dr kind pid k n s a m) hb rfl
 generalize da:h++[some (⟨dr kind pid k n s a m,79⟩:df)]=kg at o1 k1 q1
 obtain ⟨z,h2,e,k2,z1,z2,z3⟩:=qo (base:=base) f kg p t _ left (cD.ax k1 (λ_ _ h=>h) _ _ _ hm) (by omega) (λb zy=>by have:=hp b zy;omega) h0 h1
 have kk:KB bp h h2:=KB.trans k1 k2 (λ_ _ h=>h) (λ_ _ h=>h)
 have start:∀ r,(if (decide (z<(0:Int)))=true then some (Value.int .i64 (-1:Int),h2) else some (.int .i64 z,h2))=some r->run (Et base) 38 [.agg (dr kind pid k n s a m).toArray,.int .i64 left] h=some r:=by
  intro r hr
  refine Am.r38 (lets λmU eh=>?_)
  rw [da] at eh
  subst eh
  refine bI (o1.ap (i:=2) rfl) (bI (o1.ap (i:=3) rfl) (bT (o1.ap (i:=4) rfl) (bS (o1.ap (i:=5) rfl) ?_)))
  exact bs e (bI rfl hr)
 by_cases hz:z<0
 ·exact ⟨-1,h2,start _ (aE (decide_eq_true hz) rfl),kk,by omega,by omega,λh=>absurd (by decide) h⟩
 ·exact ⟨z,h2,start _ (aU (by simpa using hz) rfl),kk,z1,z2,z3⟩
theorem Aj{l:List Sd}(hl:l.length<=1048576):∀ (d i:Nat) (h:AH) (left:Int),i+d=l.length->mA h p f l a->base<=h.length->(∀ b,p b->b<h.length)->0<=left->left<=1048576 ->
  ∃ e z h',aF (GM base) [some (.slice a l.length l.length),some (.int .i64 left),some (.int .i64 (i:Int))] h=some (e,[some (.int .i64 z)],h')/\(e=1\/e=2)/\KB bp h h'/\z<=left/\-1<=z/\(¬z<0->(∀ j x,i<=j->l[j]? = some x->jJ f x.t)/\z+(dt (λx=>eH f x.t) (l.drop i):Int)<=left):=by
 intro d
 induction d with
 | zero=>
  intro i h left hi hs hb hp h0 h1
  refine ⟨2,left,h,?_,.inr rfl,KB.refl _ _,gb _,by omega,λ_=>⟨λj t hj vn=>?_,by rw [show l.drop i = [] from dZ (by omega)];simp [dt]⟩⟩
  ·rw [cg,B5]
   have:¬((i:Int)<(l.length:Int)):=by omega
   simp [this]
  ·have:=(bY.1 vn).1;omega
 | succ d fJ=>
  intro i h left hi hs hb hp h0 h1
  have aS:i<l.length:=by omega
  obtain ⟨ad,k,n,s,a2,m,rfl,eN,g0,g1,g2,g3,g4,g5,hm⟩:=hs.get aS
  obtain ⟨z,h',e1,k1,z1,z2,z3⟩:=FM (base:=base) (kind:=l[i].kind) (pid:=l[i].pid) hm hb hp h0 h1
  have step:∀ r,(if (decide (z<(0:Int)))=true then
    some (1,[some (Value.int .i64 (-1:Int))],h')
   else
    some (0,[some (.slice (some ad) l.length l.length),some (.int .i64 z),some (.int .i64 (ag .i64 ((i:Int)+(1:Int))))],h'))=some r ->
    GM base [some (.slice (some ad) l.length l.length),some (.int .i64 left),some (.int .i64 (i:Int))] h=some r:=by
   intro r hr
   rw [B5]
   refine aE (decide_eq_true (by omega)) (aE ⟨by omega,by omega⟩ (bs rfl ?_))
   simp only [aM]
   refine bI g0 (bI g1 (bI g2 (bI g3 (bT g4 (bS g5 ?_)))))
   exact bs e1 (bI rfl hr)
  by_cases hz:z<0
  ·refine ⟨1,-1,h',?_,.inl rfl,k1,by omega,by omega,λh=>absurd (by decide) h⟩
   rw [cg,step _ (aE (decide_eq_true hz) rfl)]
   simp
  ·obtain ⟨e,zz,IA,m1,m2,m3,m4,m5,m6⟩:=fJ (i+1) h' z (by omega) (hs.ax k1 λ_ _ h=>h) (by have:=k1.1;omega) (λb zy=>by have:=hp b zy;have:=k1.1;omega) (by omega) (by omega)
   refine ⟨e,zz,IA,?_,m2,KB.trans k1 m3 (λ_ _ h=>h) (λ_ _ h=>h),by omega,m5,λOD=>⟨λj t hj vn=>?_,by rw [sy _ aS];have:=(m6 OD).2;have:=(z3 hz).2;omega⟩⟩
   ·rw [cg,step _ (aU (by simpa using hz) rfl)]
    simp only [Option.bind_some,if_true]
    rw [bm (by omega) (by omega),show ((i:Int)+1)=((i+1:Nat):Int) from by omega]
    exact m1
   ·by_cases hji:j=i
    ·subst hji
     rw [bk aS] at vn
     injection vn with vn
     rw [<- vn]
     exact (z3 hz).1
    ·exact (m6 OD).1 j t (by omega) vn
theorem FN{p2:Nat->Prop}{k2 n2:Int}{s2:ByteArray}{a2:Option Addr}{m2:Nat}{t:Tm}(hm:cD h p f t (ah k n s a m))(De:cD h p2 f2 t (ah k2 n2 s2 a2 m2))(hb:base<=h.length):
  ∃ h',run (Et base) 72 [.agg (dr kind pid k n s a m).toArray,.agg (dr kind pid k2 n2 s2 a2 m2).toArray] h=some (.bool true,h')/\KB bp h h':=by
 obtain ⟨o1,k1,q1⟩:=aI (base:=base) (t:=82) (h:=h) (cs:=dr kind pid k n s a m) hb rfl
 generalize da:h++[some (⟨dr kind pid k n s a m,82⟩:df)]=h1 at o1 k1 q1
 obtain ⟨o2,Jf,q2⟩:=aI (base:=base) (t:=82) (h:=h1) (cs:=dr kind pid k2 n2 s2 a2 m2) (by omega) rfl
 generalize nO:h1++[some (⟨dr kind pid k2 n2 s2 a2 m2,82⟩:df)]=h2 at o2 Jf q2
 have Bg:=o1.aj Jf
 have kk:KB bp h h2:=KB.trans k1 Jf (λ_ _ h=>h) (λ_ _ h=>h)
 obtain ⟨h3,e3,k3⟩:=mX (base:=base) f f2 h2 p p2 t _ _ (cD.ax kk (λ_ _ h=>h) _ _ _ hm) (cD.ax kk (λ_ _ h=>h) _ _ _ De) (by omega)
 refine ⟨h3,Am.OA (lets λkg eh=>?_),KB.trans kk k3 (λ_ _ h=>h) (λ_ _ h=>h)⟩
 rw [da] at eh
 subst eh
 refine lets λM9 eh=>?_
 rw [nO] at eh
 subst eh
 refine bI (Bg.ap (i:=0) rfl) (bI (o2.ap (i:=0) rfl) (aU (by simp) ?_))
 refine bI (Bg.ap (i:=1) rfl) (bI (o2.ap (i:=1) rfl) (aU (by simp) ?_))
 refine bI (Bg.ap (i:=2) rfl) (bI (Bg.ap (i:=3) rfl) (bT (Bg.ap (i:=4) rfl) (bS (Bg.ap (i:=5) rfl) ?_)))
 refine bI (o2.ap (i:=2) rfl) (bI (o2.ap (i:=3) rfl) (bT (o2.ap (i:=4) rfl) (bS (o2.ap (i:=5) rfl) ?_)))
 exact bs e3 (bB rfl (aU (by decide) rfl))
theorem Ak{p2:Nat->Prop}{l:List Sd}{a2:Option Addr}(hl:l.length<=9223372036854775807):∀ (d i:Nat) (h:AH),i+d=l.length->mA h p f l a->mA h p2 f2 l a2->base<=h.length ->
  ∃ h',aF (GQ base) [some (.slice a l.length l.length),some (.slice a2 l.length l.length),some (.int .i64 (i:Int))] h=some (2,[],h')/\KB bp h h':=by
 intro d
 induction d with
 | zero=>
  intro i h hi hs nJ hb
  refine ⟨h,?_,KB.refl _ _⟩
  rw [cg,Cw]
  have:¬((i:Int)<(l.length:Int)):=by omega
  simp [this]
 | succ d fJ=>
  intro i h hi hs nJ hb
  have aS:i<l.length:=by omega
  obtain ⟨ad,k,n,s,b,m,rfl,_,g0,g1,g2,g3,g4,g5,hm⟩:=hs.get aS
  obtain ⟨qW,k2,n2,s2,b2,m2,rfl,_,y0,y1,y2,y3,y4,y5,De⟩:=nJ.get aS
  obtain ⟨h1,e1,k1⟩:=FN (base:=base) (kind:=l[i].kind) (pid:=l[i].pid) hm De hb
  obtain ⟨h2,m1,q2⟩:=fJ (i+1) h1 (by omega) (hs.ax k1 λ_ _ h=>h) (nJ.ax k1 λ_ _ h=>h) (by have:=k1.1;omega)
  refine ⟨h2,?_,KB.trans k1 q2 (λ_ _ h=>h) (λ_ _ h=>h)⟩
  have step:GQ base [some (.slice (some ad) l.length l.length),some (.slice (some qW) l.length l.length),some (.int .i64 (i:Int))] h=some (0,[some (.slice (some ad) l.length l.length),some (.slice (some qW) l.length l.length),some (.int .i64 (ag .i64 ((i:Int)+(1:Int))))],h1):=by
   rw [Cw]
   refine aE (decide_eq_true (by omega)) (aE ⟨by omega,by omega⟩ (bs rfl ?_))
   simp only [aM]
   refine bI g0 (bI g1 (bI g2 (bI g3 (bT g4 (bS g5 (aE ⟨by omega,by omega⟩ (bs rfl ?_)))))))
   refine bI y0 (bI y1 (bI y2 (bI y3 (bT y4 (bS y5 ?_)))))
   exact bs e1 (bB rfl (aU (by decide) rfl))
  rw [cg,step]
  simp only [Option.bind_some,if_true]
  rw [bm (by omega) (by omega),show ((i:Int)+1)=((i+1:Nat):Int) from by omega]
  exact m1
theorem DE{p2:Nat->Prop}{l:List Sd}{a2:Option Addr}(hl:l.length<=9223372036854775807)(hs:mA h p f l a)(nJ:mA h p2 f2 l a2)(hb:base<=h.length):
  ∃ h',run (Et base) 29 [.slice a l.length l.length,.slice a2 l.length l.length] h=some (.bool true,h')/\KB bp h h':=by
 obtain ⟨h',e,k⟩:=Ak (base:=base) hl l.length 0 h (by omega) hs nJ hb
 refine ⟨h',Am.r29 (aU (by simp) ?_),k⟩
 rw [show ((0:Nat):Int)=0 from rfl] at e
 exact bs e (aU (by simp) (aE rfl rfl))
theorem DF{l:List Sd}(hl:l.length<=9223372036854775807)(hs:mA h p f l a)(hb:base<=h.length)(hp:∀ b,p b->b<h.length)(h0:0<=left)(h1:left<=1048576):
  ∃ z h',run (Et base) 13 [.slice a l.length l.length,.int .i64 left] h=some (.int .i64 z,h')/\KB bp h h'/\z<=left/\-1<=z/\(¬z<0->l.length<=1048576/\(∀ x∈l,jJ f x.t)/\z+((l.length+dt (λx=>eH f x.t) l:Nat):Int)<=left):=by
 by_cases c:left-(l.length:Int)<0
 ·refine ⟨-1,h,Am.lF ?_,KB.refl _ _,by omega,by omega,λh=>absurd (by decide) h⟩
  rw [bm (by omega) (by omega)]
  exact aE (decide_eq_true c) rfl
 ·obtain ⟨e,z,h2,m1,m2,m3,m4,m5,m6⟩:=Aj (base:=base) (f:=f) (by omega) l.length 0 h (left-l.length) (by omega) hs hb hp (by omega) (by omega)
  refine ⟨z,h2,Am.lF ?_,m3,by omega,m5,λhz=>⟨by omega,λx hx=>?_,by have:=(m6 hz).2;simp only [cH] at this;omega⟩⟩
  ·rw [bm (by omega) (by omega)]
   rw [show ((0:Nat):Int)=0 from rfl] at m1
   refine aU (by simpa using c) (bs m1 ?_)
   rcases m2 with rfl|rfl
   ·exact aE rfl (bI rfl rfl)
   ·exact aU (by simp) (aE rfl (bI rfl rfl))
  ·obtain ⟨j,hj,rfl⟩:=gk.1 hx
   exact (m6 hz).1 j _ (by omega) (bk hj)
theorem DG{t:Tm}(hm:cD h p f t (ah k n s a m))(hB:jJ f t)(hb:base<=h.length)(hp:∀ b,p b->b<h.length):
  ∃ k' n' s' a' m' h',run (Et base) 50 [.agg (dr kind pid k n s a m).toArray] h=some (.agg (dr kind pid k' n' s' a' m').toArray,h')/\jG f (iS h.length h'.length) h' t (ah k' n' s' a' m')/\KB bp h h':=by
 obtain ⟨o1,k1,q1⟩:=aI (base:=base) (t:=79) (h:=h) (cs:=dr kind pid k n s a m) hb rfl
 generalize da:h++[some (⟨dr kind pid k n s a m,79⟩:df)]=h1 at o1 k1 q1
 obtain ⟨o2,k2,q2⟩:=aI (base:=base) (t:=82) (h:=h1) (cs:=dr 0 0 0 0 ⟨#[]⟩ none 0) (by omega) rfl
 generalize nO:h1++[some (⟨dr 0 0 0 0 ⟨#[]⟩ none 0,82⟩:df)]=h2 at o2 k2 q2
 obtain ⟨o3,k3,q3⟩:=aI (base:=base) (t:=82) (h:=h2) (cs:=dr 0 0 0 0 ⟨#[]⟩ none 0) (by omega) rfl
 generalize IB:h2++[some (⟨dr 0 0 0 0 ⟨#[]⟩ none 0,82⟩:df)]=h3 at o3 k3 q3
 have fg:KB bp h h3:=kN (kN k1 k2) k3
 have a3:=(o1.aj k2).aj k3
 have z3:=o2.aj k3
 obtain ⟨h5,e5,o5,k5,l5⟩:=o3.fF (i:=0) (new:=[.int .i64 kind]) (by simp) (by simp)
 have a5:=a3.bF k5 λi hi=>by rw [aG] at hi;omega
 have z5:=z3.bF k5 λi hi=>by rw [aG] at hi;omega
 obtain ⟨h7,e7,o7,k7,l7⟩:=o5.fF (i:=1) (new:=[.int .i64 pid]) (by simp [setAt]) (by simp)
 have a7:=a5.bF k7 λi hi=>by rw [aG] at hi;omega
 have z7:=z5.bF k7 λi hi=>by rw [aG] at hi;omega
 have m7:=cD.ax k7 (λb h1 h2=>by have:=hp b h1;omega) _ _ _ (cD.ax k5 (λb h1 h2=>by have:=hp b h1;omega) _ _ _ (cD.ax fg (λ_ _ h=>h) _ _ _ hm))
 obtain ⟨cs,lZ,Nm,m12,zO⟩:=Dd (base:=base) f h7 p t _ m7 hB (by omega) (λb zy=>by have:=hp b zy;omega)
 have fS:=zO.1
 obtain ⟨k',n',s',a',m',rfl⟩:=m12.form
 obtain ⟨ku,e18,Yi,Zk,pu⟩:=(o7.aj zO).fF (i:=2) (new:=ah k' n' s' a' m') (by simp [setAt]) (by simp)
 have X5:=(z7.aj zO).bF Zk λi hi=>by rw [aG] at hi;omega
 have m18:=jG.kp _ _ _ _ _ _ _ Zk (λb h1 h2=>by omega) m12
 have Bq:setAt (setAt (setAt (dr 0 0 0 0 ⟨#[]⟩ none 0) 0 [.int .i64 kind]) 1 [.int .i64 pid]) 2 (ah k' n' s' a' m')=dr kind pid k' n' s' a' m':=rfl
 rw [Bq] at Yi
 obtain ⟨Oo,e25,Yj,k25,Ba⟩:=X5.fF (i:=0) (new:=dr kind pid k' n' s' a' m') (by simp) (by simp)
 have hz:setAt (dr 0 0 0 0 ⟨#[]⟩ none 0) 0 (dr kind pid k' n' s' a' m')=dr kind pid k' n' s' a' m':=rfl
 rw [hz] at Yj
 have m25:=jG.kp _ _ _ _ _ _ _ k25 (λb h1 h2=>by omega) m18
 have X6:KB bp h Oo:=bR (bR (bR (bR (bR fg k5 λi hi=>by omega) k7 λi hi=>by omega) zO λi hi=>hi.elim) Zk λi hi=>by omega) k25 λi hi=>by omega
 refine ⟨k',n',s',a',m',Oo,Am.r50 (lets λkg eh=>?_),jG.mo _ _ _ _ _ _ (λb cy=>by constructor<;>omega) m25,X6⟩
 rw [da] at eh
 subst eh
 refine lets λM9 eh=>?_
 rw [nO] at eh
 subst eh
 refine lets λh3' eh=>?_
 rw [IB] at eh
 subst eh
 refine bI (a3.ap (i:=0) rfl) (bs e5 (bI (a5.ap (i:=1) rfl) (bs e7 ?_)))
 refine bI (a7.ap (i:=2) rfl) (bI (a7.ap (i:=3) rfl) (bT (a7.ap (i:=4) rfl) (bS (a7.ap (i:=5) rfl) ?_)))
 refine bs Nm (bs (v:=ah k' n' s' a' m') rfl (bI rfl (bI rfl (bT rfl (bS rfl (bs e18 ?_))))))
 refine bI (Yi.ap (i:=0) rfl) (bI (Yi.ap (i:=1) rfl) (bI (Yi.ap (i:=2) rfl) (bI (Yi.ap (i:=3) rfl) (bT (Yi.ap (i:=4) rfl) (bS (Yi.ap (i:=5) rfl) (bs e25 ?_))))))
 exact bI (Yj.ap (i:=0) rfl) (bI (Yj.ap (i:=1) rfl) (bI (Yj.ap (i:=2) rfl) (bI (Yj.ap (i:=3) rfl) (bT (Yj.ap (i:=4) rfl) (bS (Yj.ap (i:=5) rfl) rfl)))))
theorem wY{l:List Sd}{ob:Nat}(hl:l.length<=1048576)(hB:∀ x∈l,jJ f x.t)(hp:∀ b,p b->b<ob):∀ (d i:Nat) (h:AH) (vs:List Value),i+d=l.length->mA h p f l a->ob<h.length->base<=h.length->bQ base 82 h (ap ob) vs->vs.length=l.length*6 ->
  bC 6 (gz f) (iS (ob+1) h.length) h (l.take i) vs ->
  ∃ h' ji,aF (LS base) [some (.slice a l.length l.length),some (.slice (ap ob) l.length l.length),some (.int .i64 (i:Int))] h=some (2,[some (.slice (ap ob) l.length l.length)],h')/\bQ base 82 h' (ap ob) ji/\ji.length=l.length*6 /\
   bC 6 (gz f) (iS (ob+1) h'.length) h' l ji/\KB (· = ob) h h':=by
 intro d
 induction d with
 | zero=>
  intro i h vs hi hs ho hb ow hv hd
  rw [cG (by omega)] at hd
  refine ⟨h,vs,?_,ow,hv,hd,KB.refl _ _⟩
  refine aC (by decide) ?_
  rw [Cd]
  exact aU (by simp;omega) rfl
 | succ d fJ=>
  intro i h vs hi hs ho hb ow hv hd
  have aS:i<l.length:=by omega
  obtain ⟨ad,k,n,s,a2,m,rfl,eN,g0,g1,g2,g3,g4,g5,hm⟩:=hs.get aS
  obtain ⟨k',n',s',a',m',h1,e1,m1,k1⟩:=DG (base:=base) (kind:=l[i].kind) (pid:=l[i].pid) hm (hB _ (aQ aS)) hb (λb zy=>by have:=hp b zy;omega)
  have n1:=k1.1
  obtain ⟨h2,w1,w2,w3,w4⟩:=(ow.aj k1).fF (i:=i*6) (new:=dr l[i].kind l[i].pid k' n' s' a' m') (by simp;omega) (by simp)
  have vr:KB (· = ob) h h2:=X2 k1 w3
  have m2:=gz.kp f _ _ _ _ l[i] (dr l[i].kind l[i].pid k' n' s' a' m') w3 (λb (cy:iS h.length h1.length b) e=>by omega) ⟨_,_,_,_,_,rfl,m1⟩
  have ch:=(hd.ax (gz.kp _) vr λb cy e=>by omega).snoc (ji:=setAt vs (i*6) (dr l[i].kind l[i].pid k' n' s' a' m')) (S':=iS (ob+1) h2.length) m2 (λb cy hc=>by omega) (λb cy=>by constructor<;>omega) (λb cy=>by constructor<;>omega) (λq hq=>fW rfl (by omega) (by simp at hq;omega)) (by
   rw [iV,pB (by omega)]
   exact gr rfl (by omega))
  rw [<- ed aS] at ch
  obtain ⟨h3,vs3,y1,y2,y3,y4,y5⟩:=fJ (i+1) h2 (setAt vs (i*6) (dr l[i].kind l[i].pid k' n' s' a' m')) (by omega) (hs.ax vr λb h1 h2=>by have:=hp b h1;omega) (by omega) (by omega) w2 (by simp [setAt];omega) ch
  refine ⟨h3,vs3,?_,y2,y3,y4,KB.trans vr y5 (λ_ _ h=>h) (λ_ _ h=>h)⟩
  refine bl ?_ y1
  rw [Cd]
  refine aE (decide_eq_true (by omega)) (aE ⟨by omega,by omega⟩ (bs rfl ?_))
  simp only [aM]
  refine bI g0 (bI g1 (bI g2 (bI g3 (bT g4 (bS g5 ?_)))))
  refine bs e1 ?_
  refine bs (v:=dr l[i].kind l[i].pid k' n' s' a' m') rfl (bI rfl (bI rfl (bI rfl (bI rfl (bT rfl (bS rfl ?_))))))
  refine aE ⟨by omega,by omega⟩ (bs rfl ?_)
  have w1':Am.wr base h1 ob (0+i*6) (dr l[i].kind l[i].pid k' n' s' a' m')=some h2:=by rw [cQ];exact w1
  refine bs w1' ?_
  rw [bm (n:=(i:Int)+1) (by omega) (by omega)]
  rfl
theorem Al{l:List Sd}(hl:l.length<=1048576)(hB:∀ x∈l,jJ f x.t)(hs:mA h p f l a)(hb:base<=h.length)(hp:∀ b,p b->b<h.length):
  ∃ a' h',run (Et base) 20 [.slice a l.length l.length] h=some (.slice a' l.length l.length,h')/\a_ base 82 6 (gz f) (iS h.length h'.length) h' l a'/\KB bp h h':=by
 obtain ⟨o1,k1,q1⟩:=aI (base:=base) (t:=82) (h:=h) (cs:=lz [(.int .i64 0),(.int .i64 0),(.int .i64 0),(.int .i64 0),(.string ⟨#[]⟩),(.slice none 0 0)] l.length) hb rfl
 generalize da:h++[some (⟨lz [(.int .i64 0),(.int .i64 0),(.int .i64 0),(.int .i64 0),(.string ⟨#[]⟩),(.slice none 0 0)] l.length,82⟩:df)]=h1 at o1 k1 q1
 obtain ⟨h2,Dc,e2,o2,v2,m2,k2⟩:=wY (base:=base) (p:=p) (ob:=h.length) hl hB hp l.length 0 h1 _ (by omega) (hs.ax k1 λ_ _ h=>h) (by omega) (by omega) o1 (DD ..) bC.nil
 have n2:=k2.1
 refine ⟨ap h.length,h2,Am.sZ ?_,⟨Dc,iS (h.length+1) h2.length,o2,v2,λb cy=>by rw [aG] at cy;subst cy;exact ⟨by constructor<;>omega,by omega⟩,λb cy=>by constructor<;>omega,m2⟩,KB.trans k1 k2 (λ_ _ h=>h) (λi hi h=>by omega)⟩
 refine aE ⟨rfl,by omega,by omega,by omega⟩ (lets λkg eh=>?_)
 simp only [aM] at eh ⊢
 rw [da] at eh
 subst eh
 rw [show ((0:Nat):Int)=0 from rfl] at e2
 exact bs e2 (aE rfl (bS rfl rfl))
theorem vE{n:Nat}(hn:n<=maxLen):∀ (r done:List Sd) (h:AH) (k:Int),done.length+r.length=n->fk 6 (gz f) S h (done++r) a->(∀ b,S b->base<=b/\b<h.length)->0<=k->k+rI f r<=1000000000 ->
  ∃ r' h',aF (Mv base) [some (.slice a n n),some (.int .i64 k),some (.int .i64 (done.length:Int))] h=some (2,[some (.int .i64 (k+rI f r))],h')/\fk 6 (gz f) S h' (done++r') a/\r'.length=r.length/\wX r' k (k+rI f r)/\KB S h h':=by
 simp only [maxLen] at hn
 intro r
 induction r with
 | nil=>
  intro done h k hd hr hS h0 hk
  refine ⟨[],h,?_,hr,rfl,?_,KB.refl _ _⟩
  ·refine aC (by decide) ?_
   rw [CA]
   refine aU (by simp at hd ⊢;omega) ?_
   simp [rI,dt]
  ·simp only [rI,dt,List.length_nil]
   have:k+((5*0+3*0:Nat):Int)=k:=by omega
   rw [this]
   exact .nil k
 | cons t r X8=>
  intro done h k hd hr hS h0 hk
  simp only [g_] at hd
  have aS:done.length<(done++t :: r).length:=by simp
  obtain ⟨Ci,cs,fo,hP,nI,qE,tI⟩:=hr.open (by decide) aS
  rw [sB aS] at hP
  obtain ⟨kind,pid,tt⟩:=t
  obtain ⟨kk,nn,ss,a2,m,bV,hP⟩:=hP
  cases f with
  | zero=>exact hP.elim
  | succ f=>
   obtain ⟨kk',nn',ss',l⟩:=tt
   obtain ⟨hs1,A1,a3,FO,wF⟩:=hP
   injection FO with q0 FO
   injection FO with q1 FO
   injection FO with q2 FO
   injection FO with q3 _
   injection q0 with _ q0;injection q1 with _ q1;injection q2 with q2;injection q3 with q3 q4 _
   subst q0;subst q1;subst q2;subst q3;subst q4
   subst bV
   have X9:rI (f+1) (⟨kind,pid,.mk kk nn ss l⟩ :: r)=5+3*((l.length+dt (eH f) l:Nat):Int)+rI (f+1) r:=by
    simp only [rI,dt,eH,g_];omega
   rw [X9] at hk ⊢
   have VC:0<=rI (f+1) r:=by unfold rI;omega
   have zG:∀ b,S b->base<=b:=λb hb=>(hS b hb).1
   obtain ⟨ad,h1,rfl,w1,fo1,k1,n1⟩:=fo.wr (gz.kp _) zG (j:=0) (new:=[.int .i64 k]) (by simp) (by simp)
   obtain ⟨rv,h2,fT,w2,X_,k2,n2⟩:=fo1.wr (gz.kp _) zG (j:=1) (new:=[.int .i64 (k+1)]) (by simp) (by simp)
   injection fT with fT
   subst fT
   obtain ⟨rv,M9,fT,w2',akW,Jf,n2'⟩:=X_.wr (gz.kp _) zG (j:=2) (new:=[.int .i64 (k+1+1)]) (by simp) (by simp)
   injection fT with fT
   subst fT
   obtain ⟨rv,akX,fT,akY,aeo,akZ,aly⟩:=akW.wr (gz.kp _) zG (j:=3) (new:=[.int .i64 (k+1+1+1)]) (by simp) (by simp)
   injection fT with fT
   subst fT
   obtain ⟨h3,e3,k3⟩:=gu (base:=base) (h:=akX) (k:=k+1+1+1+1) (by omega)
   have n3:=k3.1
   have Zl:=aeo.ax (gz.kp _) k3 λ_ _ h=>h.elim
   obtain ⟨rv,h4,fT,w4,OE,k4,n4⟩:=Zl.wr (gz.kp _) zG (j:=4) (new:=[.string (mt (k+1+1+1+1))]) (by simp) (by simp)
   injection fT with fT
   subst fT
   have bV:setAt (setAt (setAt (setAt (setAt (dr kind pid kk nn ss a2 l.length) 0 [.int .i64 k]) 1 [.int .i64 (k+1)]) 2 [.int .i64 (k+1+1)]) 3 [.int .i64 (k+1+1+1)]) 4 [.string (mt (k+1+1+1+1))]=dr k (k+1) (k+1+1) (k+1+1+1) (mt (k+1+1+1+1)) a2 l.length:=rfl
   rw [bV] at OE
   obtain ⟨rv,fT,g4⟩:=OE.cell (j:=5) (v:=.slice a2 l.length l.length) rfl
   injection fT with fT
   subst fT
   have kA:KB (bK (some ad)) h h4:=KB.trans (KB.trans (KB.trans (KB.trans (KB.trans k1 k2 (λ_ _ h=>h) (λ_ _ h=>h)) Jf (λ_ _ h=>h) (λ_ _ h=>h)) akZ (λ_ _ h=>h) (λ_ _ h=>h)) k3 (λ_ _ h=>h) (λ_ _ h=>h.elim)) k4 (λ_ _ h=>h) (λ_ _ h=>h)
   have Nb:fk 4 (jG f) Ci h4 l a2:=wF.ax (jG.kp _) kA λb hb hk=>tI b hk hb
   obtain ⟨l',h5,e5,X',Nc,m5,k5⟩:=jA (base:=base) f l h4 Ci a2 (k+1+1+1+1+1) Nb A1 (λb hb=>⟨(hS b (qE b hb)).1,by have:=(hS b (qE b hb)).2;have:=kA.1;omega⟩) (by omega) (by omega)
   have fo5:=OE.ax (gz.kp _) k5 λb _ hb=>hb
   have U0:=fo5.close (y:=⟨k,k+1,.mk (k+1+1) (k+1+1+1) (mt (k+1+1+1+1)) l'⟩) ⟨_,_,_,_,_,rfl,by have:=G8 (k+1+1+1+1);simp only [maxLen];omega,by rw [Nc];exact A1,a2,by rw [Nc],X'⟩
   rw [sA,show done++(⟨k,k+1,.mk (k+1+1) (k+1+1+1) (mt (k+1+1+1+1)) l'⟩:Sd) :: r=(done++[(⟨k,k+1,.mk (k+1+1) (k+1+1+1) (mt (k+1+1+1+1)) l'⟩:Sd)])++r from by simp] at U0
   have kB:KB S h h5:=KB.trans kA k5 (λb _ hb=>by
    obtain ⟨vs,T,C,_,_,x3,_⟩:=fo
    exact (x3 b hb).1) (λb _ hb=>qE b hb)
   obtain ⟨r',h6,e6,Nd,Nf,m6,k6⟩:=X8 (done++[(⟨k,k+1,.mk (k+1+1) (k+1+1+1) (mt (k+1+1+1+1)) l'⟩:Sd)]) h5 (k+1+1+1+1+1+3*((l.length+dt (eH f) l:Nat):Int)) (by simp;omega) U0 (λb hb=>⟨(hS b hb).1,by have:=(hS b hb).2;have:=kB.1;omega⟩) (by omega) (by omega)
   have ek:k+1+1+1+1+1+3*((l.length+dt (eH f) l:Nat):Int)+rI (f+1) r=k+(5+3*((l.length+dt (eH f) l:Nat):Int)+rI (f+1) r):=by omega
   rw [ek] at e6 m6
   refine ⟨⟨k,k+1,.mk (k+1+1) (k+1+1+1) (mt (k+1+1+1+1)) l'⟩ :: r',h6,?_,by simpa using Nd,by simp [Nf],?_,KB.trans kB k6 (λ_ _ h=>h) (λ_ _ h=>h)⟩
   ·refine bl ?_ e6
    rw [CA]
    have dg:(done.length:Int)<(n:Int):=by omega
    refine aE (decide_eq_true dg) (aE ⟨by omega,dg⟩ (bs rfl ?_))
    simp only [aM]
    refine bs w1 (aE ⟨by omega,dg⟩ (bs rfl ?_))
    rw [bm (n:=k+1) (by omega) (by omega)]
    refine bs w2 (aE ⟨by omega,dg⟩ (bs rfl ?_))
    rw [bm (n:=k+1+1) (by omega) (by omega)]
    refine bs w2' (aE ⟨by omega,dg⟩ (bs rfl ?_))
    rw [bm (n:=k+1+1+1) (by omega) (by omega)]
    refine bs akY ?_
    rw [bm (n:=k+1+1+1+1) (by omega) (by omega)]
    refine bs e3 (bT rfl (aE ⟨by omega,dg⟩ (bs rfl (bs w4 (aE ⟨by omega,dg⟩ (bs rfl (bS g4 ?_)))))))
    rw [bm (n:=k+1+1+1+1+1) (by omega) (by omega)]
    refine bs e5 (bI rfl ?_)
    rw [bm (n:=(done.length:Int)+1) (by omega) (by omega)]
    simp
   ·rw [show k+1+1+1+1+1=k+5 from by omega] at m5 m6
    rw [show k+1+1+1+1=k+4 from by omega,show k+1+1+1=k+3 from by omega,show k+1+1=k+2 from by omega]
    exact .cons m5 m6
theorem wZ{l:List Sd}(hr:fk 6 (gz f) S h l a)(hl:l.length<=maxLen)(hS:∀ b,S b->base<=b/\b<h.length)(h0:0<=k)(hk:k+rI f l<=1000000000):
  ∃ l' h',run (Et base) 32 [.slice a l.length l.length,.int .i64 k] h=some (.int .i64 (k+rI f l),h')/\fk 6 (gz f) S h' l' a/\l'.length=l.length/\wX l' k (k+rI f l)/\KB S h h':=by
 obtain ⟨l',h',e,row,len,m,kk⟩:=vE (base:=base) hl l [] h k (by simp) (by simpa using hr) hS h0 hk
 exact ⟨l',h',Am.Ur (bs e (aE rfl (bI rfl rfl))),by simpa using row,len,m,kk⟩
theorem vF:∀ {r:List Sd} {k k':Int},wX r k k'->0<=k->k'<=1000000000->∀ (f:Nat) (h:AH) (p:Nat->Prop) (L:List Sd) (i:Nat) (a:Option Addr),L.drop i=r->i<=L.length->L.length<=9223372036854775807->mA h p f L a->base<=h.length ->
  ∃ h',aF (My base) [some (.slice a L.length L.length),some (.int .i64 k),some (.int .i64 (i:Int))] h=some (2,[some (.int .i64 k')],h')/\KB bp h h':=by
 intro r k k' hm
 induction hm with
 | nil k=>
  intro h0 hk f h p L i a hr hi hL hs hb
  refine ⟨h,?_,KB.refl _ _⟩
  refine aC (by decide) ?_
  rw [CF]
  have:L.length<=i:=by simpa using hr
  exact aU (by simp;omega) rfl
 | @cons k k1 k2 l r m1 m2 UY=>
  intro h0 hk f h p L i a hr hi hL hs hb
  have le1:=m1.le
  have le2:=m2.le
  have aS:i<L.length:=by
   rcases mO i L.length with h|h
   ·exact h
   ·rw [dZ h] at hr;cases hr
  rw [dJ aS] at hr
  injection hr with Q7 wl
  obtain ⟨ad,kk,nn,ss,a2,m,rfl,eN,g0,g1,g2,g3,g4,g5,yN⟩:=hs.get aS
  rw [Q7] at yN g0 g1
  cases f with
  | zero=>exact yN.elim
  | succ f=>
   obtain ⟨a3,bV,vo,_,G9⟩:=yN.parts
   simp only [maxLen] at G9
   injection bV with q0 bV
   injection bV with q1 bV
   injection bV with q2 bV
   injection bV with q3 _
   injection q0 with _ q0;injection q1 with _ q1;injection q2 with q2;injection q3 with q3 q4 _
   subst q0;subst q1;subst q2;subst q3;subst q4
   obtain ⟨h1,e1,Ei⟩:=gu (base:=base) (h:=h) (k:=k+1+1+1+1) (by omega)
   have n1:=Ei.1
   obtain ⟨h2,e2,Fu⟩:=lG (base:=base) m1 (by omega) (by omega) (by omega) (vo.ax Ei λ_ _ h=>h) (by omega)
   have Fv:KB bp h h2:=kN Ei Fu
   have n2:=Fv.1
   obtain ⟨h3,e3,Zm⟩:=UY (by omega) hk (f+1) h2 p L (i+1) (some ad) wl (by omega) hL (hs.ax Fv λ_ _ h=>h) (by omega)
   refine ⟨h3,?_,kN Fv Zm⟩
   refine bl ?_ e3
   rw [CF]
   have dg:(i:Int)<(L.length:Int):=by omega
   refine aE (decide_eq_true dg) (aE ⟨by omega,dg⟩ (bs rfl ?_))
   simp only [aM]
   refine bI g0 (aU (by simp) (aE ⟨by omega,dg⟩ (bs rfl (bI g1 ?_))))
   rw [bm (n:=k+1) (by omega) (by omega)]
   refine aU (by simp) (aE ⟨by omega,dg⟩ (bs rfl (bI g2 ?_)))
   rw [bm (n:=k+1+1) (by omega) (by omega)]
   refine aU (by simp;omega) (aE ⟨by omega,dg⟩ (bs rfl (bI g3 ?_)))
   rw [bm (n:=k+1+1+1) (by omega) (by omega)]
   refine aU (by simp;omega) (aE ⟨by omega,dg⟩ (bs rfl (bT g4 ?_)))
   rw [bm (n:=k+1+1+1+1) (by omega) (by omega)]
   refine bs e1 (bT rfl ?_)
   rw [iP (d_ Ei g4)]
   refine aU (by rw [show k+1+1+1+1=k+4 from by omega];simp) (aE ⟨by omega,dg⟩ (bs rfl (bS (su Ei g5) ?_)))
   rw [bm (n:=k+1+1+1+1+1) (by omega) (by omega),show k+1+1+1+1+1=k+5 from by omega]
   refine bs e2 (bI rfl (aU (by simp;omega) ?_))
   rw [bm (n:=(i:Int)+1) (by omega) (by omega)]
   simp
theorem w6{l:List Sd}(m:wX l k k')(h0:0<=k)(hk:k'<=1000000000)(hl:l.length<=9223372036854775807)(hs:mA h p f l a)(hb:base<=h.length):
  ∃ h',run (Et base) 35 [.slice a l.length l.length,.int .i64 k] h=some (.int .i64 k',h')/\KB bp h h':=by
 obtain ⟨h',e,kk⟩:=vF (base:=base) m h0 hk f h p l 0 a (by simp) (by omega) hl hs hb
 rw [show ((0:Nat):Int)=0 from rfl] at e
 exact ⟨h',Am.Ov (bs e (aU (by simp) (aE rfl (bI rfl rfl)))),kk⟩
structure Pl where
 code:List In
 ai:List Ac
 next:Int
 out:List Sd
variable{P:Pl}
abbrev dK(a:Option Addr)(n:Nat)(b:Option Addr)(m:Nat)(v:Int)(g:Option Addr)(q:Nat):List Value:=[.slice a n n,.slice b m m,.int .i64 v,.slice g q q]
def tL(h:AH)(p:Nat->Prop)(f:Nat)(P:Pl)(cs:List Value):Prop:=
 ∃ a b g,cs=dK a P.code.length b P.ai.length P.next g P.out.length/\Sl h a (cV P.code)/\(cV P.code = []\/∀ x,bK a x->p x)/\js h p f P.ai b/\mA h p f P.out g
def IL(P:Pl):Prop:=P.code.length<=9223372036854775807/\(∀ x∈P.code,x.s.size<=9223372036854775807)/\P.ai.length<=9223372036854775807/\(∀ A∈P.ai,Nj A)/\P.out.length<=9223372036854775807
def Nx(f:Nat)(P:Pl):Prop:=P.code.length<=1048576/\(∀ x∈P.code,x.s.size<=1048576)/\P.ai.length<=1048576/\(∀ A∈P.ai,x_ f A)/\P.out.length<=1048576/\(∀ x∈P.out,jJ f x.t)
theorem Nx.M{f:Nat}{P:Pl}(x:Nx f P):IL P:=by
 obtain ⟨h1,h2,h3,h4,h5,_⟩:=x
 exact ⟨by omega,λx hx=>by have:=h2 x hx;omega,by omega,λA hA=>(h4 A hA).M,by omega⟩
def Jg(base f:Nat)(S:Fp)(h:AH)(P:Pl)(cs:List Value):Prop:=
 ∃ (a b g:Option Addr) (S1 S2 S3:Fp),cs=dK a P.code.length b P.ai.length P.next g P.out.length/\bQ base 89 h a (cV P.code)/\(∀ x,bK a x->S1 x)/\fk 5 (wh base f) S2 h P.ai b/\fk 6 (gz f) S3 h P.out g /\
  (∀ x,S1 x->S x)/\(∀ x,S2 x->S x)/\(∀ x,S3 x->S x)/\(∀ x,S1 x->¬S2 x)/\(∀ x,S1 x->¬S3 x)/\(∀ x,S2 x->¬S3 x)
def lJ(base f:Nat)(S:Fp)(h:AH)(P:Pl)(cs:List Value):Prop:=
 ∃ (a b g:Option Addr) (S1 S2 S3:Fp),cs=dK a P.code.length b P.ai.length P.next g P.out.length/\bQ base 89 h a (cV P.code)/\(∀ x,bK a x->S1 x)/\a_ base 53 5 (b_ base f) S2 h P.ai b/\a_ base 82 6 (gz f) S3 h P.out g /\
  (∀ x,S1 x->S x)/\(∀ x,S2 x->S x)/\(∀ x,S3 x->S x)/\(∀ x,S1 x->¬S2 x)/\(∀ x,S1 x->¬S3 x)/\(∀ x,S2 x->¬S3 x)
theorem lJ.plD(x:lJ base f S h P cs):Jg base f S h P cs:=by
 obtain ⟨a,b,g,S1,S2,S3,e,h1,h2,h3,h4,h5⟩:=x
 exact ⟨a,b,g,S1,S2,S3,e,h1,h2,h3.d.imp λ_ _ _ _=>b_.acD,h4.d,h5⟩
theorem lJ.kp(base f:Nat):Kp (lJ base f):=λS U h h' P cs k hs x=>by
 obtain ⟨a,b,g,S1,S2,S3,e,h1,h2,h3,h4,s1,s2,s3,d1,d2,d3⟩:=x
 exact ⟨a,b,g,S1,S2,S3,e,h1.ax k λb hb=>hs b (s1 b (h2 b hb)),h2,h3.ax (b_.kp _ _) k λb hb=>hs b (s2 b hb),h4.ax (gz.kp _) k λb hb=>hs b (s3 b hb),s1,s2,s3,d1,d2,d3⟩
theorem mA.Ny{r:Nat->Prop}{l:List Sd}(x:mA h p f l a)(hq:∀ b,p b->r b):mA h r f l a:=by
 obtain ⟨vs,h1,h2,h3,h4⟩:=x
 exact ⟨vs,h1,h2.imp id λg b hb=>hq b (g b hb),h3,λi t hi=>by
  obtain ⟨cs,e,hm⟩:=h4 i t hi
  exact ⟨cs,e,hm.mono hq _ _ _⟩⟩
theorem js.Ny{r:Nat->Prop}(x:js h p f l a)(hq:∀ b,p b->r b):js h r f l a:=by
 obtain ⟨vs,h1,h2,h3,h4⟩:=x
 exact ⟨vs,h1,h2.imp id λg b hb=>hq b (g b hb),h3,λi t hi=>(h4 i t hi).mono hq⟩
theorem tL.ax{h h':AH}{p S:Nat->Prop}(k:KB S h h')(hp:∀ b,p b->¬S b){f:Nat}{P:Pl}{cs:List Value}(x:tL h p f P cs):tL h' p f P cs:=by
 obtain ⟨a,b,g,e,h1,h2,h3,h4⟩:=x
 refine ⟨a,b,g,e,?_,h2,h3.ax k hp,h4.ax k hp⟩
 rcases h2 with e|h2
 ·exact .inl e
 ·exact h1.ax k λb hb hs=>hp b (h2 b hb) hs
theorem Jg.FP(x:Jg base f S h P cs):tL h S f P cs:=by
 obtain ⟨a,b,g,S1,S2,S3,e,h1,h2,h3,h4,s1,s2,s3,_⟩:=x
 exact ⟨a,b,g,e,h1.sl,.inr λx hx=>s1 x (h2 x hx),h3.wj.Ny s2,h4.ssR.Ny s3⟩
theorem Jg.kp(base f:Nat):Kp (Jg base f):=λS U h h' P cs k hs x=>by
 obtain ⟨a,b,g,S1,S2,S3,e,h1,h2,h3,h4,s1,s2,s3,d1,d2,d3⟩:=x
 exact ⟨a,b,g,S1,S2,S3,e,h1.ax k λb hb=>hs b (s1 b (h2 b hb)),h2,h3.ax (wh.kp _ _) k λb hb=>hs b (s2 b hb),h4.ax (gz.kp _) k λb hb=>hs b (s3 b hb),s1,s2,s3,d1,d2,d3⟩
theorem Jg.form(x:Jg base f S h P cs):∃ a n b m v g q,cs=dK a n b m v g q:=by
 obtain ⟨a,b,g,S1,S2,S3,e,_⟩:=x
 exact ⟨_,_,_,_,_,_,_,e⟩
theorem lJ.FP{base f:Nat}{S:Fp}{h:AH}{P:Pl}{cs:List Value}(x:lJ base f S h P cs):tL h S f P cs:=x.plD.FP
theorem lJ.form{base f:Nat}{S:Fp}{h:AH}{P:Pl}{cs:List Value}(x:lJ base f S h P cs):∃ a n b m v g q,cs=dK a n b m v g q:=x.plD.form
theorem DH(hM:IL P)(x:tL h p f P cs)(hb:base<=h.length)(hp:∀ b,p b->b<h.length):
  ∃ z h',run (Et base) 4 [.agg cs.toArray,.int .i64 1048576] h=some (.int .i64 z,h')/\KB bp h h'/\(¬z<0->Nx f P/\((P.ai.length+dt (FI f) P.ai:Nat):Int)+((P.out.length+dt (λx=>eH f x.t) P.out:Nat):Int)<=1048576/\0<=z/\z+((P.ai.length+dt (FI f) P.ai:Nat):Int)+((P.out.length+dt (λx=>eH f x.t) P.out:Nat):Int)<=1048576):=by
 obtain ⟨a,b,g,rfl,hr,_,hx,ho⟩:=x
 obtain ⟨m1,m2,m3,m4,m5⟩:=hM
 obtain ⟨o1,k1,q1⟩:=aI (base:=base) (t:=26) (h:=h) (cs:=dK a P.code.length b P.ai.length P.next g P.out.length) hb rfl
 generalize da:h++[some (⟨dK a P.code.length b P.ai.length P.next g P.out.length,26⟩:df)]=kg at o1 k1 q1
 obtain ⟨z2,h2,e2,k2,y⟩:=FB (base:=base) (h:=kg) m2 m1 (hr.aj k1) (by omega)
 have n2:=k2.1
 have dH:=kN k1 k2
 have go:∀ {r:Value×AH},((if (decide (z2<(0:Int)))=true then some (.int .i64 (-1:Int),h2) else ((cell h2 (ae h) 1).bind aN).bind λl5=>(run (Et base) 12 [(.slice l5.1 l5.2 l5.2),(.int .i64 z2)] h2).bind λr6=>((some r6.1).bind (au .i64)).bind λn7=>
   (if (decide (n7<(0:Int)))=true then some ((.int .i64 (-1:Int)),r6.2) else ((cell r6.2 (ae h) 3).bind aN).bind λl8=>(run (Et base) 13 [(.slice l8.1 l8.2 l8.2),(.int .i64 n7)] r6.2).bind λr9=>((some r9.1).bind (au .i64)).bind λfl=>(if (decide (fl<(0:Int)))=true then some ((.int .i64 (-1:Int)),r9.2) else some ((.int .i64 fl),r9.2))))=some r) ->
   run (Et base) 4 [.agg (dK a P.code.length b P.ai.length P.next g P.out.length).toArray,.int .i64 1048576] h=some r:=by
  intro r hr
  refine Am.r4 (lets λy ey=>?_)
  rw [da] at ey
  rw [ey]
  exact bS (o1.ap (i:=0) rfl) (bs e2 (bI rfl hr))
 by_cases c2:z2<0
 ·exact ⟨-1,h2,go (aE (decide_eq_true c2) rfl),dH,λh=>absurd (by decide) h⟩
 obtain ⟨b1,b2,b3⟩:=y c2
 obtain ⟨z3,h3,e3,k3,u1,u2,u3⟩:=Ae (base:=base) (left:=z2) m3 m4 (hx.ax dH λ_ _ h=>h) (by omega) (λb hb=>by have:=hp b hb;omega) (by omega) (by omega)
 have n3:=k3.1
 have fg:=kN dH k3
 by_cases c3:z3<0
 ·exact ⟨-1,h3,go (aU (by simpa using c2) (bS ((o1.aj k2).ap (i:=1) rfl) (bs e3 (bI rfl (aE (decide_eq_true c3) rfl))))),fg,λh=>absurd (by decide) h⟩
 obtain ⟨d1,d2,d3⟩:=u3 c3
 obtain ⟨z4,h4,e4,k4,v1,v2,v3⟩:=DF (base:=base) (left:=z3) m5 (ho.ax fg λ_ _ h=>h) (by omega) (λb hb=>by have:=hp b hb;omega) (by omega) (by omega)
 have oL:=kN fg k4
 by_cases c4:z4<0
 ·exact ⟨-1,h4,go (aU (by simpa using c2) (bS ((o1.aj k2).ap (i:=1) rfl) (bs e3 (bI rfl (aU (by simpa using c3) (bS (((o1.aj k2).aj k3).ap (i:=3) rfl) (bs e4 (bI rfl (aE (decide_eq_true c4) rfl))))))))),oL,λh=>absurd (by decide) h⟩
 ·obtain ⟨w1,w2,w3⟩:=v3 c4
  exact ⟨z4,h4,go (aU (by simpa using c2) (bS ((o1.aj k2).ap (i:=1) rfl) (bs e3 (bI rfl (aU (by simpa using c3) (bS (((o1.aj k2).aj k3).ap (i:=3) rfl) (bs e4 (bI rfl (aU (by simpa using c4) rfl))))))))),oL,λ_=>⟨⟨b1,b2,d1,d2,w1,w2⟩,by omega,by omega,by omega⟩⟩
theorem lu{p2:Nat->Prop}{uf:List Value}(hM:IL P)(hL:∀ A∈P.ai,A.Le)(x:tL h p f P cs)(x2:tL h p2 f2 P uf)(hb:base<=h.length):
  ∃ h',run (Et base) 8 [.agg cs.toArray,.agg uf.toArray] h=some (.bool true,h')/\KB bp h h':=by
 obtain ⟨a,b,g,rfl,hr,_,hx,ho⟩:=x
 obtain ⟨a2,b2,g2,rfl,wl,_,wu,ho2⟩:=x2
 obtain ⟨m1,m2,m3,m4,m5⟩:=hM
 obtain ⟨o1,k1,q1⟩:=aI (base:=base) (t:=32) (h:=h) (cs:=dK a P.code.length b P.ai.length P.next g P.out.length) hb rfl
 generalize da:h++[some (⟨dK a P.code.length b P.ai.length P.next g P.out.length,32⟩:df)]=h1 at o1 k1 q1
 obtain ⟨o2,k2,q2⟩:=aI (base:=base) (t:=32) (h:=h1) (cs:=dK a2 P.code.length b2 P.ai.length P.next g2 P.out.length) (by omega) rfl
 generalize nO:h1++[some (⟨dK a2 P.code.length b2 P.ai.length P.next g2 P.out.length,32⟩:df)]=h2 at o2 k2 q2
 have dH:=kN k1 k2
 have o1:=o1.aj k2
 obtain ⟨h3,e3,k3⟩:=FD (base:=base) (h:=h2) m1 (hr.aj dH) (wl.aj dH) (by omega)
 have fg:=kN dH k3
 have n3:=k3.1
 obtain ⟨h4,e4,k4⟩:=Af (base:=base) m3 hL (hx.aj fg) (wu.aj fg) (by omega)
 have oL:=kN fg k4
 have n4:=k4.1
 obtain ⟨h5,e5,k5⟩:=DE (base:=base) m5 (ho.ax oL λ_ _ h=>h) (ho2.ax oL λ_ _ h=>h) (by omega)
 refine ⟨h5,Am.r8 (lets λy ey=>?_),kN oL k5⟩
 rw [da] at ey
 subst ey
 refine lets λy ey=>?_
 rw [nO] at ey
 subst ey
 refine bS (o1.ap (i:=0) rfl) (bS (o2.ap (i:=0) rfl) (bs e3 (bB rfl (aU (by decide) ?_))))
 refine bS ((o1.aj k3).ap (i:=1) rfl) (bS ((o2.aj k3).ap (i:=1) rfl) (bs e4 (bB rfl (aU (by decide) ?_))))
 refine bI (((o1.aj k3).aj k4).ap (i:=2) rfl) (bI (((o2.aj k3).aj k4).ap (i:=2) rfl) (aU (by simp) ?_))
 exact bS (((o1.aj k3).aj k4).ap (i:=3) rfl) (bS (((o2.aj k3).aj k4).ap (i:=3) rfl) (bs e5 (bB rfl (aU (by decide) rfl))))
theorem lv(hB:Nx f P)(x:tL h p f P cs)(hb:base<=h.length)(hp:∀ b,p b->b<h.length):
  ∃ fy h',run (Et base) 6 [.agg cs.toArray] h=some (.agg fy.toArray,h')/\lJ base f (iS h.length h'.length) h' P fy/\KB bp h h':=by
 obtain ⟨a,b,g,rfl,hr,hrp,hx,ho⟩:=x
 obtain ⟨m1,m2,m3,m4,m5,m6⟩:=hB
 obtain ⟨o1,k1,q1⟩:=aI (base:=base) (t:=26) (h:=h) (cs:=dK a P.code.length b P.ai.length P.next g P.out.length) hb rfl
 generalize da:h++[some (⟨dK a P.code.length b P.ai.length P.next g P.out.length,26⟩:df)]=h1 at o1 k1 q1
 obtain ⟨o2,k2,q2⟩:=aI (base:=base) (t:=32) (h:=h1) (cs:=dK none 0 none 0 0 none 0) (by omega) rfl
 generalize nO:h1++[some (⟨dK none 0 none 0 0 none 0,32⟩:df)]=h2 at o2 k2 q2
 obtain ⟨o3,k3,q3⟩:=aI (base:=base) (t:=32) (h:=h2) (cs:=dK none 0 none 0 0 none 0) (by omega) rfl
 generalize IB:h2++[some (⟨dK none 0 none 0 0 none 0,32⟩:df)]=h3 at o3 k3 q3
 have p3:=(o1.aj k2).aj k3
 have z3:=o2.aj k3
 have fg:=kN (kN k1 k2) k3
 have Ha:∀ {i},bK (ap h.length) i->i≠h2.length:=λhi=>by rw [aG] at hi;omega
 have Dq:∀ {i},bK (ap h1.length) i->i≠h2.length:=λhi=>by rw [aG] at hi;omega
 obtain ⟨h4,e4,r4,k4,l4⟩:=FC (base:=base) m1 (hr.aj fg) (by omega)
 have n4:=k4.1
 obtain ⟨h5,e5,o5,k5,l5⟩:=(o3.aj k4).fF (i:=0) (new:=[.slice (ap h3.length) P.code.length P.code.length]) (by simp) (by simp)
 have p5:=(p3.aj k4).bF k5 λi hi=>Ha hi
 have z5:=(z3.aj k4).bF k5 λi hi=>Dq hi
 have r5:=r4.bF k5 λb hb=>by rw [aG] at hb;omega
 have qZ:KB bp h h5:=bR (kN fg k4) k5 λi hi=>by omega
 obtain ⟨a6,h6,e6,r6,k6⟩:=Ah (base:=base) m3 m4 (hx.aj qZ) (by omega) (λb hb=>by have:=hp b hb;omega)
 have n6:=k6.1
 obtain ⟨h7,e7,o7,k7,l7⟩:=(o5.aj k6).fF (i:=1) (new:=[.slice a6 P.ai.length P.ai.length]) (by simp [setAt]) (by simp)
 have p7:=(p5.aj k6).bF k7 λi hi=>Ha hi
 have z7:=(z5.aj k6).bF k7 λi hi=>Dq hi
 have r7:=(r5.aj k6).bF k7 λb hb=>by rw [aG] at hb;omega
 have s7:=r6.ax (b_.kp _ _) k7 λb hb hk=>by omega
 have Nk:KB bp h h7:=bR (kN qZ k6) k7 λi hi=>by omega
 obtain ⟨h8,e8,o8,k8,l8⟩:=o7.fF (i:=2) (new:=[.int .i64 P.next]) (by simp [setAt]) (by simp)
 have p8:=p7.bF k8 λi hi=>Ha hi
 have z8:=z7.bF k8 λi hi=>Dq hi
 have r8:=r7.bF k8 λb hb=>by rw [aG] at hb;omega
 have s8:=s7.ax (b_.kp _ _) k8 λb hb hk=>by omega
 have Jh:KB bp h h8:=bR Nk k8 λi hi=>by omega
 obtain ⟨a9,h9,e9,t9,k9⟩:=Al (base:=base) m5 m6 (ho.ax Jh λ_ _ h=>h) (by omega) (λb hb=>by have:=hp b hb;omega)
 have n9:=k9.1
 obtain ⟨iO,Qq,U2,uh,ep⟩:=(o8.aj k9).fF (i:=3) (new:=[.slice a9 P.out.length P.out.length]) (by simp [setAt]) (by simp)
 have z10:=(z8.aj k9).bF uh λi hi=>Dq hi
 have ql:=(r8.aj k9).bF uh λb hb=>by rw [aG] at hb;omega
 have sf:=(s8.ax (b_.kp _ _) k9 λ_ _ h=>h).ax (b_.kp _ _) uh λb hb hk=>by omega
 have t10:=t9.ax (gz.kp _) uh λb hb hk=>by omega
 have ak0:KB bp h iO:=bR (kN Jh k9) uh λi hi=>by omega
 have jp:setAt (setAt (setAt (setAt (dK none 0 none 0 0 none 0) 0 [.slice (ap h3.length) P.code.length P.code.length]) 1 [.slice a6 P.ai.length P.ai.length]) 2 [.int .i64 P.next]) 3 [.slice a9 P.out.length P.out.length]=dK (ap h3.length) P.code.length a6 P.ai.length P.next a9 P.out.length:=rfl
 rw [jp] at U2
 obtain ⟨jc,zD,Dr,mz,fw⟩:=z10.fF (i:=0) (new:=dK (ap h3.length) P.code.length a6 P.ai.length P.next a9 P.out.length) (by simp) (by simp)
 have hz:setAt (dK none 0 none 0 0 none 0) 0 (dK (ap h3.length) P.code.length a6 P.ai.length P.next a9 P.out.length)=dK (ap h3.length) P.code.length a6 P.ai.length P.next a9 P.out.length:=rfl
 rw [hz] at Dr
 have ak1:KB bp h jc:=bR ak0 mz λi hi=>by omega
 refine ⟨dK (ap h3.length) P.code.length a6 P.ai.length P.next a9 P.out.length,jc,Am.r6 (lets λy ey=>?_),⟨ap h3.length,a6,a9,(· = h3.length),iS h5.length h6.length,iS h8.length h9.length,rfl,ql.bF mz λb hb=>by rw [aG] at hb;omega,λb hb=>by rw [aG] at hb;exact hb,sf.ax (b_.kp _ _) mz λb hb hk=>by omega,t10.ax (gz.kp _) mz λb hb hk=>by omega,λb hb=>by constructor<;>omega,λb hb=>by constructor<;>omega,λb hb=>by constructor<;>omega,λb h1 h2=>by omega,λb h1 h2=>by omega,λb h1 h2=>by omega⟩,ak1⟩
 rw [da] at ey
 rw [ey]
 refine lets λy ey=>?_
 rw [nO] at ey
 rw [ey]
 refine lets λy ey=>?_
 rw [IB] at ey
 rw [ey]
 refine bS (p3.ap (i:=0) rfl) (bs e4 (bS rfl (bs e5 (bS (p5.ap (i:=1) rfl) (bs e6 (bS rfl (bs e7 ?_)))))))
 refine bI (p7.ap (i:=2) rfl) (bs e8 (bS (p8.ap (i:=3) rfl) (bs e9 (bS rfl (bs Qq ?_)))))
 refine bS (U2.ap (i:=0) rfl) (bS (U2.ap (i:=1) rfl) (bI (U2.ap (i:=2) rfl) (bS (U2.ap (i:=3) rfl) (bs zD ?_))))
 exact bS (Dr.ap (i:=0) rfl) (bS (Dr.ap (i:=1) rfl) (bI (Dr.ap (i:=2) rfl) (bS (Dr.ap (i:=3) rfl) rfl)))
theorem w7{ys:List In}{k0:Int}(hk0:0<=k0)(hkn:k0+6*(ys.length:Int)<=1000000000)(hm:∀ j:Nat,j<ys.length->ys[j]? = some (gy (k0+6*(j:Int)))):∀ (d i:Nat) (h:AH),i+d=ys.length->Sl h a (cV ys)->base<=h.length ->
  ∃ h',aF (Mw base) [some (.slice a ys.length ys.length),some (.int .i64 (k0+6*(i:Int))),some (.int .i64 (i:Int))] h=some (2,[some (.int .i64 (k0+6*(ys.length:Int)))],h')/\KB bp h h':=by
 intro d
 induction d with
 | zero=>
  intro i h hi hs hb
  have:i=ys.length:=by omega
  subst this
  refine ⟨h,aC (by decide) ?_,KB.refl _ _⟩
  rw [CD]
  exact aU (by simp) rfl
 | succ d ih=>
  intro i h hi hs hb
  have aS:i<ys.length:=by omega
  obtain ⟨ad,rfl,g0,g1,g2,g3,g4,g5⟩:=In.get hs aS
  have hx:ys[i]=gy (k0+6*(i:Int)):=by
   have:=hm i aS
   rw [bk aS] at this
   injection this
  rw [hx] at g0 g1 g2 g3 g4 g5
  generalize hk:k0+6*(i:Int)=k at g0 g1 g2 g3 g4 g5
  obtain ⟨h1,e1,Ei⟩:=gu (base:=base) (h:=h) (k:=k+1+1+1+1+1) (by omega)
  have n1:=Ei.1
  obtain ⟨h2,e2,Fu⟩:=ih (i+1) h1 (by omega) (hs.aj Ei) (by omega)
  rw [show k0+6*((i+1:Nat):Int)=k+6 from by omega] at e2
  refine ⟨h2,bl ?_ e2,kN Ei Fu⟩
  rw [CD]
  have hI:(0:Int)<=(i:Int)/\(i:Int)<((ys.length:Nat):Int):=⟨by omega,by omega⟩
  refine aE (decide_eq_true hI.2) (aE hI (bs rfl ?_))
  simp only [aM]
  rw [bm (n:=k+1) (by omega) (by omega),bm (n:=k+1+1) (by omega) (by omega),bm (n:=k+1+1+1) (by omega) (by omega),bm (n:=k+1+1+1+1) (by omega) (by omega),bm (n:=k+1+1+1+1+1) (by omega) (by omega),bm (n:=k+1+1+1+1+1+1) (by omega) (by omega),bm (n:=(i:Int)+1) (by omega) (by omega)]
  refine bI g0 (aU (by simp [gy]) (aE hI (bs rfl (bI g1 (aU (by simp [gy]) (aE hI (bs rfl (bI g2 (aU (by simp [gy]) (aE hI (bs rfl (bI g3 (aU (by simp [gy]) (aE hI (bs rfl (bI g4 (aU (by simp [gy]) (aE hI (bs rfl (bT g5 (bs e1 (bT rfl ?_))))))))))))))))))))))
  rw [iP (d_ Ei g5)]
  refine aU (by simp [gy]) ?_
  rw [show k+1+1+1+1+1+1=k+6 from by omega]
  rfl
theorem Ao{ys:List In}(hk0:0<=k)(hkn:k+6*(ys.length:Int)<=1000000000)(hm:∀ j:Nat,j<ys.length->ys[j]? = some (gy (k+6*(j:Int))))(hs:Sl h a (cV ys))(hb:base<=h.length):
  ∃ h',run (Et base) 33 [.slice a ys.length ys.length,.int .i64 k] h=some (.int .i64 (k+6*(ys.length:Int)),h')/\KB bp h h':=by
 obtain ⟨h',e,kk⟩:=w7 (base:=base) hk0 hkn hm ys.length 0 h (by omega) hs hb
 rw [show k+6*((0:Nat):Int)=k from by omega,show ((0:Nat):Int)=0 from rfl] at e
 exact ⟨h',Am.Ow (bs e (aU (show ¬(2:Nat)=1 by decide) (aE rfl (bI rfl rfl)))),kk⟩
def iZ(f:Nat):List Ac->Int
 | []=>0
 | A :: r=>2+Je f A+iZ f r
theorem Nz(f:Nat)(A:Ac):0<=Je f A:=by unfold Je nR;omega
theorem pC(f:Nat):∀ l,0<=iZ f l
 | []=>gb _
 | A :: r=>by have:=Nz f A;have:=pC f r;rw [iZ];omega
theorem Hk(f:Nat):∀ l:List Ac,iZ f l<=3*((l.length+dt (FI f) l:Nat):Int)
 | []=>by simp [iZ,dt]
 | A :: r=>by
  have:=Hk f r
  have e1:Je f A=3*((A.aH.length+dt (eH f) A.aH:Nat):Int)+3*((A.box.length+dt (eH f) A.box:Nat):Int)+(A.aw.length:Int):=rfl
  have e2:FI f A=A.aH.length+dt (eH f) A.aH+(A.box.length+dt (eH f) A.box)+A.aw.length:=rfl
  rw [iZ]
  simp only [g_,dt]
  omega
inductive pR:List Ac->Int->Int->Prop
 | nil (k:Int):pR [] k k
 | cons {k k1 k2:Int} {A:Ac} {r:List Ac}:A.pid=k->A.pc=k+1->Yb A (k+2) k1->pR r k1 k2->pR (A :: r) k k2
theorem Yb.le{A:Ac}{k k':Int}(x:Yb A k k'):k<=k':=by
 obtain ⟨k1,k2,m1,m2,_,rfl⟩:=x
 have:=m1.le
 have:=m2.le
 omega
theorem pR.le{l:List Ac}{k k':Int}(x:pR l k k'):k<=k':=by
 induction x with
 | nil=>exact gb _
 | cons _ _ m _ UY=>have:=m.le;omega
theorem tM{n:Nat}(hn:n<=maxLen):∀ (r done:List Ac) (h:AH) (k:Int),(∀ A∈r,A.Le)->done.length+r.length=n->fk 5 (wh base f) S h (done++r) a->(∀ b,S b->base<=b/\b<h.length)->0<=k->k+iZ f r<=1000000000 ->
  ∃ r' h',aF (Mu base) [some (.slice a n n),some (.int .i64 k),some (.int .i64 (done.length:Int))] h=some (2,[some (.int .i64 (k+iZ f r))],h')/\fk 5 (wh base f) S h' (done++r') a/\r'.length=r.length/\(∀ A∈r',A.Le)/\pR r' k (k+iZ f r)/\KB S h h':=by
 simp only [maxLen] at hn
 intro r
 induction r with
 | nil=>
  intro done h k _ hd hr hS h0 hk
  refine ⟨[],h,?_,hr,rfl,λA hA=>by simp at hA,?_,KB.refl _ _⟩
  ·refine aC (by decide) ?_
   rw [Cz]
   refine aU (by simp at hd ⊢;omega) ?_
   simp [iZ]
  ·rw [iZ,Int.add_zero]
   exact .nil k
 | cons A r X8=>
  intro done h k hL hd hr hS h0 hk
  simp only [g_] at hd
  have aS:done.length<(done++A :: r).length:=by simp
  obtain ⟨Ci,cs,fo,hP,nI,qE,tI⟩:=hr.open (by decide) aS
  rw [sB aS] at hP
  obtain ⟨l1,l2,l3⟩:=hL A (by simp)
  obtain ⟨a1,b1,g1,S1,S2,S3,rfl,wF,Qx,th,hg,s1,s2,s3,d1,d2,d3⟩:=hP
  rw [iZ] at hk ⊢
  have VC:=pC f r
  have hmA:=Nz f A
  have hm1:0<=nR f A.aH:=by unfold nR;omega
  have De:0<=nR f A.box:=by unfold nR;omega
  have emA:Je f A=nR f A.aH+nR f A.box+(A.aw.length:Int):=rfl
  have zG:∀ b,S b->base<=b:=λb hb=>(hS b hb).1
  obtain ⟨ad,h1,rfl,w1,fo1,k1,n1⟩:=fo.wr (wh.kp _ _) zG (j:=0) (new:=[.int .i64 k]) (by simp) (by simp)
  obtain ⟨rv,h2,fT,w2,X_,k2,n2⟩:=fo1.wr (wh.kp _ _) zG (j:=1) (new:=[.int .i64 (k+1)]) (by simp) (by simp)
  injection fT with fT
  subst fT
  have kA:KB (bK (some ad)) h h2:=KB.trans k1 k2 (λ_ _ h=>h) (λ_ _ h=>h)
  have bV:setAt (setAt (de A.pid A.pc a1 A.aH.length b1 A.box.length g1 A.aw.length) 0 [.int .i64 k]) 1 [.int .i64 (k+1)]=de k (k+1) a1 A.aH.length b1 A.box.length g1 A.aw.length:=rfl
  rw [bV] at X_
  obtain ⟨rv,fT,c2⟩:=X_.cell (j:=2) (v:=.slice a1 A.aH.length A.aH.length) rfl
  injection fT with fT
  subst fT
  have hSi:∀ b,Ci b->base<=b/\b<h2.length:=λb hb=>by have:=hS b (qE b hb);have:=kA.1;omega
  obtain ⟨lr,h3,e3,aep,NA,m3,k3⟩:=jA (base:=base) f A.aH h2 S1 a1 (k+1+1) (wF.ax (jG.kp _) kA λb hb hk=>tI b hk (s1 b hb)) l1 (λb hb=>hSi b (s1 b hb)) (by omega) (by unfold nR at hm1 emA;omega)
  have n3:=k3.1
  have Zl:=X_.ax (wh.kp _ _) k3 λb _ hb=>s1 b hb
  obtain ⟨rv,fT,c3⟩:=Zl.cell (j:=3) (v:=.slice b1 A.box.length A.box.length) rfl
  injection fT with fT
  subst fT
  obtain ⟨lb,h4,e4,aeq,NB,m4,k4⟩:=jA (base:=base) f A.box h3 S2 b1 (k+1+1+nR f A.aH) ((Qx.ax (jG.kp _) kA λb hb hk=>tI b hk (s2 b hb)).ax (jG.kp _) k3 λb hb cy=>d1 b cy hb) l2 (λb hb=>by have:=hSi b (s2 b hb);omega) (by omega) (by unfold nR at *;omega)
  have n4:=k4.1
  have OE:=Zl.ax (wh.kp _ _) k4 λb _ hb=>s2 b hb
  obtain ⟨rv,fT,c4⟩:=OE.cell (j:=4) (v:=.slice g1 A.aw.length A.aw.length) rfl
  injection fT with fT
  subst fT
  have ak2:bQ base 3 h4 g1 (iv .i64 A.aw):=((th.ax kA λb hb cy=>tI b cy (s3 b (hg b hb))).ax k3 λb hb cy=>d2 b cy (hg b hb)).ax k4 λb hb cy=>d3 b cy (hg b hb)
  have O2:((k+1+1+nR f A.aH+nR f A.box).toNat:Int)=k+1+1+nR f A.aH+nR f A.box:=by omega
  obtain ⟨h5,e5,ak3,k5⟩:=zH (base:=base) (k:=(k+1+1+nR f A.aH+nR f A.box).toNat) ak2 l3 (by omega)
  rw [Yk,O2] at e5
  have n5:=k5.1
  have fo5:=OE.ax (wh.kp _ _) k5 λb _ hb=>s3 b (hg b hb)
  have J6:(dV (k+1+1+nR f A.aH+nR f A.box).toNat A.aw.length).length=A.aw.length:=by simp [dV]
  have U0:=fo5.close (y:=⟨k,k+1,lr,lb,dV (k+1+1+nR f A.aH+nR f A.box).toNat A.aw.length⟩) ⟨a1,b1,g1,S1,S2,S3,by simp only [NA,NB,J6],(aep.ax (jG.kp _) k4 λb hb cy=>d1 b hb cy).ax (jG.kp _) k5 λb hb cy=>d2 b hb (hg b cy),aeq.ax (jG.kp _) k5 λb hb cy=>d3 b hb (hg b cy),ak3,hg,s1,s2,s3,d1,d2,d3⟩
  rw [sA,show done++(⟨k,k+1,lr,lb,dV (k+1+1+nR f A.aH+nR f A.box).toNat A.aw.length⟩:Ac) :: r=(done++[(⟨k,k+1,lr,lb,dV (k+1+1+nR f A.aH+nR f A.box).toNat A.aw.length⟩:Ac)])++r from by simp] at U0
  have kB:KB S h h5:=KB.trans (KB.trans (KB.trans kA k3 (λb _ hb=>by
    obtain ⟨vs,T,C,_,_,x3,_⟩:=fo
    exact (x3 b hb).1) (λb _ hb=>qE b (s1 b hb))) k4 (λ_ _ h=>h) (λb _ hb=>qE b (s2 b hb))) k5 (λ_ _ h=>h) (λb _ hb=>qE b (s3 b (hg b hb)))
  obtain ⟨r',h6,e6,Nd,Nf,L6,m6,k6⟩:=X8 (done++[(⟨k,k+1,lr,lb,dV (k+1+1+nR f A.aH+nR f A.box).toNat A.aw.length⟩:Ac)]) h5 (k+2+Je f A) (λB hB=>hL B (by simp [hB])) (by simp;omega) U0 (λb hb=>⟨(hS b hb).1,by have:=(hS b hb).2;have:=kB.1;omega⟩) (by omega) (by omega)
  have ek:k+2+Je f A+iZ f r=k+(2+Je f A+iZ f r):=by omega
  rw [ek] at e6 m6
  refine ⟨⟨k,k+1,lr,lb,dV (k+1+1+nR f A.aH+nR f A.box).toNat A.aw.length⟩ :: r',h6,?_,by simpa using Nd,by simp [Nf],λB hB=>?_,.cons rfl rfl ⟨k+2+nR f A.aH,k+2+nR f A.aH+nR f A.box,?_,?_,?_,?_⟩ m6,KB.trans kB k6 (λ_ _ h=>h) (λ_ _ h=>h)⟩
  ·refine bl ?_ e6
   rw [Cz]
   have dg:(done.length:Int)<(n:Int):=by omega
   refine aE (decide_eq_true dg) (aE ⟨by omega,dg⟩ (bs rfl ?_))
   simp only [aM]
   refine bs w1 (aE ⟨by omega,dg⟩ (bs rfl ?_))
   rw [bm (n:=k+1) (by omega) (by omega)]
   refine bs w2 (aE ⟨by omega,dg⟩ (bs rfl (bS c2 ?_)))
   rw [bm (n:=k+1+1) (by omega) (by omega)]
   refine bs e3 (bI rfl (aE ⟨by omega,dg⟩ (bs rfl (bS c3 ?_))))
   refine bs e4 (bI rfl (aE ⟨by omega,dg⟩ (bs rfl (bS c4 (bs e5 (bI rfl ?_))))))
   rw [bm (n:=(done.length:Int)+1) (by omega) (by omega)]
   rw [show k+1+1+nR f A.aH+nR f A.box+(A.aw.length:Int)=k+2+Je f A from by omega]
   simp
  ·rcases bn.1 hB with rfl|hB
   ·exact ⟨by simp only [NA];exact l1,by simp only [NB];exact l2,by simp only [J6];exact l3⟩
   ·exact L6 B hB
  ·rw [show k+2=k+1+1 from by omega];exact m3
  ·rw [show k+2=k+1+1 from by omega];exact m4
  ·simp only [J6]
   rw [show k+2=k+1+1 from by omega]
  ·simp only [J6];omega
theorem vG(hr:fk 5 (wh base f) S h l a)(hl:l.length<=maxLen)(hL:∀ A∈l,A.Le)(hS:∀ b,S b->base<=b/\b<h.length)(h0:0<=k)(hk:k+iZ f l<=1000000000):
  ∃ l' h',run (Et base) 31 [.slice a l.length l.length,.int .i64 k] h=some (.int .i64 (k+iZ f l),h')/\fk 5 (wh base f) S h' l' a/\l'.length=l.length/\(∀ A∈l',A.Le)/\pR l' k (k+iZ f l)/\KB S h h':=by
 obtain ⟨l',h',e,row,len,L,m,kk⟩:=tM (base:=base) hl l [] h k hL (by simp) (by simpa using hr) hS h0 hk
 exact ⟨l',h',Am.Ip (bs e (aE rfl (bI rfl rfl))),by simpa using row,len,L,m,kk⟩
theorem tN:∀ {r:List Ac} {k k':Int},pR r k k'->0<=k->k'<=1000000000->∀ (f:Nat) (h:AH) (p:Nat->Prop) (L:List Ac) (i:Nat) (a:Option Addr),L.drop i=r->i<=L.length->L.length<=9223372036854775807->(∀ A∈L,A.Le)->js h p f L a->base<=h.length ->
  ∃ h',aF (Mx base) [some (.slice a L.length L.length),some (.int .i64 k),some (.int .i64 (i:Int))] h=some (2,[some (.int .i64 k')],h')/\KB bp h h':=by
 intro r k k' hm
 induction hm with
 | nil k=>
  intro h0 hk f h p L i a hr hi hL hLe hs hb
  refine ⟨h,?_,KB.refl _ _⟩
  refine aC (by decide) ?_
  rw [CE]
  have:L.length<=i:=by simpa using hr
  exact aU (by simp;omega) rfl
 | @cons k k1 k2 A r p1 p2 m1 m2 UY=>
  intro h0 hk f h p L i a hr hi hL hLe hs hb
  have le1:=m1.le
  have le2:=m2.le
  have aS:i<L.length:=by
   rcases mO i L.length with h|h
   ·exact h
   ·rw [dZ h] at hr;cases hr
  rw [dJ aS] at hr
  injection hr with Q7 wl
  obtain ⟨l1,l2,l3⟩:=hLe _ (aQ aS)
  simp only [maxLen] at l1 l2
  obtain ⟨ad,x1,x2,x3,rfl,eN,g0,g1,g2,g3,g4,yN,th⟩:=hs.get aS
  obtain ⟨x1',x2',x3',bV,wF,Qx,_,_⟩:=yN
  injection bV with _ bV
  injection bV with _ bV
  injection bV with q2 bV
  injection bV with q3 bV
  injection bV with q4 _
  injection q2 with q2 _ _;injection q3 with q3 _ _;injection q4 with q4 _ _
  subst q2;subst q3;subst q4
  rw [Q7] at l1 l2 l3 g0 g1 g2 g3 g4 wF Qx th
  rw [p1] at g0
  rw [p2] at g1
  obtain ⟨k1',Jf,n1,n2,n3,Nm⟩:=m1
  have z1:=n1.le
  have z2:=n2.le
  obtain ⟨h2,e2,Fu⟩:=lG (base:=base) n1 (by omega) (by omega) (by omega) wF hb
  have y2:=Fu.1
  obtain ⟨h3,e3,Zm⟩:=lG (base:=base) n2 (by omega) (by omega) (by omega) (Qx.ax Fu λ_ _ h=>h) (by omega)
  have y3:=Zm.1
  have fg:=kN Fu Zm
  rw [n3] at th
  have e4:=zJ (base:=base) (th.aj fg) l3 (by omega)
  rw [Yk,show ((Jf.toNat:Nat):Int)=Jf from by omega] at e4
  obtain ⟨h5,e5,kk5⟩:=UY (by omega) hk f h3 p L (i+1) (some ad) wl (by omega) hL hLe (hs.aj fg) (by omega)
  refine ⟨h5,bl ?_ e5,kN fg kk5⟩
  rw [CE]
  have dg:(i:Int)<(L.length:Int):=by omega
  refine aE (decide_eq_true dg) (aE ⟨by omega,dg⟩ (bs rfl ?_))
  simp only [aM]
  refine bI g0 (aU (by simp) (aE ⟨by omega,dg⟩ (bs rfl (bI g1 ?_))))
  rw [bm (n:=k+1) (by omega) (by omega)]
  refine aU (by simp) (aE ⟨by omega,dg⟩ (bs rfl (bS g2 ?_)))
  rw [bm (n:=k+1+1) (by omega) (by omega),show k+1+1=k+2 from by omega]
  refine bs e2 (bI rfl (aU (by simp;omega) (aE ⟨by omega,dg⟩ (bs rfl (bS (su Fu g3) (bs e3 (bI rfl ?_)))))))
  refine aU (by simp;omega) (aE ⟨by omega,dg⟩ (bs rfl (bS (su fg g4) (bs e4 (bI rfl ?_)))))
  refine aU (by simp;omega) ?_
  rw [bm (n:=(i:Int)+1) (by omega) (by omega),<- Nm]
  rfl
theorem vH(m:pR l k k')(h0:0<=k)(hk:k'<=1000000000)(hl:l.length<=9223372036854775807)(hL:∀ A∈l,A.Le)(hs:js h p f l a)(hb:base<=h.length):
  ∃ h',run (Et base) 34 [.slice a l.length l.length,.int .i64 k] h=some (.int .i64 k',h')/\KB bp h h':=by
 obtain ⟨h',e,kk⟩:=tN (base:=base) m h0 hk f h p l 0 a (by simp) (by omega) hl hL hs hb
 rw [show ((0:Nat):Int)=0 from rfl] at e
 exact ⟨h',Am.Ox (bs e (aU (by simp) (aE rfl (bI rfl rfl)))),kk⟩
def El(f:Nat)(P:Pl):Int:=6*(P.code.length:Int)+iZ f P.ai+rI f P.out
def aer(P:Pl)(k k':Int):Prop:=(∀ j:Nat,j<P.code.length->P.code[j]? = some (gy (k+6*(j:Int))))/\∃ k1,pR P.ai (k+6*(P.code.length:Int)) k1/\wX P.out k1 k'
theorem pS(hB:P.code.length<=1048576/\P.ai.length<=1048576/\P.out.length<=1048576/\∀ A∈P.ai,A.Le)(x:Jg base f S h P cs)(hS:∀ b,S b->base<=b/\b<h.length)(hb:base<=h.length)(h0:0<=k)(hk:k+El f P<=1000000000):
  ∃ P' h',run (Et base) 9 [.agg cs.toArray,.int .i64 k] h=some (.int .i64 (k+El f P),h')/\Jg base f S h' P' cs/\aer P' k (k+El f P)/\(P'.code.length<=1048576/\P'.ai.length<=1048576/\P'.out.length<=1048576/\∀ A∈P'.ai,A.Le)/\KB S h h':=by
 obtain ⟨a,b,g,S1,S2,S3,rfl,hc,BL,ha,ho,s1,s2,s3,d1,d2,d3⟩:=x
 obtain ⟨b1,b2,b3,b4⟩:=hB
 have De:=pC f P.ai
 have hm3:0<=rI f P.out:=by unfold rI;omega
 have em:El f P=6*(P.code.length:Int)+iZ f P.ai+rI f P.out:=rfl
 obtain ⟨o1,k1,q1⟩:=aI (base:=base) (t:=32) (h:=h) (cs:=dK a P.code.length b P.ai.length P.next g P.out.length) hb rfl
 generalize da:h++[some (⟨dK a P.code.length b P.ai.length P.next g P.out.length,32⟩:df)]=h1 at o1 k1 q1
 obtain ⟨ys,h2,e2,AZ,Qy,m2,k2⟩:=zQ (base:=base) (k:=k) b1 (hc.aj k1) h0 (by omega)
 have n2:=k2.1
 obtain ⟨la,h3,e3,ha3,NA,L3,m3,k3⟩:=vG (base:=base) (k:=k+6*(P.code.length:Int)) ((ha.ax (wh.kp _ _) k1 λ_ _ h=>h).ax (wh.kp _ _) k2 λx hx j6=>d1 x (BL x j6) hx) (by simp only [maxLen];omega) b4 (λx hx=>by have:=hS x (s2 x hx);omega) (by omega) (by omega)
 have n3:=k3.1
 obtain ⟨lo,h4,e4,ho4,NB,m4,k4⟩:=wZ (base:=base) (k:=k+6*(P.code.length:Int)+iZ f P.ai) (((ho.ax (gz.kp _) k1 λ_ _ h=>h).ax (gz.kp _) k2 λx hx j6=>d2 x (BL x j6) hx).ax (gz.kp _) k3 λx hx j6=>d3 x j6 hx) (by simp only [maxLen];omega) (λx hx=>by have:=hS x (s3 x hx);omega) (by omega) (by omega)
 have n4:=k4.1
 have nb:∀ x,S x->x≠h.length:=λx hx=>by have:=hS x hx;omega
 have o2:=o1.ax k2 λx hx j6=>by rw [aG] at hx;exact nb x (s1 x (BL x j6)) hx
 have o3:=o2.ax k3 λx hx j6=>by rw [aG] at hx;exact nb x (s2 x j6) hx
 refine ⟨⟨ys,la,P.next,lo⟩,h4,Am.r9 (lets λy ey=>?_),⟨a,b,g,S1,S2,S3,by simp only [Qy,NA,NB],(AZ.ax k3 λx hx j6=>d1 x (BL x hx) j6).ax k4 λx hx j6=>d2 x (BL x hx) j6,BL,ha3.ax (wh.kp _ _) k4 λx hx j6=>d3 x hx j6,ho4,s1,s2,s3,d1,d2,d3⟩,⟨λj hj=>m2 j (by simp only [Qy] at hj;exact hj),k+6*(P.code.length:Int)+iZ f P.ai,by simp only [Qy];exact m3,by rw [em,show k+(6*(P.code.length:Int)+iZ f P.ai+rI f P.out)=k+6*(P.code.length:Int)+iZ f P.ai+rI f P.out from by omega];exact m4⟩,⟨by simp only [Qy];exact b1,by simp only [NA];exact b2,by simp only [NB];exact b3,L3⟩,?_⟩
 ·rw [da] at ey
  rw [ey]
  refine bS (o1.ap (i:=0) rfl) (bs e2 (bI rfl (bS (o2.ap (i:=1) rfl) (bs e3 (bI rfl (bS (o3.ap (i:=3) rfl) (bs e4 (bI rfl ?_))))))))
  rw [em,show k+(6*(P.code.length:Int)+iZ f P.ai+rI f P.out)=k+6*(P.code.length:Int)+iZ f P.ai+rI f P.out from by omega]
 ·exact KB.trans (KB.trans (KB.trans (KB.mono k1 λ_ _ h=>h.elim) k2 (λ_ _ h=>h) (λx _ hx=>s1 x (BL x hx))) k3 (λ_ _ h=>h) (λx _ hx=>s2 x hx)) k4 (λ_ _ h=>h) (λx _ hx=>s3 x hx)
theorem pT(hB:P.code.length<=1048576/\P.ai.length<=1048576/\P.out.length<=1048576/\∀ A∈P.ai,A.Le)(m:aer P k k')(h0:0<=k)(hk:k'<=1000000000)(x:tL h p f P cs)(hb:base<=h.length):
  ∃ h',run (Et base) 10 [.agg cs.toArray,.int .i64 k] h=some (.int .i64 k',h')/\KB bp h h':=by
 obtain ⟨a,b,g,rfl,hc,_,ha,ho⟩:=x
 obtain ⟨b1,b2,b3,b4⟩:=hB
 obtain ⟨m1,k1',m2,m3⟩:=m
 have z2:=m2.le
 have z3:=m3.le
 obtain ⟨o1,k1,q1⟩:=aI (base:=base) (t:=32) (h:=h) (cs:=dK a P.code.length b P.ai.length P.next g P.out.length) hb rfl
 generalize da:h++[some (⟨dK a P.code.length b P.ai.length P.next g P.out.length,32⟩:df)]=h1 at o1 k1 q1
 obtain ⟨h2,e2,k2⟩:=Ao (base:=base) h0 (by omega) m1 (hc.aj k1) (by omega)
 have n2:=k2.1
 have dH:=kN k1 k2
 obtain ⟨h3,e3,k3⟩:=vH (base:=base) m2 (by omega) (by omega) (by omega) b4 (ha.aj dH) (by omega)
 have n3:=k3.1
 have fg:=kN dH k3
 obtain ⟨h4,e4,k4⟩:=w6 (base:=base) m3 (by omega) hk (by omega) (ho.ax fg λ_ _ h=>h) (by omega)
 refine ⟨h4,Am.ql (lets λy ey=>?_),kN fg k4⟩
 rw [da] at ey
 rw [ey]
 refine bS (o1.ap (i:=0) rfl) (bs e2 (bI rfl (aU (by simp;omega) (bS ((o1.aj k2).ap (i:=1) rfl) (bs e3 (bI rfl (aU (by simp;omega) ?_)))))))
 exact bS (((o1.aj k2).aj k3).ap (i:=3) rfl) (bs e4 (bI rfl (aU (by simp;omega) rfl)))
def qs(v:Int):List Int->Bool
 | []=>false
 | x :: r=>if (x==v)=true then true else qs v r
theorem pD(hs:Sl h a (iv .i64 zs))(hi:i<zs.length):∃ ad,a=some ad/\Am.cell h ad.block (ad.off+i*1)=some (.int .i64 zs[i]):=by
 obtain ⟨ad,e,g⟩:=hs.cell (i:=i) (v:=.int .i64 zs[i]) (by simp [iv,hi])
 exact ⟨ad,e,by rw [Nat.mul_one];exact g⟩
theorem DI(hl:zs.length<=9223372036854775807)(hs:Sl h a (iv .i64 zs)):∀ (d i:Nat),i+d=zs.length ->
  aF (M2 base) [some (.slice a zs.length zs.length),some (.int .i64 v),some (.int .i64 (i:Int))] h=some (if qs v (zs.drop i)=true then (1,[some (.bool true)],h) else (2,[],h)):=by
 intro d
 induction d with
 | zero=>
  intro i hi
  rw [dZ (by omega),qs,if_neg (by decide)]
  refine aC (by decide) ?_
  rw [vh]
  exact aU (by simp;omega) rfl
 | succ d fJ=>
  intro i hi
  have aS:i<zs.length:=by omega
  obtain ⟨ad,rfl,g⟩:=pD hs aS
  rw [dJ aS,qs]
  by_cases c:(zs[i]==v)=true
  ·rw [if_pos c,if_pos rfl]
   refine aC (by decide) ?_
   rw [vh]
   refine aE (decide_eq_true (by omega)) (aE ⟨by omega,by omega⟩ (bs rfl ?_))
   simp only [aM]
   exact bI g (aE c rfl)
  ·rw [if_neg c,<- fJ (i+1) (by omega)]
   refine bl ?_ rfl
   rw [vh]
   refine aE (decide_eq_true (by omega)) (aE ⟨by omega,by omega⟩ (bs rfl ?_))
   simp only [aM]
   refine bI g (aU c ?_)
   rw [bm (n:=(i:Int)+1) (by omega) (by omega)]
   rfl
theorem vJ(hl:zs.length<=9223372036854775807)(hs:Sl h a (iv .i64 zs)):run (Et base) 86 [.slice a zs.length zs.length,.int .i64 v] h=some (.bool (qs v zs),h):=by
 have e:=DI (base:=base) (v:=v) hl hs zs.length 0 (by omega)
 rw [cH,show ((0:Nat):Int)=0 from rfl] at e
 cases c:qs v zs with
 | true=>
  rw [c,if_pos rfl] at e
  exact Am.r86 (bs e (aE rfl (bB rfl rfl)))
 | false=>
  rw [c,if_neg (by decide)] at e
  exact Am.r86 (bs e (aU (show ¬(2:Nat)=1 by decide) (aE rfl rfl)))
theorem DJ(hl:zs.length<=9223372036854775807)(hs:Sl h a (iv .i64 zs)):∀ (d i:Nat),i+d=zs.length ->
  aF (ML base) [some (.int .i64 v),some (.slice a zs.length zs.length),some (.int .i64 (zs.length:Int)),some (.int .i64 (i:Int))] h=some (if qs v (zs.drop i)=true then (1,[some (.bool true)],h) else (2,[],h)):=by
 intro d
 induction d with
 | zero=>
  intro i hi
  rw [dZ (by omega),qs,if_neg (by decide)]
  refine aC (by decide) ?_
  rw [ve]
  exact aU (by simp;omega) rfl
 | succ d fJ=>
  intro i hi
  have aS:i<zs.length:=by omega
  obtain ⟨ad,rfl,g⟩:=pD hs aS
  rw [dJ aS,qs]
  by_cases c:(zs[i]==v)=true
  ·rw [if_pos c,if_pos rfl]
   refine aC (by decide) ?_
   rw [ve]
   refine aE (decide_eq_true (by omega)) (aE ⟨by omega,by omega⟩ (bs rfl ?_))
   simp only [aM]
   exact bI g (aE c rfl)
  ·rw [if_neg c,<- fJ (i+1) (by omega)]
   refine bl ?_ rfl
   rw [ve]
   refine aE (decide_eq_true (by omega)) (aE ⟨by omega,by omega⟩ (bs rfl ?_))
   simp only [aM]
   refine bI g (aU c ?_)
   rw [bm (n:=(i:Int)+1) (by omega) (by omega)]
   rfl
theorem FQ(hl:zs.length<=9223372036854775807)(hs:Sl h a (iv .i64 zs)):run (Et base) 56 [.slice a zs.length zs.length,.int .i64 v] h=some (.bool (qs v zs),h):=by
 have e:=DJ (base:=base) (v:=v) hl hs zs.length 0 (by omega)
 rw [cH,show ((0:Nat):Int)=0 from rfl] at e
 cases c:qs v zs with
 | true=>
  rw [c,if_pos rfl] at e
  exact Am.GY (bs e (aE rfl (bB rfl rfl)))
 | false=>
  rw [c,if_neg (by decide)] at e
  exact Am.GY (bs e (aU (show ¬(2:Nat)=1 by decide) (aE rfl rfl)))
def bX(v:Int):Nat->List Ac->Int
 | _,[]=>-1
 | i,x :: r=>if (x.pid==v)=true then (i:Int) else bX v (i+1) r
theorem fG(v:Int):∀ (l:List Ac) (i:Nat),bX v i l = -1\/((i:Int)<=bX v i l/\bX v i l<(i:Int)+(l.length:Int))
 | [],i=>.inl rfl
 | x :: r,i=>by
  rw [bX]
  split
  ·right;constructor
   ·omega
   ·simp;omega
  ·rcases fG v r (i+1) with h|⟨h1,h2⟩
   ·exact .inl h
   ·right;simp;omega
theorem FR{b:Nat}(hl:l.length<=9223372036854775807)(hs:js h p f l a)(hc:Am.cell h b 1=some (.slice a l.length l.length)):∀ (d i:Nat),i+d=l.length ->
  ∃ q,aF (MA base) [some (.int .i64 v),some (.pointer (ap b)),some (.int .i64 (i:Int))] h=some (q,if q=1 then [some (.int .i64 (bX v i (l.drop i)))] else [],h)/\(q=1\/(q=2/\bX v i (l.drop i) = -1)):=by
 intro d
 induction d with
 | zero=>
  intro i hi
  rw [dZ (by omega),bX]
  refine ⟨2,aC (by decide) ?_,.inr ⟨rfl,rfl⟩⟩
  rw [vd]
  exact bS (by simpa using hc) (aU (by simp;omega) rfl)
 | succ d fJ=>
  intro i hi
  have aS:i<l.length:=by omega
  obtain ⟨ad,x1,x2,x3,rfl,_,g0,g1,g2,g3,g4,hm,_⟩:=hs.get aS
  rw [dJ aS,bX]
  have Pb:Am.cell h b (0+1)=some (.slice (some ad) l.length l.length):=by simpa using hc
  by_cases c:(l[i].pid==v)=true
  ·rw [if_pos c]
   refine ⟨1,aC (by decide) ?_,.inl rfl⟩
   rw [vd]
   refine bS Pb (aE (decide_eq_true (by omega)) (bS Pb (aE ⟨by omega,by omega⟩ (bs rfl ?_))))
   simp only [aM]
   exact bI g0 (aE c rfl)
  ·rw [if_neg c]
   obtain ⟨q,e,hq⟩:=fJ (i+1) (by omega)
   refine ⟨q,bl ?_ e,hq⟩
   rw [vd]
   refine bS Pb (aE (decide_eq_true (by omega)) (bS Pb (aE ⟨by omega,by omega⟩ (bs rfl ?_))))
   simp only [aM]
   refine bI g0 (aU c ?_)
   rw [bm (n:=(i:Int)+1) (by omega) (by omega)]
   rfl
theorem jt(hl:P.ai.length<=9223372036854775807)(hs:js h p f P.ai b)(hb:base<=h.length):
  ∃ h',run (Et base) 45 [.agg (dK a P.code.length b P.ai.length P.next g P.out.length).toArray,.int .i64 v] h=some (.int .i64 (bX v 0 P.ai),h')/\KB bp h h':=by
 obtain ⟨o1,k1,q1⟩:=aI (base:=base) (t:=32) (h:=h) (cs:=dK a P.code.length b P.ai.length P.next g P.out.length) hb rfl
 generalize da:h++[some (⟨dK a P.code.length b P.ai.length P.next g P.out.length,32⟩:df)]=h1 at o1 k1 q1
 obtain ⟨q,e,hq⟩:=FR (base:=base) (v:=v) (b:=h.length) hl (hs.aj k1) (o1.ap (i:=1) rfl) P.ai.length 0 (by omega)
 rw [cH,show ((0:Nat):Int)=0 from rfl] at e
 rw [cH] at hq
 refine ⟨h1,Am.r45 (lets λy ey=>?_),k1⟩
 rw [da] at ey
 subst ey
 refine bs e ?_
 rcases hq with rfl|⟨rfl,e1⟩
 ·exact aE rfl (bI rfl rfl)
 ·rw [e1]
  exact aU (show ¬(2:Nat)=1 by decide) (aE rfl rfl)
theorem Qz(hl:l.length<=9223372036854775807):∀ (d i:Nat) (h:AH),i+d=l.length->js h p f l a->base<=h.length ->
  ∃ q h',aF (GO base) [some (.int .i64 v),some (.slice a l.length l.length),some (.int .i64 (l.length:Int)),some (.int .i64 (i:Int))] h=some (q,if q=1 then [some (.int .i64 (bX v i (l.drop i)))] else [],h')/\(q=1\/(q=2/\bX v i (l.drop i) = -1))/\KB bp h h':=by
 intro d
 induction d with
 | zero=>
  intro i h hi hs hb
  rw [dZ (by omega),bX]
  refine ⟨2,h,aC (by decide) ?_,.inr ⟨rfl,rfl⟩,KB.refl _ _⟩
  rw [Cm]
  exact aU (by simp;omega) rfl
 | succ d fJ=>
  intro i h hi hs hb
  have aS:i<l.length:=by omega
  obtain ⟨ad,x1,x2,x3,rfl,_,g0,g1,g2,g3,g4,hm,_⟩:=hs.get aS
  obtain ⟨o1,k1,q1⟩:=aI (base:=base) (t:=53) (h:=h) (cs:=de l[i].pid l[i].pc x1 l[i].aH.length x2 l[i].box.length x3 l[i].aw.length) hb rfl
  generalize da:h++[some (⟨de l[i].pid l[i].pc x1 l[i].aH.length x2 l[i].box.length x3 l[i].aw.length,53⟩:df)]=h1 at o1 k1 q1
  rw [dJ aS,bX]
  have head:∀ {r:Option (Nat×az×AH)},(if (l[i].pid==v)=true then some (1,[some (.int .i64 (i:Int))],h1) else some (0,[some (.int .i64 v),some (.slice (some ad) l.length l.length),some (.int .i64 (l.length:Int)),some (.int .i64 (ag .i64 ((i:Int)+(1:Int))))],h1))=r->GO base [some (.int .i64 v),some (.slice (some ad) l.length l.length),some (.int .i64 (l.length:Int)),some (.int .i64 (i:Int))] h=r:=by
   intro r hr
   rw [Cm]
   refine aE (decide_eq_true (by omega)) (aE ⟨by omega,by omega⟩ (bs rfl ?_))
   simp only [aM]
   refine bI g0 (bI g1 (bS g2 (bS g3 (bS g4 (nw hb rfl λy ey=>?_)))))
   rw [da] at ey
   rw [ey]
   exact bI (o1.ap (i:=0) rfl) hr
  by_cases c:(l[i].pid==v)=true
  ·rw [if_pos c]
   exact ⟨1,h1,aC (by decide) (head (aE c rfl)),.inl rfl,k1⟩
  ·rw [if_neg c]
   obtain ⟨q,h2,e,hq,k2⟩:=fJ (i+1) h1 (by omega) (hs.aj k1) (by omega)
   refine ⟨q,h2,bl (head (aU c ?_)) e,hq,kN k1 k2⟩
   rw [bm (n:=(i:Int)+1) (by omega) (by omega)]
   rfl
theorem qt{b:Nat}(hl:l.length<=9223372036854775807)(hs:js h p f l a)(hc:Am.cell h b 1=some (.slice a l.length l.length))(hb:base<=h.length):
  ∃ h',run (Et base) 24 [.pointer (ap b),.int .i64 v] h=some (.int .i64 (bX v 0 l),h')/\KB bp h h':=by
 obtain ⟨q,h1,e,hq,k1⟩:=Qz (base:=base) (v:=v) hl l.length 0 h (by omega) hs hb
 rw [cH,show ((0:Nat):Int)=0 from rfl] at e
 rw [cH] at hq
 refine ⟨h1,Am.Oq (bs rfl (bS (by simpa using hc) (bs e ?_))),k1⟩
 rcases hq with rfl|⟨rfl,e1⟩
 ·exact aE rfl (bI rfl rfl)
 ·rw [e1]
  exact aU (show ¬(2:Nat)=1 by decide) (aE rfl rfl)
def oU(f:Nat)(x:Sd):Bool:=if (!dx x.kind 1 3)=true then true else if (!dx x.pid 1 99999)=true then true else !jo f x.t
def ie(f:Nat):List Sd->Bool
 | []=>false
 | x :: r=>oU f x||ie f r
def iW(f:Nat)(l:List Sd):Bool:=!ie f l&&decide ((l.length:Int)<=(500:Int))
theorem Ap{l:List Sd}(hl:l.length<=9223372036854775807):∀ (d i:Nat) (h:AH),i+d=l.length->mA h p f l a->base<=h.length ->
  ∃ h',aF (GR base) [some (.slice a l.length l.length),some (.int .i64 (i:Int))] h=some (if ie f (l.drop i)=true then (1,[some (.bool false)],h') else (2,[some (.slice a l.length l.length)],h'))/\KB bp h h':=by
 intro d
 induction d with
 | zero=>
  intro i h hi hs hb
  refine ⟨h,?_,KB.refl _ _⟩
  rw [dZ (by omega),ie,if_neg (by decide)]
  refine aC (by decide) ?_
  rw [qT]
  exact aU (by simp;omega) rfl
 | succ d fJ=>
  intro i h hi hs hb
  have aS:i<l.length:=by omega
  obtain ⟨ad,k,n,s,a2,m,rfl,_,g0,g1,g2,g3,g4,g5,hm⟩:=hs.get aS
  obtain ⟨h2,e2,k2⟩:=iR (base:=base) hm hb
  have n2:=k2.1
  have eI:=cU (base:=base) (h:=h) (x:=l[i].kind) (a:=1) (b:=3)
  have eI2:=cU (base:=base) (h:=h) (x:=l[i].pid) (a:=1) (b:=99999)
  rw [dJ aS,ie]
  have head:∃ h3,KB bp h h3/\base<=h3.length/\∀ {r:Option (Nat×az×AH)},(if oU f l[i]=true then some (1,[some (.bool false)],h3) else some (0,[some (.slice (some ad) l.length l.length),some (.int .i64 (ag .i64 ((i:Int)+(1:Int))))],h3))=r->GR base [some (.slice (some ad) l.length l.length),some (.int .i64 (i:Int))] h=r:=by
   unfold oU
   by_cases c1:(!dx l[i].kind 1 3)=true
   ·refine ⟨h,KB.refl _ _,hb,λhr=>?_⟩
    rw [if_pos c1] at hr
    rw [qT]
    refine aE (decide_eq_true (by omega)) (bj (q:=([some (.slice (some ad) l.length l.length),some (.int .i64 (i:Int)),some (.bool true)],h)) ?_ (bS rfl (bI rfl (bB rfl hr))))
    refine aE ⟨by omega,by omega⟩ (bs rfl ?_)
    simp only [aM]
    exact bI g0 (bs eI (bB rfl (aE c1 rfl)))
   by_cases c2:(!dx l[i].pid 1 99999)=true
   ·refine ⟨h,KB.refl _ _,hb,λhr=>?_⟩
    rw [if_neg c1,if_pos c2] at hr
    rw [qT]
    refine aE (decide_eq_true (by omega)) (bj (q:=([some (.slice (some ad) l.length l.length),some (.int .i64 (i:Int)),some (.bool true)],h)) ?_ (bS rfl (bI rfl (bB rfl hr))))
    refine aE ⟨by omega,by omega⟩ (bs rfl ?_)
    simp only [aM]
    exact bI g0 (bs eI (bB rfl (aU c1 (aE ⟨by omega,by omega⟩ (bs rfl (bI g1 (bs eI2 (bB rfl (aE c2 rfl)))))))))
   ·refine ⟨h2,k2,by omega,λhr=>?_⟩
    rw [if_neg c1,if_neg c2] at hr
    rw [qT]
    refine aE (decide_eq_true (by omega)) (bj (q:=([some (.slice (some ad) l.length l.length),some (.int .i64 (i:Int)),some (.bool (!jo f l[i].t))],h2)) ?_ (bS rfl (bI rfl (bB rfl hr))))
    refine aE ⟨by omega,by omega⟩ (bs rfl ?_)
    simp only [aM]
    refine bI g0 (bs eI (bB rfl (aU c1 (aE ⟨by omega,by omega⟩ (bs rfl (bI g1 (bs eI2 (bB rfl (aU c2 (aE ⟨by omega,by omega⟩ (bs rfl ?_)))))))))))
    exact bI g2 (bI g3 (bT g4 (bS g5 (bs e2 (bB rfl rfl)))))
  obtain ⟨h3,k3,n3,head⟩:=head
  cases c:oU f l[i] with
  | true=>
   refine ⟨h3,?_,k3⟩
   rw [lH,if_pos rfl]
   exact aC (by decide) (head (by rw [c];exact aE rfl rfl))
  | false=>
   rw [iM]
   obtain ⟨h4,y1,y2⟩:=fJ (i+1) h3 (by omega) (hs.ax k3 λ_ _ h=>h) n3
   refine ⟨h4,bl (head ?_) y1,kN k3 y2⟩
   rw [c,bm (n:=(i:Int)+1) (by omega) (by omega)]
   exact aU (by decide) rfl
theorem DK{l:List Sd}(hl:l.length<=9223372036854775807)(hs:mA h p f l a)(hb:base<=h.length):∃ h',run (Et base) 42 [.slice a l.length l.length] h=some (.bool (iW f l),h')/\KB bp h h':=by
 obtain ⟨h1,e1,k1⟩:=Ap (base:=base) hl l.length 0 h (by omega) hs hb
 rw [cH,show ((0:Nat):Int)=0 from rfl] at e1
 refine ⟨h1,?_,k1⟩
 unfold iW
 cases c:ie f l with
 | true=>
  rw [c,if_pos rfl] at e1
  exact Am.r42 (bs e1 (aE rfl (bB rfl rfl)))
 | false=>
  rw [c,if_neg (by decide)] at e1
  exact Am.r42 (bs e1 (aU (show ¬(2:Nat)=1 by decide) (aE rfl (bS rfl (by simp)))))
theorem FT{l:List Sd}(hl:l.length<=9223372036854775807):∀ (d i:Nat) (h:AH),i+d=l.length->mA h p f l a->base<=h.length ->
  ∃ h',aF (CM base) [some (.slice a l.length l.length),some (.slice a l.length l.length),some (.int .i64 (l.length:Int)),some (.int .i64 (i:Int))] h=some (if ie f (l.drop i)=true then (1,[some (.bool false)],h') else (2,[some (.slice a l.length l.length)],h'))/\KB bp h h':=by
 intro d
 induction d with
 | zero=>
  intro i h hi hs hb
  refine ⟨h,?_,KB.refl _ _⟩
  rw [dZ (by omega),ie,if_neg (by decide)]
  refine aC (by decide) ?_
  rw [CN]
  exact aU (by simp;omega) rfl
 | succ d fJ=>
  intro i h hi hs hb
  have aS:i<l.length:=by omega
  obtain ⟨ad,k,n,s,a2,m,rfl,_,g0,g1,g2,g3,g4,g5,hm⟩:=hs.get aS
  obtain ⟨o1,k1,q1⟩:=aI (base:=base) (t:=82) (h:=h) (cs:=dr l[i].kind l[i].pid k n s a2 m) hb rfl
  generalize da:h++[some (⟨dr l[i].kind l[i].pid k n s a2 m,82⟩:df)]=h1 at o1 k1 q1
  obtain ⟨h2,e2,k2⟩:=iT (base:=base) (h:=h1) (cD.ax k1 (λ_ _ h=>h) _ _ _ hm) (by omega)
  have n2:=k2.1
  have eI:=eW (base:=base) (h:=h1) (x:=l[i].kind) (a:=1) (b:=3)
  have eI2:=eW (base:=base) (h:=h1) (x:=l[i].pid) (a:=1) (b:=99999)
  rw [dJ aS,ie]
  have head:∃ h3,KB bp h h3/\base<=h3.length/\∀ {r:Option (Nat×az×AH)},(if oU f l[i]=true then some (1,[some (.bool false)],h3) else some (0,[some (.slice (some ad) l.length l.length),some (.slice (some ad) l.length l.length),some (.int .i64 (l.length:Int)),some (.int .i64 (ag .i64 ((i:Int)+(1:Int))))],h3))=r->CM base [some (.slice (some ad) l.length l.length),some (.slice (some ad) l.length l.length),some (.int .i64 (l.length:Int)),some (.int .i64 (i:Int))] h=r:=by
   have pre:∀ (b:Bool) (hz:AH) {r:Option (Nat×az×AH)},(if (!dx l[i].kind 1 3)=true then some (fX ([some (.slice (some ad) l.length l.length),some (.slice (some ad) l.length l.length),some (.int .i64 (l.length:Int)),some (.int .i64 (i:Int)),some (.bool true)],h1)) else if (!dx l[i].pid 1 99999)=true then some (fX ([some (.slice (some ad) l.length l.length),some (.slice (some ad) l.length l.length),some (.int .i64 (l.length:Int)),some (.int .i64 (i:Int)),some (.bool true)],h1)) else some (fX ([some (.slice (some ad) l.length l.length),some (.slice (some ad) l.length l.length),some (.int .i64 (l.length:Int)),some (.int .i64 (i:Int)),some (.bool (!jo f l[i].t))],h2)))=some (fX (([some (.slice (some ad) l.length l.length),some (.slice (some ad) l.length l.length),some (.int .i64 (l.length:Int)),some (.int .i64 (i:Int)),some (.bool b)],hz)):Sum (az×AH) (Nat×az×AH)) ->
     (if b=true then some (1,[some (.bool false)],hz) else some (0,[some (.slice (some ad) l.length l.length),some (.slice (some ad) l.length l.length),some (.int .i64 (l.length:Int)),some (.int .i64 (ag .i64 ((i:Int)+(1:Int))))],hz))=r->CM base [some (.slice (some ad) l.length l.length),some (.slice (some ad) l.length l.length),some (.int .i64 (l.length:Int)),some (.int .i64 (i:Int))] h=r:=by
    intro b hz r hq hr
    rw [CN]
    refine aE (decide_eq_true (by omega)) (aE ⟨by omega,by omega⟩ (bs rfl ?_))
    simp only [aM]
    refine bI g0 (bI g1 (bI g2 (bI g3 (bT g4 (bS g5 (nw hb rfl λy ey=>?_))))))
    rw [da] at ey
    rw [ey]
    refine bj (q:=([some (.slice (some ad) l.length l.length),some (.slice (some ad) l.length l.length),some (.int .i64 (l.length:Int)),some (.int .i64 (i:Int)),some (.bool b)],hz)) ?_ (bS rfl (bS rfl (bI rfl (bI rfl (bB rfl hr)))))
    refine bI (o1.ap (i:=0) rfl) (bs eI (bB rfl ?_))
    rw [<- hq]
    by_cases c1:(!dx l[i].kind 1 3)=true
    ·rw [if_pos c1,if_pos c1]
    rw [if_neg c1,if_neg c1]
    refine bI (o1.ap (i:=1) rfl) (bs eI2 (bB rfl ?_))
    by_cases c2:(!dx l[i].pid 1 99999)=true
    ·rw [if_pos c2,if_pos c2]
    rw [if_neg c2,if_neg c2]
    exact bI (o1.ap (i:=2) rfl) (bI (o1.ap (i:=3) rfl) (bT (o1.ap (i:=4) rfl) (bS (o1.ap (i:=5) rfl) (bs e2 (bB rfl rfl)))))
   unfold oU
   by_cases c1:(!dx l[i].kind 1 3)=true
   ·refine ⟨h1,k1,by omega,λhr=>pre true h1 (if_pos c1) ?_⟩
    rw [if_pos c1] at hr
    exact hr
   by_cases c2:(!dx l[i].pid 1 99999)=true
   ·refine ⟨h1,k1,by omega,λhr=>pre true h1 (by rw [if_neg c1,if_pos c2]) ?_⟩
    rw [if_neg c1,if_pos c2] at hr
    exact hr
   ·refine ⟨h2,kN k1 k2,by omega,λhr=>pre (!jo f l[i].t) h2 (by rw [if_neg c1,if_neg c2]) ?_⟩
    rw [if_neg c1,if_neg c2] at hr
    exact hr
  obtain ⟨h3,k3,n3,head⟩:=head
  cases c:oU f l[i] with
  | true=>
   refine ⟨h3,?_,k3⟩
   rw [lH,if_pos rfl]
   exact aC (by decide) (head (by rw [c];exact aE rfl rfl))
  | false=>
   rw [iM]
   obtain ⟨h4,y1,y2⟩:=fJ (i+1) h3 (by omega) (hs.ax k3 λ_ _ h=>h) n3
   refine ⟨h4,bl (head ?_) y1,kN k3 y2⟩
   rw [c,bm (n:=(i:Int)+1) (by omega) (by omega)]
   exact aU (by decide) rfl
theorem IM{l:List Sd}(hl:l.length<=9223372036854775807)(hs:mA h p f l a)(hb:base<=h.length):∃ h',run (Et base) 54 [.slice a l.length l.length] h=some (.bool (iW f l),h')/\KB bp h h':=by
 obtain ⟨h1,e1,k1⟩:=FT (base:=base) hl l.length 0 h (by omega) hs hb
 rw [cH,show ((0:Nat):Int)=0 from rfl] at e1
 refine ⟨h1,?_,k1⟩
 unfold iW
 cases c:ie f l with
 | true=>
  rw [c,if_pos rfl] at e1
  exact Am.r54 (bs e1 (aE rfl (bB rfl rfl)))
 | false=>
  rw [c,if_neg (by decide)] at e1
  exact Am.r54 (bs e1 (aU (show ¬(2:Nat)=1 by decide) (aE rfl (bS rfl (by simp)))))
def a0:Ac:=⟨0,0,[],[],[]⟩
theorem aD(hi:i<l.length):l.getD i a0=l[i]:=by simp [hi]
def q_(ai:List Ac)(v n:Int):Bool:=if decide (bX n 0 ai>=0)=true then !qs v (ai.getD (bX n 0 ai).toNat a0).aw else false
def kQ(ai:List Ac)(v:Int):List Int->Bool
 | []=>false
 | n :: r=>q_ ai v n||kQ ai v r
theorem Aq{ab:Nat}{x1 x2:Option Addr}(hM:IL P)(hA:A.aw.length<=9223372036854775807):∀ (d i:Nat) (h:AH),i+d=A.aw.length->js h p f P.ai b->bQ base 32 h (ap pb) (dK a P.code.length b P.ai.length P.next c P.out.length)->bQ base 53 h (ap ab) (de A.pid A.pc x1 A.aH.length x2 A.box.length g A.aw.length)->Sl h g (iv .i64 A.aw)->base<=h.length ->
  ∃ h',aF (GS base) [some (.pointer (ap pb)),some (.pointer (ap ab)),some (.int .i64 (i:Int))] h=some (if kQ P.ai A.pid (A.aw.drop i)=true then (1,[some (.bool false)],h') else (2,[],h'))/\KB bp h h':=by
 intro d
 induction d with
 | zero=>
  intro i h hi hs oP oA hl hb
  refine ⟨h,?_,KB.refl _ _⟩
  rw [dZ (by omega),kQ,if_neg (by decide)]
  refine aC (by decide) ?_
  rw [CJ]
  refine bS (oA.ap (i:=4) rfl) (aU ?_ rfl)
  simp;omega
 | succ d fJ=>
  intro i h hi hs oP oA hl hb
  have aS:i<A.aw.length:=by omega
  obtain ⟨gd,rfl,gl⟩:=pD hl aS
  obtain ⟨h2,e2,k2⟩:=jt (base:=base) (P:=P) (a:=a) (g:=c) (v:=A.aw[i]) hM.2.2.1 hs hb
  have n2:=k2.1
  rw [dJ aS,kQ]
  have head:∀ {r:Option (Nat×az×AH)},(if q_ P.ai A.pid A.aw[i]=true then some (1,[some (.bool false)],h2) else some (0,[some (.pointer (ap pb)),some (.pointer (ap ab)),some (.int .i64 (ag .i64 ((i:Int)+(1:Int))))],h2))=r->GS base [some (.pointer (ap pb)),some (.pointer (ap ab)),some (.int .i64 (i:Int))] h=r:=by
   intro r hr
   rw [CJ]
   refine bS (oA.ap (i:=4) rfl) (aE (decide_eq_true (by omega)) ?_)
   refine bS (oP.ap (i:=0) rfl) (bS (oP.ap (i:=1) rfl) (bI (oP.ap (i:=2) rfl) (bS (oP.ap (i:=3) rfl) (bS (oA.ap (i:=4) rfl) (aE ⟨by omega,by omega⟩ (bs rfl ?_))))))
   simp only [aM]
   refine bI gl (bs e2 (bI rfl ?_))
   refine bj (q:=([some (.pointer (ap pb)),some (.pointer (ap ab)),some (.int .i64 (i:Int)),some (.bool (q_ P.ai A.pid A.aw[i]))],h2)) ?_ (bs rfl (bs rfl (bI rfl (bB rfl hr))))
   unfold q_
   by_cases cc:bX A.aw[i] 0 P.ai>=0
   ·rw [decide_eq_true cc,if_pos rfl,if_pos rfl]
    have jl:bX A.aw[i] 0 P.ai<(P.ai.length:Int):=by
     rcases fG A.aw[i] P.ai 0 with h|⟨_,h⟩<;>omega
    have hn:(bX A.aw[i] 0 P.ai).toNat<P.ai.length:=by omega
    obtain ⟨ad,u1,u2,u3,rfl,_,y0,y1,y2,y3,y4,_,ym⟩:=(hs.aj k2).get hn
    have eh:=vJ (base:=base) (v:=A.pid) (h:=h2) (by have:=(hM.2.2.2.1 _ (aQ hn)).2.2;omega) ym
    rw [aD hn]
    exact bS ((oP.aj k2).ap (i:=1) rfl) (aE ⟨cc,jl⟩ (bs rfl (bS y4 (bI ((oA.aj k2).ap (i:=0) rfl) (bs eh (bB rfl rfl))))))
   ·rw [decide_eq_false cc,if_neg (by decide),if_neg (by decide)]
  cases cb:q_ P.ai A.pid A.aw[i] with
  | true=>
   refine ⟨h2,?_,k2⟩
   rw [lH,if_pos rfl]
   exact aC (by decide) (head (by rw [cb];exact aE rfl rfl))
  | false=>
   rw [iM]
   obtain ⟨h4,y1,y2⟩:=fJ (i+1) h2 (by omega) (hs.aj k2) (oP.aj k2) (oA.aj k2) (hl.aj k2) (by omega)
   refine ⟨h4,bl (head ?_) y1,kN k2 y2⟩
   rw [cb,bm (n:=(i:Int)+1) (by omega) (by omega)]
   exact aU (by decide) rfl
theorem DL(hM:IL P)(hi:i<P.ai.length)(hs:js h p f P.ai b)(hb:base<=h.length):
  ∃ h',run (Et base) 44 [.agg (dK a P.code.length b P.ai.length P.next c P.out.length).toArray,.int .i64 (i:Int)] h=some (.bool (!kQ P.ai P.ai[i].pid P.ai[i].aw),h')/\KB bp h h':=by
 obtain ⟨o1,k1,q1⟩:=aI (base:=base) (t:=32) (h:=h) (cs:=dK a P.code.length b P.ai.length P.next c P.out.length) hb rfl
 generalize da:h++[some (⟨dK a P.code.length b P.ai.length P.next c P.out.length,32⟩:df)]=h1 at o1 k1 q1
 obtain ⟨ad,x1,x2,g,rfl,_,g0,g1,g2,g3,g4,hm,hl⟩:=(hs.aj k1).get hi
 obtain ⟨o2,k2,q2⟩:=aI (base:=base) (t:=53) (h:=h1) (cs:=de P.ai[i].pid P.ai[i].pc x1 P.ai[i].aH.length x2 P.ai[i].box.length g P.ai[i].aw.length) (by omega) rfl
 generalize nO:h1++[some (⟨de P.ai[i].pid P.ai[i].pc x1 P.ai[i].aH.length x2 P.ai[i].box.length g P.ai[i].aw.length,53⟩:df)]=h2 at o2 k2 q2
 have dH:=kN k1 k2
 obtain ⟨h3,e3,k3⟩:=Aq (base:=base) hM (hM.2.2.2.1 _ (aQ hi)).2.2 P.ai[i].aw.length 0 h2 (by omega) (hs.aj dH) (o1.aj k2) o2 (hl.aj k2) (by omega)
 rw [cH,show ((0:Nat):Int)=0 from rfl] at e3
 refine ⟨h3,Am.wc (lets λy ey=>?_),kN dH k3⟩
 rw [da] at ey
 rw [ey]
 refine bS (o1.ap (i:=1) rfl) (aE ⟨by omega,by omega⟩ (bs rfl ?_))
 simp only [aM]
 refine bI g0 (bI g1 (bS g2 (bS g3 (bS g4 (nw (show base<=h1.length by omega) rfl λy ey=>?_)))))
 rw [nO] at ey
 rw [ey]
 refine bs e3 ?_
 cases kQ P.ai P.ai[i].pid P.ai[i].aw with
 | true=>exact aE rfl (bB rfl rfl)
 | false=>exact aU (show ¬(2:Nat)=1 by decide) (aE rfl rfl)
def DM(f:Nat)(P:Pl)(i:Nat):Bool:=if (!jr f P.code (P.ai.getD i a0))=true then true else if decide ((P.ai.getD i a0).pid>=P.next)=true then true else if decide ((i:Int)>(0:Int))=true then decide ((P.ai.getD (i-1) a0).pid>=(P.ai.getD i a0).pid) else false
def DN(f:Nat)(P:Pl)(i:Nat):Bool:=if DM f P i=true then true else kQ P.ai (P.ai.getD i a0).pid (P.ai.getD i a0).aw
def tO(f:Nat)(P:Pl):Nat->Nat->Bool
 | 0,_=>false
 | d+1,i=>DN f P i||tO f P d (i+1)
def DO(f:Nat)(P:Pl):Bool:=codeOk P.code&&(dx P.next 1 90000&&(decide (¬(P.ai.length:Int)>20)&&(iW f P.out && !tO f P P.ai.length 0)))
theorem sG(hM:IL P):∀ (d i:Nat) (h:AH),i+d=P.ai.length->js h p f P.ai b->bQ base 32 h (ap pb) (dK a P.code.length b P.ai.length P.next c P.out.length)->Sl h a (cV P.code)->base<=h.length ->
  ∃ h',aF (B' base) [some (.pointer (ap pb)),some (.int .i64 (i:Int))] h=some (if tO f P d i=true then (1,[some (.bool false)],h') else (2,[],h'))/\KB bp h h':=by
 intro d
 have l1:=hM.1
 have l3:=hM.2.2.1
 induction d with
 | zero=>
  intro i h hi hs oP hc hb
  refine ⟨h,?_,KB.refl _ _⟩
  rw [tO,if_neg (by decide)]
  refine aC (by decide) ?_
  rw [lY]
  refine bS (oP.ap (i:=1) rfl) (aU ?_ rfl)
  simp;omega
 | succ d fJ=>
  intro i h hi hs oP hc hb
  have aS:i<P.ai.length:=by omega
  obtain ⟨ad,x1,x2,x3,rfl,_,g0,g1,g2,g3,g4,hm,_⟩:=hs.get aS
  obtain ⟨o1,k1,q1⟩:=aI (base:=base) (t:=53) (h:=h) (cs:=de P.ai[i].pid P.ai[i].pc x1 P.ai[i].aH.length x2 P.ai[i].box.length x3 P.ai[i].aw.length) hb rfl
  generalize da:h++[some (⟨de P.ai[i].pid P.ai[i].pc x1 P.ai[i].aH.length x2 P.ai[i].box.length x3 P.ai[i].aw.length,53⟩:df)]=h1 at o1 k1 q1
  obtain ⟨h2,e2,k2⟩:=tK (base:=base) hM.2.1 l1 (hc.aj k1) (hM.2.2.2.1 _ (aQ aS)) (hm.ax k1 λ_ _ h=>h) (by omega)
  have n2:=k2.1
  have dH:=kN k1 k2
  obtain ⟨h3,e3,k3⟩:=DL (base:=base) (a:=a) (c:=c) hM aS (hs.aj dH) (by omega)
  have n3:=k3.1
  have QA:=oP.aj k1
  have Bh:=QA.aj k2
  have o2:=o1.aj k2
  have head:∃ hz,KB bp h hz/\∀ {r:Option (Nat×az×AH)},(if DN f P i=true then some (1,[some (.bool false)],hz) else some (0,[some (.pointer (ap pb)),some (.int .i64 (ag .i64 ((i:Int)+(1:Int))))],hz))=r->B' base [some (.pointer (ap pb)),some (.int .i64 (i:Int))] h=r:=by
   have hB:DN f P i=if (!jr f P.code P.ai[i])=true then true else if decide (P.ai[i].pid>=P.next)=true then true else if decide ((i:Int)>(0:Int))=true then (if decide ((P.ai.getD (i-1) a0).pid>=P.ai[i].pid)=true then true else kQ P.ai P.ai[i].pid P.ai[i].aw) else kQ P.ai P.ai[i].pid P.ai[i].aw:=by
    unfold DN DM
    rw [aD aS]
    cases jr f P.code P.ai[i]<;>cases decide (P.ai[i].pid>=P.next)<;>cases decide ((i:Int)>(0:Int))<;>cases decide ((P.ai.getD (i-1) a0).pid>=P.ai[i].pid)<;>rfl
   rw [hB]
   by_cases c1:(!jr f P.code P.ai[i])=true
   ·refine ⟨h2,dH,λhr=>?_⟩
    rw [if_pos c1] at hr
    rw [lY]
    refine bS (oP.ap (i:=1) rfl) (aE (decide_eq_true (by omega)) (bS (oP.ap (i:=1) rfl) (aE ⟨by omega,by omega⟩ (bs rfl ?_))))
    simp only [aM]
    refine bI g0 (bI g1 (bS g2 (bS g3 (bS g4 (nw hb rfl λy ey=>?_)))))
    rw [da] at ey
    rw [ey]
    refine bj (q:=([some (.pointer (ap pb)),some (.int .i64 (i:Int)),some (.bool true)],h2)) ?_ (bs rfl (bI rfl (bB rfl hr)))
    refine bS (QA.ap (i:=0) rfl) (bI (o1.ap (i:=0) rfl) (bI (o1.ap (i:=1) rfl) (bS (o1.ap (i:=2) rfl) (bS (o1.ap (i:=3) rfl) (bS (o1.ap (i:=4) rfl) (bs e2 (bB rfl ?_)))))))
    exact aE c1 rfl
   by_cases c2:decide (P.ai[i].pid>=P.next)=true
   ·refine ⟨h2,dH,λhr=>?_⟩
    rw [if_neg c1,if_pos c2] at hr
    rw [lY]
    refine bS (oP.ap (i:=1) rfl) (aE (decide_eq_true (by omega)) (bS (oP.ap (i:=1) rfl) (aE ⟨by omega,by omega⟩ (bs rfl ?_))))
    simp only [aM]
    refine bI g0 (bI g1 (bS g2 (bS g3 (bS g4 (nw hb rfl λy ey=>?_)))))
    rw [da] at ey
    rw [ey]
    refine bj (q:=([some (.pointer (ap pb)),some (.int .i64 (i:Int)),some (.bool true)],h2)) ?_ (bs rfl (bI rfl (bB rfl hr)))
    refine bS (QA.ap (i:=0) rfl) (bI (o1.ap (i:=0) rfl) (bI (o1.ap (i:=1) rfl) (bS (o1.ap (i:=2) rfl) (bS (o1.ap (i:=3) rfl) (bS (o1.ap (i:=4) rfl) (bs e2 (bB rfl ?_)))))))
    exact aU c1 (bI (o2.ap (i:=0) rfl) (bI (Bh.ap (i:=2) rfl) (aE c2 rfl)))
   by_cases c3:(i:Int)>0
   ·have hw:ag .i64 ((i:Int)-(1:Int))=((i-1:Nat):Int):=by rw [bm (by omega) (by omega)];omega
    have V':i-1<P.ai.length:=by omega
    obtain ⟨qW,u1,u2,u3,ee,_,y0,_,_,_,_,_,_⟩:=(hs.aj dH).get V'
    injection ee with ee
    subst ee
    rw [aD V',decide_eq_true c3]
    by_cases c4:decide (P.ai[i-1].pid>=P.ai[i].pid)=true
    ·refine ⟨h2,dH,λhr=>?_⟩
     rw [if_neg c1,if_neg c2,if_pos rfl,if_pos c4] at hr
     rw [lY]
     refine bS (oP.ap (i:=1) rfl) (aE (decide_eq_true (by omega)) (bS (oP.ap (i:=1) rfl) (aE ⟨by omega,by omega⟩ (bs rfl ?_))))
     simp only [aM]
     refine bI g0 (bI g1 (bS g2 (bS g3 (bS g4 (nw hb rfl λy ey=>?_)))))
     rw [da] at ey
     rw [ey]
     refine bj (q:=([some (.pointer (ap pb)),some (.int .i64 (i:Int)),some (.bool true)],h2)) ?_ (bs rfl (bI rfl (bB rfl hr)))
     refine bS (QA.ap (i:=0) rfl) (bI (o1.ap (i:=0) rfl) (bI (o1.ap (i:=1) rfl) (bS (o1.ap (i:=2) rfl) (bS (o1.ap (i:=3) rfl) (bS (o1.ap (i:=4) rfl) (bs e2 (bB rfl ?_)))))))
     refine aU c1 (bI (o2.ap (i:=0) rfl) (bI (Bh.ap (i:=2) rfl) (aU c2 ?_)))
     rw [hw]
     refine aE (decide_eq_true c3) (bS (Bh.ap (i:=1) rfl) (aE ⟨by omega,by omega⟩ (bs rfl ?_)))
     simp only [aM]
     exact bI y0 (bI (o2.ap (i:=0) rfl) (aE c4 rfl))
    ·refine ⟨h3,kN dH k3,λhr=>?_⟩
     rw [if_neg c1,if_neg c2,if_pos rfl,if_neg c4] at hr
     rw [lY]
     refine bS (oP.ap (i:=1) rfl) (aE (decide_eq_true (by omega)) (bS (oP.ap (i:=1) rfl) (aE ⟨by omega,by omega⟩ (bs rfl ?_))))
     simp only [aM]
     refine bI g0 (bI g1 (bS g2 (bS g3 (bS g4 (nw hb rfl λy ey=>?_)))))
     rw [da] at ey
     rw [ey]
     refine bj (q:=([some (.pointer (ap pb)),some (.int .i64 (i:Int)),some (.bool (kQ P.ai P.ai[i].pid P.ai[i].aw))],h3)) ?_ (bs rfl (bI rfl (bB rfl hr)))
     refine bS (QA.ap (i:=0) rfl) (bI (o1.ap (i:=0) rfl) (bI (o1.ap (i:=1) rfl) (bS (o1.ap (i:=2) rfl) (bS (o1.ap (i:=3) rfl) (bS (o1.ap (i:=4) rfl) (bs e2 (bB rfl ?_)))))))
     refine aU c1 (bI (o2.ap (i:=0) rfl) (bI (Bh.ap (i:=2) rfl) (aU c2 ?_)))
     rw [hw]
     refine aE (decide_eq_true c3) (bS (Bh.ap (i:=1) rfl) (aE ⟨by omega,by omega⟩ (bs rfl ?_)))
     simp only [aM]
     refine bI y0 (bI (o2.ap (i:=0) rfl) (aU c4 ?_))
     refine bS (Bh.ap (i:=0) rfl) (bS (Bh.ap (i:=1) rfl) (bI (Bh.ap (i:=2) rfl) (bS (Bh.ap (i:=3) rfl) (bs e3 (bB rfl ?_)))))
     rw [Yl]
   ·refine ⟨h3,kN dH k3,λhr=>?_⟩
    rw [decide_eq_false c3] at hr
    rw [if_neg c1,if_neg c2,if_neg (show ¬(false=true) by decide)] at hr
    rw [lY]
    refine bS (oP.ap (i:=1) rfl) (aE (decide_eq_true (by omega)) (bS (oP.ap (i:=1) rfl) (aE ⟨by omega,by omega⟩ (bs rfl ?_))))
    simp only [aM]
    refine bI g0 (bI g1 (bS g2 (bS g3 (bS g4 (nw hb rfl λy ey=>?_)))))
    rw [da] at ey
    rw [ey]
    refine bj (q:=([some (.pointer (ap pb)),some (.int .i64 (i:Int)),some (.bool (kQ P.ai P.ai[i].pid P.ai[i].aw))],h3)) ?_ (bs rfl (bI rfl (bB rfl hr)))
    refine bS (QA.ap (i:=0) rfl) (bI (o1.ap (i:=0) rfl) (bI (o1.ap (i:=1) rfl) (bS (o1.ap (i:=2) rfl) (bS (o1.ap (i:=3) rfl) (bS (o1.ap (i:=4) rfl) (bs e2 (bB rfl ?_)))))))
    refine aU c1 (bI (o2.ap (i:=0) rfl) (bI (Bh.ap (i:=2) rfl) (aU c2 (aU (by simpa using c3) ?_))))
    refine bS (Bh.ap (i:=0) rfl) (bS (Bh.ap (i:=1) rfl) (bI (Bh.ap (i:=2) rfl) (bS (Bh.ap (i:=3) rfl) (bs e3 (bB rfl ?_)))))
    rw [Yl]
  obtain ⟨hz,kz,head⟩:=head
  have nz:=kz.1
  rw [tO]
  cases cb:DN f P i with
  | true=>
   refine ⟨hz,?_,kz⟩
   rw [lH,if_pos rfl]
   exact aC (by decide) (head (by rw [cb];exact aE rfl rfl))
  | false=>
   rw [iM]
   obtain ⟨h4,y1,y2⟩:=fJ (i+1) hz (by omega) (hs.aj kz) (oP.aj kz) (hc.aj kz) (by omega)
   refine ⟨h4,bl (head ?_) y1,kN kz y2⟩
   rw [cb,bm (n:=(i:Int)+1) (by omega) (by omega)]
   exact aU (by decide) rfl
theorem tP(hM:IL P)(x:tL h p f P cs)(hb:base<=h.length):
  ∃ h',run (Et base) 15 [.agg cs.toArray] h=some (.bool (DO f P),h')/\KB bp h h':=by
 obtain ⟨a,b,c,rfl,hc,_,hs,ho⟩:=x
 obtain ⟨o1,k1,q1⟩:=aI (base:=base) (t:=32) (h:=h) (cs:=dK a P.code.length b P.ai.length P.next c P.out.length) hb rfl
 generalize da:h++[some (⟨dK a P.code.length b P.ai.length P.next c P.out.length,32⟩:df)]=h1 at o1 k1 q1
 obtain ⟨h2,e2,k2⟩:=oS (base:=base) hM.2.1 hM.1 (hc.aj k1) (by omega)
 have n2:=k2.1
 have dH:=kN k1 k2
 have o2:=o1.aj k2
 have eI:=cU (base:=base) (h:=h2) (x:=P.next) (a:=1) (b:=90000)
 obtain ⟨h3,e3,k3⟩:=DK (base:=base) hM.2.2.2.2 (ho.ax dH λ_ _ h=>h) (by omega)
 have n3:=k3.1
 have fg:=kN dH k3
 obtain ⟨h4,e4,k4⟩:=sG (base:=base) (pb:=h.length) hM P.ai.length 0 h3 (by omega) (hs.aj fg) (o2.aj k3) (hc.aj fg) (by omega)
 rw [show ((0:Nat):Int)=0 from rfl] at e4
 unfold DO
 have fin:∀ (q:Bool) (hz:AH) {r:Value×AH},(hq:(if (!codeOk P.code)=true then some (fX (([some (.pointer (ap h.length)),some (.bool true)],h2))) else if (!dx P.next 1 90000)=true then some (fX (([some (.pointer (ap h.length)),some (.bool true)],h2))) else if decide ((P.ai.length:Int)>20)=true then some (fX (([some (.pointer (ap h.length)),some (.bool true)],h2))) else some (fX (([some (.pointer (ap h.length)),some (.bool (!iW f P.out))],h3))))=some (fX (([some (.pointer (ap h.length)),some (.bool q)],hz)):Sum (az×AH) (Value×AH))) ->
   (if q=true then some ((.bool false),hz) else (aF (B' base) [some (.pointer (ap h.length)),some (.int .i64 (0:Int))] hz).bind λu_=>(if u_.1=1 then ((ay u_.2.1 0).bind aO).bind λrZ=>some ((.bool rZ),u_.2.2) else (if u_.1=2 then some ((.bool true),u_.2.2) else none)))=some r->run (Et base) 15 [.agg (dK a P.code.length b P.ai.length P.next c P.out.length).toArray] h=some r:=by
  intro q hz r hq hr
  refine Am.jR (lets λy ey=>?_)
  rw [da] at ey
  rw [ey]
  refine bj (q:=([some (.pointer (ap h.length)),some (.bool q)],hz)) ?_ (bs rfl (bB rfl hr))
  rw [<- hq]
  refine bS (o1.ap (i:=0) rfl) (bs e2 (bB rfl ?_))
  by_cases c1:(!codeOk P.code)=true
  ·rw [if_pos c1,if_pos c1]
  rw [if_neg c1,if_neg c1]
  refine bI (o2.ap (i:=2) rfl) (bs eI (bB rfl ?_))
  by_cases c2:(!dx P.next 1 90000)=true
  ·rw [if_pos c2,if_pos c2]
  rw [if_neg c2,if_neg c2]
  refine bS (o2.ap (i:=1) rfl) ?_
  by_cases c3:decide ((P.ai.length:Int)>20)=true
  ·rw [if_pos c3,if_pos c3]
  rw [if_neg c3,if_neg c3]
  exact bS (o2.ap (i:=3) rfl) (bs e3 (bB rfl rfl))
 by_cases c1:codeOk P.code=true
 ·rw [c1,fx]
  by_cases c2:dx P.next 1 90000=true
  ·rw [c2,fx]
   by_cases c3:(P.ai.length:Int)>20
   ·refine ⟨h2,fin true h2 (by rw [c1,c2];simp [c3]) ?_,dH⟩
    simp [c3]
   ·rw [decide_eq_true c3,fx]
    by_cases c4:iW f P.out=true
    ·rw [c4,fx]
     refine ⟨h4,fin false h3 (by rw [c1,c2,c4];simp [c3]) (aU (by decide) (bs e4 ?_)),kN fg k4⟩
     cases tO f P P.ai.length 0 with
     | true=>exact aE rfl (bB rfl rfl)
     | false=>exact aU (show ¬(2:Nat)=1 by decide) (aE rfl rfl)
    ·refine ⟨h3,fin true h3 (by rw [c1,c2];simp [c3,c4]) ?_,fg⟩
     simp [c4]
  ·refine ⟨h2,fin true h2 (by rw [c1];simp [c2]) ?_,dH⟩
   simp [c2]
 ·refine ⟨h2,fin true h2 (by simp [c1]) ?_,dH⟩
  simp [c1]
set_option maxRecDepth 100000 in
theorem NC{v:Value}(x:Rd Tryz.prog h f 24 [v]):∃ g a l,v = .slice a (ae l) (ae l)/\l.length<=maxLen/\mA h (· < h.length) g l a:=by
 have cS:Tryz.prog.cellsOf 79=6:=by kernel_rfl
 have cT:Tryz.prog.cellsOf 77=4:=by kernel_rfl
 have c3:Tryz.prog.cellsOf 3=1:=by kernel_rfl
 match f,x with
 | 0,x=>exact x.elim
 | f+1,x=>
  simp only [Rd,Tryz.underlying24] at x
  obtain ⟨a,n,vs,e,h2,h3,h4,h5⟩:=x
  injection e with e _
  subst e
  rw [cS] at h4 h5
  have each:∀ i,i<n->∃ x:Sd,∃ cs,(vs.drop (i*6)).take 6 = .int .i64 x.kind :: .int .i64 x.pid :: cs/\cD h (· < h.length) f x.t cs:=by
   intro i hi
   have y:=h5 i hi
   match f,y with
   | 0,y=>exact y.elim
   | f+1,y=>
    simp only [Rd,Tryz.underlying79] at y
    obtain ⟨hl,hf⟩:=y
    generalize xj:(vs.drop (i*6)).take 6=cs at hl hf
    rw [cS] at hl
    match cs,hl with
    | [v0,v1,v2,v3,v4,v5],_=>
     simp only [aA,c3,cT,cH,zW,ui,uj] at hf
     obtain ⟨f0,f1,f2,_⟩:=hf
     obtain ⟨n0,e0,_⟩:=f0.int Tryz.underlying3
     obtain ⟨n1,e1,_⟩:=f1.int Tryz.underlying3
     injection e0 with e0 _
     injection e1 with e1 _
     subst e0;subst e1
     obtain ⟨t,ht⟩:=Hf f _ f2
     exact ⟨⟨n0,n1,t⟩,_,rfl,cD.up _ _ _ ht⟩
  let g:Nat->Sd:=λi=>if hi:i<n then (each i hi).choose else ⟨0,0,.mk 0 0 ⟨#[]⟩ []⟩
  have hg:∀ i,i<n->∃ cs,(vs.drop (i*6)).take 6 = .int .i64 (g i).kind :: .int .i64 (g i).pid :: cs/\cD h (· < h.length) f (g i).t cs:=by
   intro i hi
   simp only [g,hi,dite_true]
   exact (each i hi).choose_spec
  refine ⟨f,a,(dM n).map g,by simp,by simpa using h2,vs,h3,l_ h3,by simpa using h4,λi t hi=>?_⟩
  have aS:i<n:=by have:=(bY.1 hi).1;simpa using this
  simp [aS] at hi
  subst hi
  exact hg i aS
theorem w9{ab:Nat}{bb:Option Addr}{x1 x2:Option Addr}{n:Nat}(hM:IL P)(hA:A.aw.length<=9223372036854775807):∀ (d j:Nat) (h:AH),j+d=A.aw.length->js h p f P.ai b->bQ base 32 h (ap pb) (dK a P.code.length b P.ai.length P.next c P.out.length)->bQ base 53 h (ap ab) (de A.pid A.pc x1 A.aH.length x2 A.box.length g A.aw.length)->Sl h g (iv .i64 A.aw)->base<=h.length ->
  ∃ h',aF (Cf base) [some (.pointer (ap pb)),some (.pointer (ap ab)),some (.slice bb n n),some (.int .i64 v),some (.int .i64 (i:Int)),some (.slice g A.aw.length A.aw.length),some (.int .i64 (A.aw.length:Int)),some (.int .i64 (j:Int))] h=some (if kQ P.ai A.pid (A.aw.drop j)=true then (1,[some (.bool false)],h') else (4,[some (.pointer (ap pb)),some (.slice bb n n),some (.int .i64 v),some (.int .i64 (i:Int))],h'))/\KB bp h h':=by
 intro d
 induction d with
 | zero=>
  intro j h hi hs oP oA hl hb
  refine ⟨h,?_,KB.refl _ _⟩
  rw [dZ (by omega),kQ,if_neg (by decide)]
  refine aC (by decide) ?_
  rw [Ch]
  refine aU ?_ rfl
  simp;omega
 | succ d fJ=>
  intro j h hi hs oP oA hl hb
  have aS:j<A.aw.length:=by omega
  obtain ⟨gd,rfl,gl⟩:=pD hl aS
  obtain ⟨h2,e2,k2⟩:=qt (base:=base) (v:=A.aw[j]) hM.2.2.1 hs (oP.ap (i:=1) rfl) hb
  have n2:=k2.1
  rw [dJ aS,kQ]
  have head:∀ {r:Option (Nat×az×AH)},(if q_ P.ai A.pid A.aw[j]=true then some (1,[some (.bool false)],h2) else some (0,[some (.pointer (ap pb)),some (.pointer (ap ab)),some (.slice bb n n),some (.int .i64 v),some (.int .i64 (i:Int)),some (.slice (some gd) A.aw.length A.aw.length),some (.int .i64 (A.aw.length:Int)),some (.int .i64 (ag .i64 ((j:Int)+(1:Int))))],h2))=r->Cf base [some (.pointer (ap pb)),some (.pointer (ap ab)),some (.slice bb n n),some (.int .i64 v),some (.int .i64 (i:Int)),some (.slice (some gd) A.aw.length A.aw.length),some (.int .i64 (A.aw.length:Int)),some (.int .i64 (j:Int))] h=r:=by
   intro r hr
   rw [Ch]
   refine aE (decide_eq_true (by omega)) (aE ⟨by omega,by omega⟩ (bs rfl ?_))
   simp only [aM]
   refine bI gl (bs e2 (bI rfl ?_))
   refine bj (q:=([some (.pointer (ap pb)),some (.pointer (ap ab)),some (.slice bb n n),some (.int .i64 v),some (.int .i64 (i:Int)),some (.slice (some gd) A.aw.length A.aw.length),some (.int .i64 (A.aw.length:Int)),some (.int .i64 (j:Int)),some (.bool (q_ P.ai A.pid A.aw[j]))],h2)) ?_ (bs rfl (bs rfl (bS rfl (bI rfl (bI rfl (bS rfl (bI rfl (bI rfl (bB rfl hr)))))))))
   unfold q_
   by_cases cc:bX A.aw[j] 0 P.ai>=0
   ·rw [decide_eq_true cc,if_pos rfl,if_pos rfl]
    have jl:bX A.aw[j] 0 P.ai<(P.ai.length:Int):=by
     rcases fG A.aw[j] P.ai 0 with h|⟨_,h⟩<;>omega
    have hn:(bX A.aw[j] 0 P.ai).toNat<P.ai.length:=by omega
    obtain ⟨ad,u1,u2,u3,rfl,_,y0,y1,y2,y3,y4,_,ym⟩:=(hs.aj k2).get hn
    have eh:=FQ (base:=base) (v:=A.pid) (h:=h2) (by have:=(hM.2.2.2.1 _ (aQ hn)).2.2;omega) ym
    rw [aD hn]
    exact bS ((oP.aj k2).ap (i:=1) rfl) (aE ⟨cc,jl⟩ (bs rfl (bS y4 (bI ((oA.aj k2).ap (i:=0) rfl) (bs eh (bB rfl rfl))))))
   ·rw [decide_eq_false cc,if_neg (by decide),if_neg (by decide)]
  cases cb:q_ P.ai A.pid A.aw[j] with
  | true=>
   refine ⟨h2,?_,k2⟩
   rw [lH,if_pos rfl]
   exact aC (by decide) (head (by rw [cb];exact aE rfl rfl))
  | false=>
   rw [iM]
   obtain ⟨h4,y1,y2⟩:=fJ (j+1) h2 (by omega) (hs.aj k2) (oP.aj k2) (oA.aj k2) (hl.aj k2) (by omega)
   refine ⟨h4,bl (head ?_) y1,kN k2 y2⟩
   rw [cb,bm (n:=(j:Int)+1) (by omega) (by omega)]
   exact aU (by decide) rfl
theorem sH(hM:IL P):∀ (d i:Nat) (h:AH),i+d=P.ai.length->js h p f P.ai b->bQ base 32 h (ap pb) (dK a P.code.length b P.ai.length P.next c P.out.length)->Sl h a (cV P.code)->base<=h.length ->
  ∃ h',aF (Cg base) [some (.pointer (ap pb)),some (.slice b P.ai.length P.ai.length),some (.int .i64 (P.ai.length:Int)),some (.int .i64 (i:Int))] h=some (if tO f P d i=true then (1,[some (.bool false)],h') else (2,[],h'))/\KB bp h h':=by
 intro d
 have l1:=hM.1
 have l3:=hM.2.2.1
 induction d with
 | zero=>
  intro i h hi hs oP hc hb
  refine ⟨h,?_,KB.refl _ _⟩
  rw [tO,if_neg (by decide)]
  refine aC (by decide) ?_
  rw [Cj]
  refine aU ?_ rfl
  simp;omega
 | succ d fJ=>
  intro i h hi hs oP hc hb
  have aS:i<P.ai.length:=by omega
  obtain ⟨ad,x1,x2,x3,rfl,_,g0,g1,g2,g3,g4,hm,hl⟩:=hs.get aS
  obtain ⟨o1,k1,q1⟩:=aI (base:=base) (t:=53) (h:=h) (cs:=de P.ai[i].pid P.ai[i].pc x1 P.ai[i].aH.length x2 P.ai[i].box.length x3 P.ai[i].aw.length) hb rfl
  generalize da:h++[some (⟨de P.ai[i].pid P.ai[i].pc x1 P.ai[i].aH.length x2 P.ai[i].box.length x3 P.ai[i].aw.length,53⟩:df)]=h1 at o1 k1 q1
  obtain ⟨h2,e2,k2⟩:=nE (base:=base) hM.2.1 l1 (hc.aj k1) (hM.2.2.2.1 _ (aQ aS)) (hm.ax k1 λ_ _ h=>h) (by omega)
  have n2:=k2.1
  have dH:=kN k1 k2
  have QA:=oP.aj k1
  have Bh:=QA.aj k2
  have o2:=o1.aj k2
  obtain ⟨h3,e3,k3⟩:=w9 (base:=base) (i:=i) (bb:=some ad) (n:=P.ai.length) (v:=(P.ai.length:Int)) hM (hM.2.2.2.1 _ (aQ aS)).2.2 P.ai[i].aw.length 0 h2 (by omega) (hs.aj dH) Bh o2 (hl.aj dH) (by omega)
  rw [cH,show ((0:Nat):Int)=0 from rfl] at e3
  have n3:=k3.1
  have mid:∀ {r:Option (Nat×az×AH)},(if DM f P i=true then some (1,[some (.bool false)],h2) else
    (aF (Cf base) [some (.pointer (ap pb)),some (.pointer (ap h.length)),some (.slice (some ad) P.ai.length P.ai.length),some (.int .i64 (P.ai.length:Int)),some (.int .i64 (i:Int)),some (.slice x3 P.ai[i].aw.length P.ai[i].aw.length),some (.int .i64 (P.ai[i].aw.length:Int)),some (.int .i64 (0:Int))] h2).bind λEg=>
    (if Eg.1=1 then ((ay Eg.2.1 0).bind aO).bind λb32=>some (1,[some (.bool b32)],Eg.2.2)
    else (if Eg.1=4 then ((ay Eg.2.1 0).bind HF).bind λd33=>((ay (Eg.2.1.tail) 0).bind aN).bind λuX=>((ay (Eg.2.1.tail.tail) 0).bind (au .i64)).bind λqm=>((ay (Eg.2.1.tail.tail.tail) 0).bind (au .i64)).bind λxJ=>some (0,[some (.pointer (some d33)),some (.slice uX.1 uX.2 uX.2),some (.int .i64 qm),some (.int .i64 (ag .i64 (xJ+(1:Int))))],Eg.2.2) else none)))=r ->
    Cg base [some (.pointer (ap pb)),some (.slice (some ad) P.ai.length P.ai.length),some (.int .i64 (P.ai.length:Int)),some (.int .i64 (i:Int))] h=r:=by
   intro r hr
   rw [Cj]
   refine aE (decide_eq_true (by omega)) (aE ⟨by omega,by omega⟩ (bs rfl ?_))
   simp only [aM]
   refine bI g0 (bI g1 (bS g2 (bS g3 (bS g4 (nw hb rfl λy ey=>?_)))))
   rw [da] at ey
   rw [ey]
   refine bj (q:=([some (.pointer (ap pb)),some (.pointer (ap h.length)),some (.slice (some ad) P.ai.length P.ai.length),some (.int .i64 (P.ai.length:Int)),some (.int .i64 (i:Int)),some (.bool (DM f P i))],h2)) ?_ (bs rfl (bs rfl (bS rfl (bI rfl (bI rfl (bB rfl ?_))))))
   ·refine bS (QA.ap (i:=0) rfl) (bI (o1.ap (i:=0) rfl) (bI (o1.ap (i:=1) rfl) (bS (o1.ap (i:=2) rfl) (bS (o1.ap (i:=3) rfl) (bS (o1.ap (i:=4) rfl) (bs e2 (bB rfl ?_)))))))
    unfold DM
    rw [aD aS]
    by_cases c1:(!jr f P.code P.ai[i])=true
    ·rw [if_pos c1,if_pos c1]
    rw [if_neg c1,if_neg c1]
    refine bI (o2.ap (i:=0) rfl) (bI (Bh.ap (i:=2) rfl) ?_)
    by_cases c2:decide (P.ai[i].pid>=P.next)=true
    ·rw [if_pos c2,if_pos c2]
    rw [if_neg c2,if_neg c2]
    by_cases c3:(i:Int)>0
    ·have hw:ag .i64 ((i:Int)-(1:Int))=((i-1:Nat):Int):=by rw [bm (by omega) (by omega)];omega
     have V':i-1<P.ai.length:=by omega
     obtain ⟨qW,u1,u2,u3,ee,_,y0,_,_,_,_,_,_⟩:=(hs.aj dH).get V'
     injection ee with ee
     subst ee
     rw [aD V',decide_eq_true c3,hw,if_pos rfl,if_pos rfl]
     refine bS (Bh.ap (i:=1) rfl) (aE ⟨by omega,by omega⟩ (bs rfl ?_))
     simp only [aM]
     exact bI y0 (bI (o2.ap (i:=0) rfl) rfl)
    ·rw [decide_eq_false c3,if_neg (by decide),if_neg (by decide)]
   ·try dsimp only
    by_cases cp:DM f P i=true
    ·rw [if_pos cp] at hr ⊢
     exact hr
    ·rw [if_neg cp] at hr ⊢
     exact bS (o2.ap (i:=4) rfl) hr
  rw [tO]
  unfold DN
  rw [aD aS]
  by_cases cp:DM f P i=true
  ·refine ⟨h2,?_,dH⟩
   rw [if_pos cp,lH,if_pos rfl]
   exact aC (by decide) (mid (aE cp rfl))
  rw [if_neg cp]
  cases cb:kQ P.ai P.ai[i].pid P.ai[i].aw with
  | true=>
   rw [cb,if_pos rfl] at e3
   refine ⟨h3,?_,kN dH k3⟩
   rw [lH,if_pos rfl]
   exact aC (by decide) (mid (aU cp (bs e3 (aE rfl (bB rfl rfl)))))
  | false=>
   rw [cb,if_neg (by decide)] at e3
   rw [iM]
   have fg:=kN dH k3
   obtain ⟨h4,y1,y2⟩:=fJ (i+1) h3 (by omega) (hs.aj fg) (oP.aj fg) (hc.aj fg) (by omega)
   refine ⟨h4,bl (mid (aU cp (bs e3 (aU (show ¬(4:Nat)=1 by decide) (aE rfl (bs rfl (bS rfl (bI rfl (bI rfl ?_))))))))) y1,kN fg y2⟩
   rw [bm (n:=(i:Int)+1) (by omega) (by omega)]
   rfl
theorem tQ(hM:IL P)(x:tL h p f P cs)(hb:base<=h.length):
  ∃ h',run (Et base) 22 [.agg cs.toArray] h=some (.bool (DO f P),h')/\KB bp h h':=by
 obtain ⟨a,b,c,rfl,hc,_,hs,ho⟩:=x
 obtain ⟨o1,k1,q1⟩:=aI (base:=base) (t:=32) (h:=h) (cs:=dK a P.code.length b P.ai.length P.next c P.out.length) hb rfl
 generalize da:h++[some (⟨dK a P.code.length b P.ai.length P.next c P.out.length,32⟩:df)]=h1 at o1 k1 q1
 obtain ⟨h2,e2,k2⟩:=oR (base:=base) hM.2.1 hM.1 (hc.aj k1) (by omega)
 have n2:=k2.1
 have dH:=kN k1 k2
 have o2:=o1.aj k2
 have eI:=eW (base:=base) (h:=h2) (x:=P.next) (a:=1) (b:=90000)
 obtain ⟨h3,e3,k3⟩:=IM (base:=base) hM.2.2.2.2 (ho.ax dH λ_ _ h=>h) (by omega)
 have n3:=k3.1
 have fg:=kN dH k3
 have o3:=o2.aj k3
 obtain ⟨h4,e4,k4⟩:=sH (base:=base) (pb:=h.length) hM P.ai.length 0 h3 (by omega) (hs.aj fg) o3 (hc.aj fg) (by omega)
 rw [show ((0:Nat):Int)=0 from rfl] at e4
 unfold DO
 have fin:∀ (q:Bool) (hz:AH) {r:Value×AH},(hq:(if (!codeOk P.code)=true then some (fX (([some (.pointer (ap h.length)),some (.bool true)],h2))) else if decide ((P.ai.length:Int)>20)=true then some (fX (([some (.pointer (ap h.length)),some (.bool true)],h2))) else if (!dx P.next 1 90000)=true then some (fX (([some (.pointer (ap h.length)),some (.bool true)],h2))) else some (fX (([some (.pointer (ap h.length)),some (.bool (!iW f P.out))],h3))))=some (fX (([some (.pointer (ap h.length)),some (.bool q)],hz)):Sum (az×AH) (Value×AH))) ->
   (if q=true then some ((.bool false),hz) else ((cell hz h.length 1).bind aN).bind λhK=>(aF (Cg base) [some (.pointer (ap h.length)),some (.slice hK.1 hK.2 hK.2),some (.int .i64 ((hK.2:Nat):Int)),some (.int .i64 (0:Int))] hz).bind λu_=>(if u_.1=1 then ((ay u_.2.1 0).bind aO).bind λrZ=>some ((.bool rZ),u_.2.2) else (if u_.1=2 then some ((.bool true),u_.2.2) else none)))=some r->run (Et base) 22 [.agg (dK a P.code.length b P.ai.length P.next c P.out.length).toArray] h=some r:=by
  intro q hz r hq hr
  refine Am.LF (lets λy ey=>?_)
  rw [da] at ey
  rw [ey]
  refine bj (q:=([some (.pointer (ap h.length)),some (.bool q)],hz)) ?_ (bs rfl (bB rfl hr))
  rw [<- hq]
  refine bS (o1.ap (i:=0) rfl) (bs e2 (bB rfl ?_))
  by_cases c1:(!codeOk P.code)=true
  ·rw [if_pos c1,if_pos c1]
  rw [if_neg c1,if_neg c1]
  refine bS (o2.ap (i:=1) rfl) ?_
  by_cases c3:decide ((P.ai.length:Int)>20)=true
  ·rw [if_pos c3,if_pos c3]
  rw [if_neg c3,if_neg c3]
  refine bI (o2.ap (i:=2) rfl) (bs eI (bB rfl ?_))
  by_cases c2:(!dx P.next 1 90000)=true
  ·rw [if_pos c2,if_pos c2]
  rw [if_neg c2,if_neg c2]
  exact bS (o2.ap (i:=3) rfl) (bs e3 (bB rfl rfl))
 by_cases c1:codeOk P.code=true
 ·rw [c1,fx]
  by_cases c3:(P.ai.length:Int)>20
  ·refine ⟨h2,fin true h2 (by rw [c1];simp [c3]) ?_,dH⟩
   simp [c3]
  by_cases c2:dx P.next 1 90000=true
  ·rw [c2,fx,decide_eq_true c3,fx]
   by_cases c4:iW f P.out=true
   ·rw [c4,fx]
    refine ⟨h4,fin false h3 (by rw [c1,c2,c4];simp [c3]) (aU (by decide) (bS (o3.ap (i:=1) rfl) (bs e4 ?_))),kN fg k4⟩
    cases tO f P P.ai.length 0 with
    | true=>exact aE rfl (bB rfl rfl)
    | false=>exact aU (show ¬(2:Nat)=1 by decide) (aE rfl rfl)
   ·refine ⟨h3,fin true h3 (by rw [c1,c2];simp [c3,c4]) ?_,fg⟩
    simp [c4]
  ·refine ⟨h2,fin true h2 (by rw [c1];simp [c2,c3]) ?_,dH⟩
   simp [c2]
 ·refine ⟨h2,fin true h2 (by simp [c1]) ?_,dH⟩
  simp [c1]
theorem rH.le{h:AH}{p:Nat->Prop}{f f':Nat}(hf:f<=f'){A:Ac}{cs:List Value}(x:rH h p f A cs):rH h p f' A cs:=by
 obtain ⟨a,b,g,e,h1,h2,h3⟩:=x
 exact ⟨a,b,g,e,h1.le hf,h2.le hf,h3⟩
theorem js.le{h:AH}{p:Nat->Prop}{f f':Nat}(hf:f<=f'){l:List Ac}{a:Option Addr}(x:js h p f l a):js h p f' l a:=by
 obtain ⟨vs,h1,h2,h3,h4⟩:=x
 exact ⟨vs,h1,h2,h3,λi y hy=>(h4 i y hy).le hf⟩
set_option maxRecDepth 100000 in
theorem IN(x:Rd Tryz.prog h f 74 cs):∃ A,rH h (· < h.length) f A cs/\Nj A:=by
 have cA:Tryz.prog.cellsOf 74=5:=by kernel_rfl
 have c3:Tryz.prog.cellsOf 3=1:=by kernel_rfl
 have cT:Tryz.prog.cellsOf 72=1:=by kernel_rfl
 have cI:Tryz.prog.cellsOf 51=1:=by kernel_rfl
 match f,x with
 | 0,x=>exact x.elim
 | f+1,x=>
  simp only [Rd,Tryz.underlying74] at x
  obtain ⟨hl,hf⟩:=x
  rw [cA] at hl
  match cs,hl with
  | [v0,v1,v2,v3,v4],_=>
   simp only [aA,c3,cT,cI,cH,zW,ui,uj] at hf
   obtain ⟨f0,f1,f2,f3,f4,_⟩:=hf
   obtain ⟨n0,e0,_⟩:=f0.int Tryz.underlying3
   obtain ⟨n1,e1,_⟩:=f1.int Tryz.underlying3
   injection e0 with e0 _
   injection e1 with e1 _
   subst e0;subst e1
   obtain ⟨a,R,rfl,m2,s2⟩:=DA f2
   obtain ⟨b,B,rfl,m3,s3⟩:=DA f3
   obtain ⟨g,L,e4,m4,s4,_⟩:=f4.ints Tryz.underlying51 Tryz.underlying3 c3
   injection e4 with e4 _
   subst e4
   simp only [maxLen] at m2 m3 m4
   refine ⟨⟨n0,n1,R,B,L⟩,rH.le (f:=f) (by omega) ⟨a,b,g,rfl,s2,s3,s4,?_⟩,by simp only;omega,by simp only;omega,by simp only;omega⟩
   rcases l_ s4 with e|e
   ·exact .inl (by simpa [iv] using e)
   ·exact .inr e
set_option maxRecDepth 100000 in
theorem IP{v:Value}(x:Rd Tryz.prog h f 23 [v]):∃ a l,v = .slice a (ae l) (ae l)/\l.length<=maxLen/\js h (· < h.length) f l a/\∀ A∈l,Nj A:=by
 have cS:Tryz.prog.cellsOf 74=5:=by kernel_rfl
 match f,x with
 | 0,x=>exact x.elim
 | f+1,x=>
  simp only [Rd,Tryz.underlying23] at x
  obtain ⟨a,n,vs,e,h2,h3,h4,h5⟩:=x
  injection e with e _
  subst e
  rw [cS] at h4 h5
  have each:∀ i,i<n->∃ A:Ac,rH h (· < h.length) f A ((vs.drop (i*5)).take 5)/\Nj A:=λi hi=>IN (h5 i hi)
  let g:Nat->Ac:=λi=>if hi:i<n then (each i hi).choose else a0
  have hg:∀ i,i<n->rH h (· < h.length) f (g i) ((vs.drop (i*5)).take 5)/\Nj (g i):=by
   intro i hi
   simp only [g,hi,dite_true]
   exact (each i hi).choose_spec
  refine ⟨a,(dM n).map g,by simp,by simpa using h2,⟨vs,h3,l_ h3,by simpa using h4,λi t hi=>?_⟩,λA hA=>?_⟩
  ·have aS:i<n:=by have:=(bY.1 hi).1;simpa using this
   simp [aS] at hi
   subst hi
   exact (hg i aS).1.le (by omega)
  ·obtain ⟨i,hi,rfl⟩:=dR.1 hA
   exact (hg i (by simpa using hi)).2
set_option maxRecDepth 100000 in
theorem ND(x:Rd Tryz.prog h f 26 cs):∃ g P,tL h (· < h.length) g P cs/\IL P:=by
 have cP:Tryz.prog.cellsOf 26=4:=by kernel_rfl
 have c3:Tryz.prog.cellsOf 3=1:=by kernel_rfl
 have cI:Tryz.prog.cellsOf 22=1:=by kernel_rfl
 have cA:Tryz.prog.cellsOf 23=1:=by kernel_rfl
 have cS:Tryz.prog.cellsOf 24=1:=by kernel_rfl
 match f,x with
 | 0,x=>exact x.elim
 | f+1,x=>
  simp only [Rd,Tryz.underlying26] at x
  obtain ⟨hl,hf⟩:=x
  rw [cP] at hl
  match cs,hl with
  | [v0,v1,v2,v3],_=>
   simp only [aA,c3,cI,cA,cS,cH,zW,ui,uj] at hf
   obtain ⟨f0,f1,f2,f3,_⟩:=hf
   obtain ⟨a,code,rfl,m0,s0,z0⟩:=Yf f0
   obtain ⟨b,ai,rfl,m1,s1,z1⟩:=IP f1
   obtain ⟨n2,e2,_⟩:=f2.int Tryz.underlying3
   injection e2 with e2 _
   subst e2
   obtain ⟨g,c,out,rfl,m3,s3⟩:=NC f3
   simp only [maxLen] at m0 m1 m3 z0
   refine ⟨f+g,⟨code,ai,n2,out⟩,⟨a,b,c,rfl,s0,l_ s0,s1.le (by omega),s3.le (by omega)⟩,by simp only;omega,λx hx=>by have:=z0 x hx;omega,by simp only;omega,z1,by simp only;omega⟩
abbrev Ym:Tm:=.mk 1 0 ⟨#[]⟩ []
theorem aes:bM base (f+1) S h Ym (ah 1 0 ⟨#[]⟩ none 0):=⟨by decide,by decide,none,rfl,a_.nil⟩
def yc(f:Nat)(pid pc:Int)(t:Tm):Bool:=dx pid 1 99999&&(!decide (pc<0)&&jo f t)
def fm(t:Tm):Nat->List Tm
 | 0=>[t]
 | n+1=>fm t n++[Ym]
theorem fc(t:Tm):∀ n,(fm t n).length=n+1
 | 0=>rfl
 | n+1=>by simp [fm,fc t n]
def vK(f:Nat)(pid pc:Int)(t:Tm):Ac:=if yc f pid pc t=true then ⟨pid,pc,fm t 7,[],[]⟩ else ⟨0,0,[],[],[]⟩
theorem Ar{t:Tm}(ZL:base<=lo)(h1:lo<=b1):∀ (d i:Nat) (h:AH) (ao:Option Addr) (vs:List Value) (T:Fp),i+d=7->b1<h.length->bQ base 53 h (ap b1) (de pid pc ao (i+1) none 0 none 0)->bQ base 56 h ao vs->vs.length=(i+1)*4->bC 4 (bM base (f+1)) T h (fm t i) vs->(∀ b,T b->lo<=b/\b<h.length/\b≠b1)->(∀ b,bK ao b->¬T b/\lo<=b/\b≠b1) ->
  ∃ h' FK ji T',aF (MN base) [some (.pointer (ap b0)),some (.pointer (ap b1))] h=some (2,[some (.pointer (ap b0)),some (.pointer (ap b1))],h')/\bQ base 53 h' (ap b1) (de pid pc FK 8 none 0 none 0)/\bQ base 56 h' FK ji/\ji.length=8*4/\bC 4 (bM base (f+1)) T' h' (fm t 7) ji /\
   (∀ b,T' b->lo<=b/\b<h'.length/\b≠b1)/\(∀ b,bK FK b->¬T' b/\lo<=b/\b≠b1)/\KB (λb=>lo<=b/\(b=b1\/bK ao b\/h.length<=b)) h h':=by
 intro d
 induction d with
 | zero=>
  intro i h ao vs T hi jM oa ow hv hc hT ha
  have lL:i=7:=by omega
  subst lL
  refine ⟨h,ao,vs,T,?_,oa,ow,hv,hc,hT,ha,KB.refl _ _⟩
  refine aC (by decide) ?_
  rw [CT]
  exact bS (oa.ap (i:=2) rfl) (aU (by simp) rfl)
 | succ d fJ=>
  intro i h ao vs T hi jM oa ow hv hc hT ha
  obtain ⟨a3,h3,e3,o3,k3,b3,n3⟩:=Am.qn (bytes:=56) ow (n:=i+1) (sz:=4) (cs:=ah 1 0 ⟨#[]⟩ none 0) hv rfl (by decide) rfl (by omega) (by omega) (by omega)
  have oa3:=oa.ax k3 λb hb hk=>by rw [aG] at hb;exact (ha b hk).2.2 hb
  obtain ⟨h4,w4,oa4,k4,l4⟩:=oa3.fF (i:=2) (new:=[.slice a3 (i+1+1) (i+1+1)]) (by simp) (by simp)
  have jp:setAt (de pid pc ao (i+1) none 0 none 0) 2 [.slice a3 (i+1+1) (i+1+1)]=de pid pc a3 (i+1+1) none 0 none 0:=rfl
  rw [jp] at oa4
  have hao:∀ b,bK ao b->b<h.length:=λb hb=>(ow.lt hb).2
  have ch:=((hc.snoc (ji:=vs++ah 1 0 ⟨#[]⟩ none 0) (S':=T) (T:=λ_=>False) (aes (f:=f)) (λ_ h=>h.elim) (λb hb=>hb) (λ_ h=>h.elim) (λq hq=>dc (by rw [fc] at hq;have:=dD (w:=4) hq;omega)) (by
   rw [fc]
   exact eL rfl hv)).ax (bM.kp _ _) k3 (λb hb hk=>(ha b hk).1 hb)).ax (bM.kp _ _) k4 (λb hb hk=>(hT b hb).2.2 hk)
  have o4:=o3.bF k4 λb hb=>by have:=b3 b hb;omega
  have oL:KB (λb=>bK ao b\/b=b1) h h4:=KB.trans k3 k4 (λ_ _ h=>.inl h) (λ_ _ h=>.inr h)
  obtain ⟨h5,a5,vs5,T5,y1,y2,y3,y4,y5,y6,y7,y8⟩:=fJ (i+1) h4 a3 (vs++ah 1 0 ⟨#[]⟩ none 0) T (by omega) (by omega) oa4 o4 (by simp;omega) ch (λb hb=>by have:=hT b hb;exact ⟨this.1,by omega,this.2.2⟩) (λb hb=>by
   have:=b3 b hb
   subst this
   exact ⟨λhb=>by have:=hT _ hb;omega,by omega,by omega⟩)
  refine ⟨h5,a5,vs5,T5,?_,y2,y3,y4,y5,y6,y7,KB.trans oL y8 (λb _ hb=>?_) (λb eN hb=>?_)⟩
  ·refine bl ?_ y1
   rw [CT]
   refine bS (oa.ap (i:=2) rfl) (aE (decide_eq_true (by simp;omega)) (bS (oa.ap (i:=2) rfl) (lets λy ey=>?_)))
   subst ey
   exact bs e3 (bS rfl (bs w4 rfl))
  ·rcases hb with hb|hb
   ·exact ⟨(ha b hb).2.1,.inr (.inl hb)⟩
   ·exact ⟨by omega,.inl hb⟩
  ·refine ⟨hb.1,?_⟩
   rcases hb.2 with hb|hb|hb
   ·exact .inl hb
   ·have:=b3 b hb;omega
   ·omega
theorem As{t:Tm}(ZL:base<=lo)(h1:lo<=b1):∀ (d i:Nat) (h:AH) (ao:Option Addr) (vs:List Value) (T:Fp),i+d=7->b1<h.length->bQ base 53 h (ap b1) (de pid pc ao (i+1) none 0 none 0)->bQ base 56 h ao vs->vs.length=(i+1)*4->bC 4 (bM base (f+1)) T h (fm t i) vs->(∀ b,T b->lo<=b/\b<h.length/\b≠b1)->(∀ b,bK ao b->¬T b/\lo<=b/\b≠b1) ->
  ∃ h' FK ji T',aF (M3 base) [some (.pointer (ap b0)),some (.pointer (ap b1)),some (.int .i64 ((i+1:Nat):Int))] h=some (2,[some (.pointer (ap b0)),some (.pointer (ap b1))],h')/\bQ base 53 h' (ap b1) (de pid pc FK 8 none 0 none 0)/\bQ base 56 h' FK ji/\ji.length=8*4/\bC 4 (bM base (f+1)) T' h' (fm t 7) ji /\
   (∀ b,T' b->lo<=b/\b<h'.length/\b≠b1)/\(∀ b,bK FK b->¬T' b/\lo<=b/\b≠b1)/\KB (λb=>lo<=b/\(b=b1\/bK ao b\/h.length<=b)) h h':=by
 intro d
 induction d with
 | zero=>
  intro i h ao vs T hi jM oa ow hv hc hT ha
  have lL:i=7:=by omega
  subst lL
  refine ⟨h,ao,vs,T,?_,oa,ow,hv,hc,hT,ha,KB.refl _ _⟩
  refine aC (by decide) ?_
  rw [C9]
  exact aU (by decide) rfl
 | succ d fJ=>
  intro i h ao vs T hi jM oa ow hv hc hT ha
  obtain ⟨oz,kz,nz⟩:=aI (base:=base) (t:=56) (h:=h) (cs:=ah 1 0 ⟨#[]⟩ none 0) (by omega) rfl
  generalize hhz:h++[some (⟨ah 1 0 ⟨#[]⟩ none 0,56⟩:df)]=hz at oz kz nz
  have ez:run (Et base) 117 [.int .i64 0] h=some (.agg (ah 1 0 ⟨#[]⟩ none 0).toArray,hz):=by
   refine Am.M5 (nw (by omega) rfl λy ey=>?_)
   rw [hhz] at ey
   subst ey
   exact q4 oz rfl
  have oaz:=oa.aj kz
  obtain ⟨a3,h3,e3,o3,k3,b3,n3⟩:=Am.qn (bytes:=56) (ow.aj kz) (n:=i+1) (sz:=4) (cs:=ah 1 0 ⟨#[]⟩ none 0) hv rfl (by decide) rfl (by omega) (by omega) (by omega)
  have oa3:=oaz.ax k3 λb hb hk=>by rw [aG] at hb;exact (ha b hk).2.2 hb
  obtain ⟨h4,w4,oa4,k4,l4⟩:=oa3.fF (i:=2) (new:=[.slice a3 (i+1+1) (i+1+1)]) (by simp) (by simp)
  have jp:setAt (de pid pc ao (i+1) none 0 none 0) 2 [.slice a3 (i+1+1) (i+1+1)]=de pid pc a3 (i+1+1) none 0 none 0:=rfl
  rw [jp] at oa4
  have hao:∀ b,bK ao b->b<h.length:=λb hb=>(ow.lt hb).2
  have ch:=(((hc.ax (bM.kp _ _) kz λ_ _ h=>h).snoc (ji:=vs++ah 1 0 ⟨#[]⟩ none 0) (S':=T) (T:=λ_=>False) (aes (f:=f)) (λ_ h=>h.elim) (λb hb=>hb) (λ_ h=>h.elim) (λq hq=>dc (by rw [fc] at hq;have:=dD (w:=4) hq;omega)) (by
   rw [fc]
   exact eL rfl hv)).ax (bM.kp _ _) k3 (λb hb hk=>(ha b hk).1 hb)).ax (bM.kp _ _) k4 (λb hb hk=>(hT b hb).2.2 hk)
  have o4:=o3.bF k4 λb hb=>by have:=b3 b hb;omega
  have oL:KB (λb=>bK ao b\/b=b1) h h4:=KB.trans (KB.trans kz k3 (λ_ _ h=>h.elim) (λ_ _ h=>h)) k4 (λ_ _ h=>.inl h) (λ_ _ h=>.inr h)
  obtain ⟨h5,a5,vs5,T5,y1,y2,y3,y4,y5,y6,y7,y8⟩:=fJ (i+1) h4 a3 (vs++ah 1 0 ⟨#[]⟩ none 0) T (by omega) (by omega) oa4 o4 (by simp;omega) ch (λb hb=>by have:=hT b hb;exact ⟨this.1,by omega,this.2.2⟩) (λb hb=>by
   have:=b3 b hb
   subst this
   exact ⟨λhb=>by have:=hT _ hb;omega,by omega,by omega⟩)
  refine ⟨h5,a5,vs5,T5,?_,y2,y3,y4,y5,y6,y7,KB.trans oL y8 (λb _ hb=>?_) (λb eN hb=>?_)⟩
  ·refine bl ?_ y1
   rw [C9]
   refine aE (decide_eq_true (by omega)) (bS (oa.ap (i:=2) rfl) (bs ez (bs (v:=ah 1 0 ⟨#[]⟩ none 0) rfl (bI rfl (bI rfl (bT rfl (bS rfl ?_)))))))
   rw [iP (d_ kz (oa.ap (i:=2) rfl)),iP (by
    intro x hx
    injection hx with hx
    subst hx
    show b1≠hz.length
    omega)]
   refine lets λy ey=>?_
   subst ey
   refine bs e3 (bS rfl (bs w4 ?_))
   rw [bm (n:=((i+1:Nat):Int)+1) (by omega) (by omega)]
   rfl
  ·rcases hb with hb|hb
   ·exact ⟨(ha b hb).2.1,.inr (.inl hb)⟩
   ·exact ⟨by omega,.inl hb⟩
  ·refine ⟨hb.1,?_⟩
   rcases hb.2 with hb|hb|hb
   ·exact .inl hb
   ·have:=b3 b hb;omega
   ·omega
theorem vM{F:Nat}(hF:∀ (h:AH) (p:Nat->Prop) (k n:Int) (s:ByteArray) (a:Option Addr) (m:Nat) (t:Tm),cD h p f t (ah k n s a m)->base<=h.length->∃ h',run (Et base) F [.agg (ah k n s a m).toArray] h=some (.bool (jo f t),h')/\KB bp h h'){t:Tm}(hb:base<=h.length)(o:bQ base 56 h (ap b0) (ah k n s a m))(ht:cD h p f t (ah k n s a m)):
  ∃ h',(if (!dx pid 1 99999)=true then
some (.inl ([some (.int .i64 pid),some (.int .i64 pc),some (.pointer (ap b0)),some (.pointer (ap b1)),some (.bool true)],h))
else
(if (decide (pc<(0:Int)))=true then
some (.inl ([some (.int .i64 pid),some (.int .i64 pc),some (.pointer (ap b0)),some (.pointer (ap b1)),some (.bool true)],h))
else
((cell h b0 0).bind (au .i64)).bind λn6=>
((cell h b0 1).bind (au .i64)).bind λn7=>
((cell h b0 2).bind aK).bind λs8=>
((cell h b0 3).bind aN).bind λl9=>
(run (Et base) F [(.agg #[(.int .i64 n6),(.int .i64 n7),(.string s8),(.slice l9.1 l9.2 l9.2)])] h).bind λql=>
((some ql.1).bind aO).bind λE'=>
some (.inl ([some (.int .i64 pid),some (.int .i64 pc),some (.pointer (ap b0)),some (.pointer (ap b1)),some (.bool (!E'))],ql.2))))=some (fX (([some (.int .i64 pid),some (.int .i64 pc),some (.pointer (ap b0)),some (.pointer (ap b1)),some (.bool (!yc f pid pc t))],h'):az×AH):Sum (az×AH) (Value×AH))/\KB bp h h':=by
 unfold yc
 cases c1:dx pid 1 99999 with
 | false=>exact ⟨h,aE rfl rfl,KB.refl _ _⟩
 | true=>
  cases c2:decide (pc<0) with
  | true=>exact ⟨h,aU (by decide) (aE rfl rfl),KB.refl _ _⟩
  | false=>
   obtain ⟨h',e,k⟩:=hF h p k n s a m t ht hb
   refine ⟨h',aU (by decide) (aU (by decide) (q4 o (bs e (bB rfl ?_)))),k⟩
   simp
theorem Hl{h1:AH}{t:Tm}{a:Option Addr}{n:Nat}(hb:base<=h.length)(hk:KB bp h h1){ad:Option Addr}{T:Fp}(hn:n=(fm t 7).length)(ow:bQ base 56 h1 ad vs)(hv:vs.length=8*4)(hc:bC 4 (bM base (f+1)) T h1 (fm t 7) vs)(hT:∀ b,T b->h.length<=b/\b<h1.length)(ha:∀ b,bK ad b->¬T b/\h.length<=b):
  b_ base (f+1) (iS h.length h1.length) h1 ⟨pid,pc,fm t 7,[],[]⟩ (de pid pc ad 8 none 0 none 0):=by
 have hl:=fc t 7
 refine ⟨ad,none,none,iS h.length h1.length,λ_=>False,λ_=>False,by simp only [hl];rfl,⟨vs,T,ow,by rw [hl];exact hv,λb cy=>⟨⟨(ha b cy).2,(ow.lt cy).2⟩,(ha b cy).1⟩,λb cy=>hT b cy,hc⟩,a_.nil,.inl ⟨rfl,rfl⟩,λx hx=>?_,λ_ h=>h,λ_ h=>h.elim,λ_ h=>h.elim,λ_ _ h=>h,λ_ _ h=>h,λ_ _ h=>h⟩
 obtain ⟨_,e,_⟩:=hx
 cases e
def NE(base f F:Nat):Prop:=∀ (h:AH) (p:Nat->Prop) (t:Tm) (cs:List Value) (pid pc:Int),cD h p (f+1) t cs->jJ (f+1) t->base<=h.length->(∀ b,p b->b<h.length) ->
  ∃ fy h',run (Et base) F [.int .i64 pid,.int .i64 pc,.agg cs.toArray] h=some (.agg fy.toArray,h')/\b_ base (f+1) (iS h.length h'.length) h' (vK (f+1) pid pc t) fy/\KB bp h h'
theorem U5:b_ base f S h ⟨0,0,[],[],[]⟩ (de 0 0 none 0 none 0 none 0):=by
 refine ⟨none,none,none,λ_=>False,λ_=>False,λ_=>False,rfl,a_.nil,a_.nil,.inl ⟨rfl,rfl⟩,λx hx=>?_,λ_ h=>h.elim,λ_ h=>h.elim,λ_ h=>h.elim,λ_ _ h=>h,λ_ _ h=>h,λ_ _ h=>h⟩
 obtain ⟨_,e,_⟩:=hx
 cases e
theorem DP:NE base f 67:=by
 intro h p t cs pid pc hm hB hb hp
 obtain ⟨k,n,s,a,m,rfl⟩:=hm.form
 obtain ⟨o1,k1,q1⟩:=aI (base:=base) (t:=56) (h:=h) (cs:=ah k n s a m) hb rfl
 generalize da:h++[some (⟨ah k n s a m,56⟩:df)]=h1 at o1 k1 q1
 obtain ⟨o2,k2,q2⟩:=aI (base:=base) (t:=53) (h:=h1) (cs:=de 0 0 none 0 none 0 none 0) (by omega) rfl
 generalize nO:h1++[some (⟨de 0 0 none 0 none 0 none 0,53⟩:df)]=h2 at o2 k2 q2
 have dH:=kN k1 k2
 obtain ⟨h3,e3,k3⟩:=vM (base:=base) (f:=f+1) (F:=61) (b1:=h1.length) (pid:=pid) (pc:=pc) (λh p k n s a m t x y=>iT x y) (by omega) (o1.aj k2) (cD.ax dH (λ_ _ h=>h) _ _ _ hm)
 have n3:=k3.1
 have fg:=kN dH k3
 have Qm:=(o1.aj k2).aj k3
 have o23:=o2.aj k3
 cases c:yc (f+1) pid pc t with
 | false=>
  rw [c] at e3
  obtain ⟨h4,w4,o4,k4,l4⟩:=o23.fF (i:=0) (new:=de 0 0 none 0 none 0 none 0) (by simp) (by simp)
  have jp:setAt (de 0 0 none 0 none 0 none 0) 0 (de 0 0 none 0 none 0 none 0)=de 0 0 none 0 none 0 none 0:=rfl
  rw [jp] at o4
  refine ⟨de 0 0 none 0 none 0 none 0,h4,Am.UO (lets λy ey=>?_),by unfold vK;rw [c];exact U5,bR fg k4 λi hi=>by omega⟩
  rw [da] at ey
  subst ey
  refine lets λy ey=>?_
  rw [nO] at ey
  subst ey
  refine bj _ (bs eW (bB rfl e3)) (bI rfl (bI rfl (bs rfl (bs rfl (bB rfl (aE rfl (bs w4 (q5 o4 rfl))))))))
 | true=>
  rw [c] at e3
  obtain ⟨U6,h4,e4,m4,k4⟩:=cK (base:=base) (f+1) h3 p t _ (cD.ax fg (λ_ _ h=>h) _ _ _ hm) hB (by omega) (λb hb=>by have:=hp b hb;omega)
  obtain ⟨kk,nn,ss,aa,mm,rfl⟩:=m4.form
  have n4:=k4.1
  obtain ⟨o5,k5,q5'⟩:=aI (base:=base) (t:=56) (h:=h4) (cs:=ah kk nn ss aa mm) (by omega) rfl
  generalize hh5:h4++[some (⟨ah kk nn ss aa mm,56⟩:df)]=h5 at o5 k5 q5'
  obtain ⟨o6,k6,q6'⟩:=aI (base:=base) (t:=53) (h:=h5) (cs:=de pid pc (ap h4.length) 1 none 0 none 0) (by omega) rfl
  generalize hh6:h5++[some (⟨de pid pc (ap h4.length) 1 none 0 none 0,53⟩:df)]=h6 at o6 k6 q6'
  have ch:bC 4 (bM base (f+1)) (iS h3.length h4.length) h6 (fm t 0) (ah kk nn ss aa mm):=by
   have:=(bC.nil (w:=4) (P:=bM base (f+1)) (S:=λ_=>False) (h:=h6) (vs:=[])).snoc (S':=iS h3.length h4.length) (ji:=ah kk nn ss aa mm) (((bM.kp _ _ _ _ _ _ _ _ k5 (λ_ _ h=>h) m4)) |> λz=>bM.kp _ _ _ _ _ _ _ _ k6 (λ_ _ h=>h) z) (λ_ _ h=>h) (λ_ h=>h.elim) (λ_ h=>h) (λi hi=>by simp at hi) rfl
   exact this
  obtain ⟨h7,ao,vs,T,e7,o7,Zo,hv7,hc7,hT7,Yn,k7⟩:=Ar (base:=base) (f:=f) (b0:=h1.length) (b1:=h5.length) (t:=t) (pid:=pid) (pc:=pc) (lo:=h3.length) (by omega) (by omega) 7 0 h6 (ap h4.length) (ah kk nn ss aa mm) (iS h3.length h4.length) (by omega) (by omega) o6 (o5.aj k6) rfl ch (λb hb=>by constructor<;>omega) (λb hb=>by rw [aG] at hb;subst hb;exact ⟨λh=>by omega,by omega,by omega⟩)
  have n7:=k7.1
  have o27:=(((o23.aj k4).aj k5).aj k6).ax k7 λb hb hk=>by rw [aG] at hb;omega
  obtain ⟨h8,w8,o8,k8,l8⟩:=o27.fF (i:=0) (new:=de pid pc ao 8 none 0 none 0) (by simp) (by simp)
  have jp:setAt (de 0 0 none 0 none 0 none 0) 0 (de pid pc ao 8 none 0 none 0)=de pid pc ao 8 none 0 none 0:=rfl
  rw [jp] at o8
  have Hm:=kN (kN (kN fg k4) k5) k6
  have Jh:KB bp h h8:=bR (bR Hm k7 λi hi=>by omega) k8 λi hi=>by omega
  refine ⟨de pid pc ao 8 none 0 none 0,h8,Am.UO (lets λy ey=>?_),?_,Jh⟩
  ·rw [da] at ey
   subst ey
   refine lets λy ey=>?_
   rw [nO] at ey
   subst ey
   refine bj _ (bs eW (bB rfl e3)) (bI rfl (bI rfl (bs rfl (bs rfl (bB rfl (aU (by decide) (q4 Qm (bs e4 ?_))))))))
   refine bs (v:=ah kk nn ss aa mm) rfl (bI rfl (bI rfl (bT rfl (bS rfl (lets λy ey=>?_)))))
   rw [hh5] at ey
   subst ey
   refine nw (by omega) rfl λy ey=>?_
   rw [hh6] at ey
   subst ey
   refine bs e7 (aE rfl (bs rfl (bs rfl (q5 o7 (bs w8 (q5 o8 rfl))))))
  ·unfold vK
   rw [c,if_pos rfl]
   exact Hl (a:=none) hb Jh (fc t 7).symm (Zo.bF k8 λb hb=>by have:=(Yn b hb).2.1;omega) hv7 (hc7.ax (bM.kp _ _) k8 λb hb hk=>by have:=hT7 b hb;omega) (λb hb=>by have:=hT7 b hb;constructor<;>omega) (λb hb=>⟨(Yn b hb).1,by have:=(Yn b hb).2.1;omega⟩)
theorem DQ:NE base f 93:=by
 intro h p t cs pid pc hm hB hb hp
 obtain ⟨k,n,s,a,m,rfl⟩:=hm.form
 obtain ⟨o1,k1,q1⟩:=aI (base:=base) (t:=56) (h:=h) (cs:=ah k n s a m) hb rfl
 generalize da:h++[some (⟨ah k n s a m,56⟩:df)]=h1 at o1 k1 q1
 obtain ⟨o2,k2,q2⟩:=aI (base:=base) (t:=53) (h:=h1) (cs:=de 0 0 none 0 none 0 none 0) (by omega) rfl
 generalize nO:h1++[some (⟨de 0 0 none 0 none 0 none 0,53⟩:df)]=h2 at o2 k2 q2
 have dH:=kN k1 k2
 obtain ⟨h3,e3,k3⟩:=vM (base:=base) (f:=f+1) (F:=83) (b1:=h1.length) (pid:=pid) (pc:=pc) (λh p k n s a m t x y=>iR x y) (by omega) (o1.aj k2) (cD.ax dH (λ_ _ h=>h) _ _ _ hm)
 have n3:=k3.1
 have fg:=kN dH k3
 have Qm:=(o1.aj k2).aj k3
 have o23:=o2.aj k3
 cases c:yc (f+1) pid pc t with
 | false=>
  rw [c] at e3
  obtain ⟨h4,w4,o4,k4,l4⟩:=o23.fF (i:=0) (new:=de 0 0 none 0 none 0 none 0) (by simp) (by simp)
  have jp:setAt (de 0 0 none 0 none 0 none 0) 0 (de 0 0 none 0 none 0 none 0)=de 0 0 none 0 none 0 none 0:=rfl
  rw [jp] at o4
  refine ⟨de 0 0 none 0 none 0 none 0,h4,Am.r93 (lets λy ey=>?_),by unfold vK;rw [c];exact U5,bR fg k4 λi hi=>by omega⟩
  rw [da] at ey
  subst ey
  refine lets λy ey=>?_
  rw [nO] at ey
  subst ey
  refine bj _ (bs cU (bB rfl e3)) (bI rfl (bI rfl (bs rfl (bs rfl (bB rfl (aE rfl (bs w4 (q5 o4 rfl))))))))
 | true=>
  rw [c] at e3
  obtain ⟨U6,h4,e4,m4,k4⟩:=dh (base:=base) (f+1) h3 p t _ (cD.ax fg (λ_ _ h=>h) _ _ _ hm) hB (by omega) (λb hb=>by have:=hp b hb;omega)
  obtain ⟨kk,nn,ss,aa,mm,rfl⟩:=m4.form
  have n4:=k4.1
  obtain ⟨o5,k5,q5'⟩:=aI (base:=base) (t:=56) (h:=h4) (cs:=ah kk nn ss aa mm) (by omega) rfl
  generalize hh5:h4++[some (⟨ah kk nn ss aa mm,56⟩:df)]=h5 at o5 k5 q5'
  obtain ⟨o6,k6,q6'⟩:=aI (base:=base) (t:=53) (h:=h5) (cs:=de pid pc (ap h4.length) 1 none 0 none 0) (by omega) rfl
  generalize hh6:h5++[some (⟨de pid pc (ap h4.length) 1 none 0 none 0,53⟩:df)]=h6 at o6 k6 q6'
  have ch:bC 4 (bM base (f+1)) (iS h3.length h4.length) h6 (fm t 0) (ah kk nn ss aa mm):=by
   have:=(bC.nil (w:=4) (P:=bM base (f+1)) (S:=λ_=>False) (h:=h6) (vs:=[])).snoc (S':=iS h3.length h4.length) (ji:=ah kk nn ss aa mm) (((bM.kp _ _ _ _ _ _ _ _ k5 (λ_ _ h=>h) m4)) |> λz=>bM.kp _ _ _ _ _ _ _ _ k6 (λ_ _ h=>h) z) (λ_ _ h=>h) (λ_ h=>h.elim) (λ_ h=>h) (λi hi=>by simp at hi) rfl
   exact this
  obtain ⟨h7,ao,vs,T,e7,o7,Zo,hv7,hc7,hT7,Yn,k7⟩:=As (base:=base) (f:=f) (b0:=h1.length) (b1:=h5.length) (t:=t) (pid:=pid) (pc:=pc) (lo:=h3.length) (by omega) (by omega) 7 0 h6 (ap h4.length) (ah kk nn ss aa mm) (iS h3.length h4.length) (by omega) (by omega) o6 (o5.aj k6) rfl ch (λb hb=>by constructor<;>omega) (λb hb=>by rw [aG] at hb;subst hb;exact ⟨λh=>by omega,by omega,by omega⟩)
  have n7:=k7.1
  have o27:=(((o23.aj k4).aj k5).aj k6).ax k7 λb hb hk=>by rw [aG] at hb;omega
  obtain ⟨h8,w8,o8,k8,l8⟩:=o27.fF (i:=0) (new:=de pid pc ao 8 none 0 none 0) (by simp) (by simp)
  have jp:setAt (de 0 0 none 0 none 0 none 0) 0 (de pid pc ao 8 none 0 none 0)=de pid pc ao 8 none 0 none 0:=rfl
  rw [jp] at o8
  have Hm:=kN (kN (kN fg k4) k5) k6
  have Jh:KB bp h h8:=bR (bR Hm k7 λi hi=>by omega) k8 λi hi=>by omega
  refine ⟨de pid pc ao 8 none 0 none 0,h8,Am.r93 (lets λy ey=>?_),?_,Jh⟩
  ·rw [da] at ey
   subst ey
   refine lets λy ey=>?_
   rw [nO] at ey
   subst ey
   refine bj _ (bs cU (bB rfl e3)) (bI rfl (bI rfl (bs rfl (bs rfl (bB rfl (aU (by decide) (q4 Qm (bs e4 ?_))))))))
   refine bs (v:=ah kk nn ss aa mm) rfl (bI rfl (bI rfl (bT rfl (bS rfl (lets λy ey=>?_)))))
   rw [hh5] at ey
   subst ey
   refine nw (by omega) rfl λy ey=>?_
   rw [hh6] at ey
   subst ey
   refine bs e7 (aE rfl (bs rfl (bs rfl (q5 o7 (bs w8 (q5 o8 rfl))))))
  ·unfold vK
   rw [c,if_pos rfl]
   exact Hl (a:=none) hb Jh (fc t 7).symm (Zo.bF k8 λb hb=>by have:=(Yn b hb).2.1;omega) hv7 (hc7.ax (bM.kp _ _) k8 λb hb hk=>by have:=hT7 b hb;omega) (λb hb=>by have:=hT7 b hb;constructor<;>omega) (λb hb=>⟨(Yn b hb).1,by have:=(Yn b hb).2.1;omega⟩)
theorem a_.snoc{α:Type}{w:Nat}{P:Fp->AH->α->List Value->Prop}(kp:Kp P){base t bytes:Nat}{S C:Fp}{h:AH}{l:List α}{a:Option Addr}(x:a_ base t w P S h l a){y:α}{cs:List Value}(hy:P C h y cs)(hc:cs.length=w)(hw:0<w)(A0:cs.all leaf=true)(hC:∀ b,C b->¬S b)(wi:∀ b,C b->b<h.length)(pA:∀ b,S b->b<h.length)(hb:base<=h.length)(h1:(l.length+1)*bytes<=140737488355328)(h2:l.length+1<=9223372036854775807):
  ∃ a' h',Am.app base (h++[some ⟨cs,t⟩]) t w bytes a l.length (br (h++[some ⟨cs,t⟩]) (some ⟨h.length,0,none⟩) (1*w)) 1=some (.slice a' (l.length+1) (l.length+1),h')/\a_ base t w P (λb=>S b\/C b\/(h.length<=b/\b<h'.length)) h' (l++[y]) a'/\KB (bK a) h h'/\h.length+1<=h'.length:=by
 obtain ⟨vs,T,x1,x2,x3,x4,x5⟩:=x
 obtain ⟨a',h',e,o,k,d,n⟩:=Am.qn (bytes:=bytes) x1 x2 hc hw A0 hb h1 h2
 refine ⟨a',h',e,⟨vs++cs,λb=>T b\/C b,o,by simp [hc,x2,Ad],λb cy=>?_,λb cy=>cy.elim (λcy=>.inl (x4 b cy)) λcy=>.inr (.inl cy),?_⟩,k,n⟩
 ·have e:=d b cy
  have lt:=(o.lt cy).2
  subst e
  refine ⟨.inr (.inr ⟨by omega,lt⟩),λhh=>?_⟩
  rcases hh with hh|hh
  ·have:=pA _ (x4 _ hh);omega
  ·have:=wi _ hh;omega
 ·have c:=x5.snoc (ji:=vs++cs) (S':=λb=>T b\/C b) hy (λb hb cy=>hC b hb (x4 b cy)) (λb hb=>.inl hb) (λb hb=>.inr hb) (λq hq=>dc (by have:=dD (w:=w) hq;omega)) (eL hc x2)
  refine c.ax kp k λb hb hk=>?_
  rcases hb with hb|hb
  ·exact (x3 b hk).2 hb
  ·exact hC b hb (x3 b hk).1
def fN(l:List Sd)(kind pid:Int)(t:Tm):List Sd:=if decide ((l.length:Int)>=(500:Int))=true then l else l++[⟨kind,pid,t⟩]
def aet(base f F:Nat):Prop:=∀ (h:AH) (S:Fp) (l:List Sd) (v:Option Addr) (kind pid:Int) (p:Nat->Prop) (t:Tm) (k n:Int) (s:ByteArray) (a:Option Addr) (m:Nat),a_ base 82 6 (gz f) S h l v->l.length<=1048576->cD h p f t (ah k n s a m)->jJ f t->(∀ b,S b->b<h.length)->(∀ b,p b->b<h.length)->base<=h.length ->
 ∃ a' h',run (Et base) F [.slice v l.length l.length,.int .i64 kind,.int .i64 pid,.agg (ah k n s a m).toArray] h=some (.slice a' (fN l kind pid t).length (fN l kind pid t).length,h')/\a_ base 82 6 (gz f) (λb=>S b\/(h.length<=b/\b<h'.length)) h' (fN l kind pid t) a'/\KB (bK v) h h'/\h.length<=h'.length
theorem DR{h2:AH}{l:List Sd}{v:Option Addr}{t:Tm}(r:a_ base 82 6 (gz f) S h l v)(hl:l.length<=1048576)(hS:∀ b,S b->b<h.length)(dH:KB bp h h2)(ht:jG f (λb=>h.length<=b/\b<h2.length) h2 t (ah k n s a m))(hb:base<=h.length):
  ∃ a' h',Am.app base (h2++[some ⟨dr kind pid k n s a m,82⟩]) 82 6 72 v l.length (br (h2++[some ⟨dr kind pid k n s a m,82⟩]) (some ⟨h2.length,0,none⟩) (1*6)) 1=some (.slice a' (l.length+1) (l.length+1),h')/\a_ base 82 6 (gz f) (λb=>S b\/(h.length<=b/\b<h'.length)) h' (l++[⟨kind,pid,t⟩]) a'/\KB (bK v) h h'/\h.length<=h'.length:=by
 have n02:=dH.1
 obtain ⟨a',h',e,r',k',n'⟩:=(r.ax (gz.kp _) dH λ_ _ h=>h).snoc (gz.kp _) (bytes:=72) (y:=⟨kind,pid,t⟩) (C:=λb=>h.length<=b/\b<h2.length) (cs:=dr kind pid k n s a m) ⟨k,n,s,a,m,rfl,ht⟩ rfl (by decide) rfl (λb hb hs=>by have:=hS b hs;omega) (λb hb=>hb.2) (λb hb=>by have:=hS b hb;omega) (by omega) (by omega) (by omega)
 refine ⟨a',h',e,r'.mono λb hb=>?_,KB.trans dH k' (λ_ _ h=>h.elim) (λ_ _ h=>h),by omega⟩
 rcases hb with hb|hb|hb
 ·exact .inl hb
 ·exact .inr (by omega)
 ·exact .inr (by omega)
theorem oV:aet base f 68:=by
 intro h S l v kind pid p t k n s a m r hl hm hB hS hp hb
 suffices w:Wp (run (Et base) 68 [.slice v l.length l.length,.int .i64 kind,.int .i64 pid,.agg (ah k n s a m).toArray] h) λo=>∃ a',o.1 = .slice a' (fN l kind pid t).length (fN l kind pid t).length/\a_ base 82 6 (gz f) (λb=>S b\/(h.length<=b/\b<o.2.length)) o.2 (fN l kind pid t) a'/\KB (bK v) h o.2/\h.length<=o.2.length by
  obtain ⟨⟨u,h'⟩,e,a',rfl,q⟩:=w
  exact ⟨a',h',e,q⟩
 refine W.of (λr hx=>Am.r68 hx) ?_
 refine W.box hb λh1 o1 k1 q1=>?_
 unfold fN
 refine W.ite (λc=>?_) λc=>?_
 ·rw [if_pos c]
  exact W.ret ⟨v,rfl,(r.ax (gz.kp _) k1 λ_ _ h=>h).mono λb hb=>.inl hb,KB.mono k1 λ_ _ h=>h.elim,by simp only;omega⟩
 ·rw [if_neg c]
  obtain ⟨uf,h2,e2,t2,k2⟩:=Ai (base:=base) f h1 p t _ (cD.ax k1 (λ_ _ h=>h) _ _ _ hm) hB (by omega) (λb hb=>by have:=hp b hb;omega)
  obtain ⟨k',n',s',a',m',rfl⟩:=t2.form
  have n2:=k2.1
  obtain ⟨a3,h3,e3,r3,k3,n3⟩:=DR (kind:=kind) (pid:=pid) r hl hS (kN k1 k2) (jG.mo _ _ _ _ _ _ (λb hb=>by constructor<;>omega) t2) hb
  refine W.bI (o1.ap (i:=0) rfl) (W.bI (o1.ap (i:=1) rfl) (W.bT (o1.ap (i:=2) rfl) (W.bS (o1.ap (i:=3) rfl) (W.bs e2 (W.bs (v:=ah k' n' s' a' m') rfl (W.bI rfl (W.bI rfl (W.bT rfl (W.bS rfl (W.bs rfl (W.bs e3 (W.bS rfl (W.ret ⟨a3,?_,r3,k3,n3⟩)))))))))))))
  simp
theorem oW:aet base f 94:=by
 intro h S l v kind pid p t k n s a m r hl hm hB hS hp hb
 suffices w:Wp (run (Et base) 94 [.slice v l.length l.length,.int .i64 kind,.int .i64 pid,.agg (ah k n s a m).toArray] h) λo=>∃ a',o.1 = .slice a' (fN l kind pid t).length (fN l kind pid t).length/\a_ base 82 6 (gz f) (λb=>S b\/(h.length<=b/\b<o.2.length)) o.2 (fN l kind pid t) a'/\KB (bK v) h o.2/\h.length<=o.2.length by
  obtain ⟨⟨u,h'⟩,e,a',rfl,q⟩:=w
  exact ⟨a',h',e,q⟩
 refine W.of (λr hx=>Am.Wl hx) ?_
 refine W.box hb λh1 o1 k1 q1=>?_
 unfold fN
 refine W.ite (λc=>?_) λc=>?_
 ·rw [if_pos c]
  exact W.ret ⟨v,rfl,(r.ax (gz.kp _) k1 λ_ _ h=>h).mono λb hb=>.inl hb,KB.mono k1 λ_ _ h=>h.elim,by simp only;omega⟩
 ·rw [if_neg c]
  obtain ⟨uf,h2,e2,t2,k2⟩:=FL (base:=base) f h1 p t _ (cD.ax k1 (λ_ _ h=>h) _ _ _ hm) hB (by omega) (λb hb=>by have:=hp b hb;omega)
  obtain ⟨k',n',s',a',m',rfl⟩:=t2.form
  have n2:=k2.1
  obtain ⟨a3,h3,e3,r3,k3,n3⟩:=DR (kind:=kind) (pid:=pid) r hl hS (kN k1 k2) (jG.mo _ _ _ _ _ _ (λb hb=>by constructor<;>omega) t2) hb
  refine W.bI (o1.ap (i:=0) rfl) (W.bI (o1.ap (i:=1) rfl) (W.bT (o1.ap (i:=2) rfl) (W.bS (o1.ap (i:=3) rfl) (W.bs e2 (W.bs (v:=ah k' n' s' a' m') rfl (W.bI rfl (W.bI rfl (W.bT rfl (W.bS rfl (W.bs rfl (W.bs e3 (W.bS rfl (W.ret ⟨a3,?_,r3,k3,n3⟩)))))))))))))
  simp
theorem sI:∀ l:List In,(cV l).all leaf=true
 | []=>rfl
 | x :: r=>by
  rw [cV,List.all_append,sI r]
  rfl
def kR(g:Tm->Tm->Bool):List Tm->List Tm->Bool
 | t :: r,u :: q=>g t u&&kR g r q
 | _,_=>true
def jf:Nat->Tm->Tm->Bool
 | 0,_,_=>true
 | f+1,.mk k n s l,.mk k' n' s' l'=>if (k != k')=true then false else if (n != n')=true then false else if (!(s.toList==s'.toList))=true then false else if ((l.length:Int) != (l'.length:Int))=true then false else kR (jf f) l l'
def Hn(base f F:Nat):Prop:=∀ (f2:Nat) (h:AH) (p p2:Nat->Prop) (t u:Tm) (cs uf:List Value),cD h p f t cs->cD h p2 f2 u uf->base<=h.length ->
 ∃ h',run (Et base) F [.agg cs.toArray,.agg uf.toArray] h=some (.bool (jf f t u),h')/\KB bp h h'
theorem FU(ih:Hn base f 105){p2:Nat->Prop}{l m:List Tm}{a2:Option Addr}{k2 n2:Int}{s2:ByteArray}(hl:l.length<=9223372036854775807)(Zp:l.length=m.length):∀ (d i:Nat) (h:AH),i+d=l.length->iQ h p f l a->iQ h p2 f2 m a2->bQ base 56 h (ap b0) (ah k n s a l.length)->bQ base 56 h (ap b1) (ah k2 n2 s2 a2 m.length)->base<=h.length ->
  ∃ h',aF (vl base) [some (.pointer (ap b0)),some (.pointer (ap b1)),some (.int .i64 (l.length:Int)),some (.int .i64 (i:Int))] h=some (if kR (jf f) (l.drop i) (m.drop i)=true then (2,[],h') else (1,[some (.bool false)],h'))/\KB bp h h':=by
 intro d
 induction d with
 | zero=>
  intro i h hi hs nJ o o2 hb
  refine ⟨h,?_,KB.refl _ _⟩
  rw [dZ (by omega)]
  rw [show kR (jf f) [] (m.drop i)=true from rfl,if_pos rfl]
  refine aC (by decide) ?_
  rw [xS]
  exact aU (by simp;omega) rfl
 | succ d fJ=>
  intro i h hi hs nJ o o2 hb
  have aS:i<l.length:=by omega
  have jl:i<m.length:=by omega
  obtain ⟨ad,c0,c1,c2,c3,c4,rfl,g0,g1,g2,g3,hm⟩:=hs.tJ aS
  obtain ⟨qW,d0,d1,d2,d3,d4,rfl,y0,y1,y2,y3,De⟩:=nJ.tJ jl
  obtain ⟨h1,e1,k1⟩:=ih f2 h p p2 l[i] m[i] _ _ hm De hb
  rw [dJ aS,dJ jl,kR]
  have head:∀ {r:Option (Nat×az×AH)},(if (!jf f l[i] m[i])=true then some (1,[some (.bool false)],h1) else some (0,[some (.pointer (ap b0)),some (.pointer (ap b1)),some (.int .i64 (l.length:Int)),some (.int .i64 (ag .i64 ((i:Int)+(1:Int))))],h1))=r->vl base [some (.pointer (ap b0)),some (.pointer (ap b1)),some (.int .i64 (l.length:Int)),some (.int .i64 (i:Int))] h=r:=by
   intro r hr
   rw [xS]
   refine aE (decide_eq_true (by omega)) (bS (o.ap (i:=3) rfl) (aE ⟨by omega,by simp;omega⟩ (bs rfl ?_)))
   simp only [aM]
   refine bI g0 (bI g1 (bT g2 (bS g3 (bS (o2.ap (i:=3) rfl) (aE ⟨by omega,by simp;omega⟩ (bs rfl ?_))))))
   exact bI y0 (bI y1 (bT y2 (bS y3 (bs e1 (bB rfl hr)))))
  cases c:jf f l[i] m[i] with
  | false=>
   refine ⟨h1,?_,k1⟩
   rw [Bool.false_and,if_neg (by decide)]
   exact aC (by decide) (head (by rw [c];exact aE rfl rfl))
  | true=>
   rw [fx]
   obtain ⟨h2,m1,m2⟩:=fJ (i+1) h1 (by omega) (hs.ax k1 λ_ _ h=>h) (nJ.ax k1 λ_ _ h=>h) (o.aj k1) (o2.aj k1) (by have:=k1.1;omega)
   refine ⟨h2,bl (head ?_) m1,kN k1 m2⟩
   rw [c,bm (n:=(i:Int)+1) (by omega) (by omega)]
   exact aU (by decide) rfl
theorem rh{base:Nat}:∀ f,Hn base f 105
 | 0=>λf2 h p p2 t u cs uf x=>x.elim
 | f+1=>λf2 h p p2 t u cs uf x y hb=>by
  cases f2 with
  | zero=>exact y.elim
  | succ f2=>
   obtain ⟨k,n,s,l⟩:=t
   obtain ⟨k',n',s',m⟩:=u
   obtain ⟨a,rfl,vo,_,hl⟩:=x.parts
   obtain ⟨a2,rfl,M_,_,G9⟩:=y.parts
   simp only [maxLen] at hl G9
   obtain ⟨o1,k1,q1⟩:=aI (base:=base) (t:=56) (h:=h) (cs:=ah k n s a l.length) hb rfl
   generalize da:h++[some (⟨ah k n s a l.length,56⟩:df)]=h1 at o1 k1 q1
   obtain ⟨o2,k2,q2⟩:=aI (base:=base) (t:=56) (h:=h1) (cs:=ah k' n' s' a2 m.length) (by omega) rfl
   generalize nO:h1++[some (⟨ah k' n' s' a2 m.length,56⟩:df)]=h2 at o2 k2 q2
   have dH:=kN k1 k2
   have o1:=o1.aj k2
   have fin:∀ (q:Bool) {r:Value×AH},((if (k != k')=true then true else if (n != n')=true then true else if (!(s.toList==s'.toList))=true then true else ((l.length:Int) != (m.length:Int)))=q) ->
     (if q=true then some ((.bool false),h2) else (aF (vl base) [some (.pointer (ap h.length)),some (.pointer (ap h1.length)),some (.int .i64 (l.length:Int)),some (.int .i64 (0:Int))] h2).bind λCk=>(if Ck.1=1 then ((ay Ck.2.1 0).bind aO).bind λzd=>some ((.bool zd),Ck.2.2) else (if Ck.1=2 then some ((.bool true),Ck.2.2) else none)))=some r ->
     run (Et base) 105 [.agg (ah k n s a l.length).toArray,.agg (ah k' n' s' a2 m.length).toArray] h=some r:=by
    intro q r hq hr
    refine Am.Lh (lets λy ey=>?_)
    rw [da] at ey
    rw [ey]
    refine lets λy ey=>?_
    rw [nO] at ey
    rw [ey]
    refine bj (q:=([some (.pointer (ap h.length)),some (.pointer (ap h1.length)),some (.bool q)],h2)) ?_ (bs rfl (bs rfl (bB rfl ?_)))
    ·rw [<- hq]
     refine bI (o1.ap (i:=0) rfl) (bI (o2.ap (i:=0) rfl) ?_)
     by_cases c1:(k != k')=true
     ·rw [if_pos c1,if_pos c1]
     rw [if_neg c1,if_neg c1]
     refine bI (o1.ap (i:=1) rfl) (bI (o2.ap (i:=1) rfl) ?_)
     by_cases c2:(n != n')=true
     ·rw [if_pos c2,if_pos c2]
     rw [if_neg c2,if_neg c2]
     refine bT (o1.ap (i:=2) rfl) (bT (o2.ap (i:=2) rfl) ?_)
     by_cases c3:(!(s.toList==s'.toList))=true
     ·rw [if_pos c3,if_pos c3]
     rw [if_neg c3,if_neg c3]
     exact bS (o1.ap (i:=3) rfl) (bS (o2.ap (i:=3) rfl) rfl)
    ·cases q with
     | true=>exact hr
     | false=>exact aU (by decide) (bS (o1.ap (i:=3) rfl) hr)
   rw [jf]
   by_cases c1:(k != k')=true
   ·rw [if_pos c1] at fin ⊢
    exact ⟨h2,fin true rfl rfl,dH⟩
   rw [if_neg c1] at fin ⊢
   by_cases c2:(n != n')=true
   ·rw [if_pos c2] at fin ⊢
    exact ⟨h2,fin true rfl rfl,dH⟩
   rw [if_neg c2] at fin ⊢
   by_cases c3:(!(s.toList==s'.toList))=true
   ·rw [if_pos c3] at fin ⊢
    exact ⟨h2,fin true rfl rfl,dH⟩
   rw [if_neg c3] at fin ⊢
   by_cases c4:((l.length:Int) != (m.length:Int))=true
   ·rw [if_pos c4]
    exact ⟨h2,fin true c4 rfl,dH⟩
   rw [if_neg c4]
   have Zp:l.length=m.length:=by
    have:(l.length:Int)=(m.length:Int):=by simpa using c4
    omega
   obtain ⟨h3,e3,k3⟩:=FU (base:=base) (rh f) (k:=k) (n:=n) (s:=s) (k2:=k') (n2:=n') (s2:=s') (by omega) Zp l.length 0 h2 (by omega) (vo.ax dH λ_ _ h=>h) (M_.ax dH λ_ _ h=>h) o1 o2 (by omega)
   rw [cH,cH,show ((0:Nat):Int)=0 from rfl] at e3
   refine ⟨h3,fin false (by rw [Zp];simp) (bs e3 ?_),kN dH k3⟩
   cases kR (jf f) l m with
   | true=>exact aU (show ¬(2:Nat)=1 by decide) (aE rfl rfl)
   | false=>exact aE rfl (bB rfl rfl)
def kS(base:Nat)(h:AH)(a:Option Addr)(t:Nat):Prop:=∀ ad,a=some ad->ad.block<h.length/\(ad.block<base\/∃ k,bD h ad.block=some k/\k.ty=t)
theorem kS.ax{S:Nat->Prop}(x:kS base h a t)(k:KB S h h')(hS:∀ b,bK a b->¬S b):kS base h' a t:=λad e=>by
 obtain ⟨h1,h2⟩:=x ad e
 refine ⟨cW h1 k.1,h2.imp id λ⟨kk,e1,e2⟩=>⟨kk,?_,e2⟩⟩
 rw [k.2 _ h1 (hS _ ⟨ad,e,rfl⟩)]
 exact e1
theorem kS.aj(x:kS base h a t)(k:KB bp h h'):kS base h' a t:=x.ax k λ_ _ h=>h
theorem kS.own(o:bQ base t h a vs):kS base h a t:=λad e=>by
 rcases o with ⟨e2,_⟩|⟨qW,k,e1,e2,e3,e4,_⟩
 ·rw [e2] at e;cases e
 ·rw [e1] at e;injection e with e;subst e
  exact ⟨di e3,.inr ⟨k,e3,e4⟩⟩
theorem kS.ok(x:kS base h a t)(n:Nat):jZ base h a t n=true:=by
 unfold jZ
 cases a with
 | none=>simp
 | some ad=>
  obtain ⟨_,h2⟩:=x ad rfl
  simp only
  rcases h2 with h2|⟨k,e1,e2⟩
  ·have:Nat.blt ad.block base=true:=by rw [Nat.blt_eq];exact h2
   rw [this];simp
  ·rw [e1]
   subst e2
   simp
theorem kS.Ho{S:Nat->Prop}(x:kS base h a t)(k:KB S h h')(hS:∀ b,bK a b->¬S b):bc h h' a 0:=λad e=>by
 refine ⟨λj hj=>absurd hj (Nat.not_lt_zero _),?_⟩
 rw [k.2 _ (x ad e).1 (hS _ ⟨ad,e,rfl⟩)]
theorem kS.ne(x:kS base h a t){n:Nat}(hn:h.length<=n):fP a n:=λad e=>by
 have:=(x ad e).1
 omega
theorem Sl.part(x:Sl h a vs){n:Nat}(hnm:n+m<=vs.length):Sl h (dm a n) ((vs.drop n).take m):=by
 rcases x with e|⟨ad,k,e1,e2,e3,e4⟩
 ·subst e;exact .inl (by simp)
 ·subst e1
  refine .inr ⟨_,k,rfl,e2,by simp;omega,λi v hi=>?_⟩
  have aS:i<m:=by have:=(bY.1 hi).1;simp at this;omega
  rw [bJ aS,bZ] at hi
  simp only [bO]
  exact e4 _ _ hi
def zz(v:Int):Nat:=if v<0 then (-2*v-1).toNat else (2*v).toNat
def sb(s:ByteArray):List Int:=s.data.toList.map λb=>(b.toNat:Int)
theorem tj(s:ByteArray):∀ (d i:Nat) (r:List UInt8),i+d=s.size->(NF s i r).length=r.length+d
 | 0,i,r,h=>by
  unfold NF
  rw [if_neg (by omega)]
  simp
 | d+1,i,r,h=>by
  unfold NF
  rw [if_pos (by omega),tj s d (i+1) _ (by omega)]
  simp only [g_]
  omega
theorem qu(s:ByteArray):s.toList.length=s.size:=by
 unfold ByteArray.toList
 rw [tj s s.size 0 [] (by omega)]
 simp
theorem FV{x:In}(h:iA x n=true):x.s.size<=12:=by
 unfold iA at h
 simp only [bz] at h
 obtain ⟨_,_,_,_,_,h,_⟩:=h
 cases c:x.op==(2:Int) with
 | true=>
  rw [c,if_pos rfl] at h
  unfold ir dx at h
  simp at h
  omega
 | false=>
  rw [c,if_neg (by decide)] at h
  unfold zR at h
  have:=eq_of_beq h
  have h2:x.s.toList.length=(⟨#[]⟩:ByteArray).toList.length:=by rw [this]
  rw [qu,qu] at h2
  have:(⟨#[]⟩:ByteArray).size=0:=rfl
  omega
theorem m9{n:Int}:∀ {l:List In},jT n l=true->∀ x∈l,iA x n=true
 | [],_,x,hx=>by cases hx
 | y :: r,h,x,hx=>by
  simp only [jT,bz] at h
  rcases bn.1 hx with rfl|hx
  ·exact h.1
  ·exact m9 h.2 x hx
theorem fe{l:List In}(h:codeOk l=true):l.length<=200/\1<=l.length/\∀ x∈l,x.s.size<=12:=by
 unfold codeOk at h
 simp only [bz] at h
 obtain ⟨h1,_,h2⟩:=h
 unfold dx at h1
 simp at h1
 exact ⟨by omega,by omega,λx hx=>FV (m9 h2 x hx)⟩
theorem aeu(h:Ej k n s m=true):s.size<=40/\m<=20:=by
 have e0:∀ {t:ByteArray},(t.toList==(⟨#[]⟩:ByteArray).toList)=true->t.size=0:=fun {t} e=>by
  have e:=beq_iff_eq.1 e
  have:=qu t
  rw [e] at this
  simpa using this.symm
 unfold Ej at h
 split at h
 ·simp only [bz] at h
  have:=e0 h.1.2
  have:=beq_iff_eq.1 h.2
  omega
 split at h
 ·simp only [bz] at h
  have hh:=h.1.2
  unfold ir dx at hh
  simp only [bz,decide_eq_true_eq] at hh
  have:=beq_iff_eq.1 h.2
  omega
 split at h
 ·simp only [bz] at h
  have:=e0 h.1.2
  have:=beq_iff_eq.1 h.2
  omega
 split at h
 ·simp only [bz,decide_eq_true_eq] at h
  have:=e0 h.1.2
  omega
 split at h
 ·simp only [bz,decide_eq_true_eq] at h
  have:=e0 h.1.2
  omega
 split at h
 ·simp only [bz,decide_eq_true_eq] at h
  have:=beq_iff_eq.1 h.2
  omega
 ·cases h
theorem NG:∀ (f:Nat) (t:Tm) (deep left:Int),0<=lk f t deep left->jJ f t/\(eH f t:Int)+1+lk f t deep left<=left
 | 0,_,_,_,h=>by simp only [lk] at h;omega
 | f+1,.mk k n s l,deep,left,h=>by
  rw [lk] at h ⊢
  split at h
  ·omega
  rename_i hn
  rw [if_neg hn]
  have hsh:Ej k n s l.length=true:=by
   cases c:Ej k n s l.length with
   | true=>rfl
   | false=>exact absurd (.inr (.inr c)) hn
  obtain ⟨b1,b2⟩:=aeu hsh
  have hl:∀ (r:List Tm) (d x:Int),0<=qY (lk f) r d x->(∀ t∈r,jJ f t)/\((r.length+dt (eH f) r:Nat):Int)+qY (lk f) r d x<=x:=by
   intro r
   induction r with
   | nil=>intro d x hx;exact ⟨λt ht=>(by cases ht),by simp [dt,qY]⟩
   | cons t r X8=>
    intro d x hx
    rw [qY] at hx ⊢
    split at hx
    ·rename_i h0
     rw [if_pos h0]
     have h1:0<=lk f t d x:=by
      by_cases hc:0<=lk f t d x
      ·exact hc
      ·rw [zM _ _ _ _ (by omega)] at hx;omega
     obtain ⟨a1,a2⟩:=NG f t d x h1
     obtain ⟨c1,c2⟩:=X8 d _ hx
     refine ⟨λu hu=>?_,by simp only [g_,dt];omega⟩
     rcases bn.1 hu with rfl|hu
     ·exact a1
     ·exact c1 u hu
    ·omega
  obtain ⟨c1,c2⟩:=hl l (deep-1) (left-1) h
  refine ⟨⟨by omega,by omega,c1⟩,?_⟩
  simp only [eH]
  omega
theorem jI{t:Tm}(h:jo f t=true):jJ f t/\eH f t<=100:=by
 have h:=of_decide_eq_true h
 obtain ⟨a,b⟩:=NG f t 6 100 h
 exact ⟨a,by omega⟩
def Yo(x:In):Prop:=(0<=x.a/\x.a<=7)/\(0<=x.b/\(x.op=11\/x.b<=7))/\(0<=x.c/\x.c<=7)/\(x.op=4->0<=x.n/\x.b+x.n<=8)/\(x.op=6->0<=x.n)/\1<=x.op/\x.op<=20
theorem FW{c r:Int}(h:kO s c r=true):0<=r/\r<=7:=by
 unfold kO at h
 split at h
 ·have:=beq_iff_eq.1 h;omega
 ·unfold dx at h
  simp only [bz,decide_eq_true_eq] at h
  omega
theorem NH{x:In}(h:iA x n=true):Yo x:=by
 unfold iA at h
 simp only [bz] at h
 obtain ⟨_,h2,h3,h4,h5,_,h7⟩:=h
 have ha:=FW h3
 have hc:=FW h4
 have hb:0<=x.b/\(x.op=11\/x.b<=7):=by
  split at h5
  ·rename_i e
   have e:=beq_iff_eq.1 e
   unfold dx at h5
   simp only [bz,decide_eq_true_eq] at h5
   exact ⟨by omega,.inl e⟩
  ·have:=FW h5
   exact ⟨this.1,.inr this.2⟩
 unfold dx at h2
 simp only [bz,decide_eq_true_eq] at h2
 refine ⟨ha,hb,hc,λe=>?_,λe=>?_,h2.1,h2.2⟩
 ·have hb7:x.b<=7:=hb.2.resolve_left (by omega)
  unfold zV at h7
  rw [if_neg (by rw [e];decide),if_pos (by rw [e];decide)] at h7
  split at h7
  ·rename_i hn
   unfold dx at hn
   simp only [bz,decide_eq_true_eq] at hn h7
   rw [bm (by omega) (by omega)] at h7
   omega
  ·cases h7
 ·unfold zV at h7
  rw [if_neg (by rw [e];decide),if_neg (by rw [e];decide),if_pos (by rw [e];decide)] at h7
  unfold dx at h7
  simp only [bz,decide_eq_true_eq] at h7
  omega
theorem sJ{l:List In}(h:codeOk l=true):∀ x∈l,Yo x:=by
 unfold codeOk at h
 simp only [bz] at h
 exactλx hx=>NH (m9 h.2.2 x hx)
structure IQ where
 kind:Int
 pid:Int
 pc:Int
 t:Tm
abbrev i_(kind pid pc k n:Int)(s:ByteArray)(a:Option Addr)(m:Nat):List Value:=[.int .i64 kind,.int .i64 pid,.int .i64 pc,.int .i64 k,.int .i64 n,.string s,.slice a m m]
def Tm.kd:Tm->Int|.mk k _ _ _=>k
def Tm.nm:Tm->Int|.mk _ n _ _=>n
def Tm.ls:Tm->List Tm|.mk _ _ _ l=>l
def tk:Tm:=.mk 0 0 ⟨#[]⟩ []
def rg(R:List Tm)(i:Int):Tm:=R.getD i.toNat tk
def cC(x:In)(R:List Tm)(next:Int):IQ×Bool:=
 if (x.op==(13:Int))=true then (⟨3,(rg R x.a).nm,0,rg R x.b⟩,(rg R x.a).kd==(3:Int))
 else if (x.op==(16:Int))=true then (⟨4,next,x.n,rg R x.b⟩,true)
 else if (x.op==(17:Int))=true then (⟨5,0,0,rg R x.a⟩,true)
 else if (x.op==(18:Int))=true then (⟨6,(rg R x.a).nm,0,tk⟩,(rg R x.a).kd==(3:Int))
 else if (x.op==(19:Int))=true then (⟨7,0,0,rg R x.a⟩,true)
 else (⟨1,0,0,tk⟩,true)
def cu(x:In)(R:List Tm)(pid next:Int):Option Tm:=
 if (x.op==(1:Int))=true then some (.mk 1 x.n ⟨#[]⟩ [])
 else if (x.op==(2:Int))=true then some (.mk 2 0 x.s [])
 else if (x.op==(20:Int))=true then some (.mk 5 0 ⟨#[]⟩ [])
 else if (x.op==(3:Int))=true then some (rg R x.b)
 else if (x.op==(4:Int))=true then some (.mk 4 0 ⟨#[]⟩ ((R.drop x.b.toNat).take x.n.toNat))
 else if (x.op==(5:Int))=true then (if ((rg R x.c).kd==(5:Int))=true then some (.mk 5 0 ⟨#[]⟩ (rg R x.b :: (rg R x.c).ls)) else none)
 else if (x.op==(6:Int))=true then (if (if ((rg R x.b).kd != (4:Int))=true then true else decide (x.n>=((rg R x.b).ls.length:Int)))=true then none else some ((rg R x.b).ls.getD x.n.toNat tk))
 else if (x.op==(7:Int))=true then (if (if ((rg R x.b).kd != (5:Int))=true then true else (((rg R x.b).ls.length:Int)==(0:Int)))=true then none else some ((rg R x.b).ls.getD 0 tk))
 else if (x.op==(8:Int))=true then (if (if ((rg R x.b).kd != (5:Int))=true then true else (((rg R x.b).ls.length:Int)==(0:Int)))=true then none else some (.mk 5 0 ⟨#[]⟩ ((rg R x.b).ls.drop 1)))
 else if (x.op==(9:Int))=true then (if ((rg R x.b).kd==(1:Int))=true then (if ((rg R x.c).kd==(1:Int))=true then some (.mk 1 (ag .i64 ((rg R x.b).nm+(rg R x.c).nm)) ⟨#[]⟩ []) else none) else none)
 else if (x.op==(15:Int))=true then some (.mk 3 pid ⟨#[]⟩ [])
 else some (.mk 3 next ⟨#[]⟩ [])
def fH(op:Int):Bool:=!(if (op==(10:Int))=true then true else if (op==(11:Int))=true then true else if (op==(12:Int))=true then true else if (op==(13:Int))=true then true else if (op==(17:Int))=true then true else if (op==(18:Int))=true then true else (op==(19:Int)))
def eM(f:Nat)(x:In)(R:List Tm):Bool:=if (x.op==(10:Int))=true then !jf f (rg R x.a) (rg R x.b) else if (x.op==(11:Int))=true then ((rg R x.a).kd != x.b) else (x.op==(12:Int))
theorem iQ.part{h:AH}{p:Nat->Prop}{f:Nat}{l:List Tm}{a:Option Addr}(x:iQ h p f l a){i n:Nat}(Eb:i+n<=l.length):iQ h p f ((l.drop i).take n) (dm a (i*4)):=by
 obtain ⟨vs,h1,h2,h3,h4⟩:=x
 refine ⟨(vs.drop (i*4)).take (n*4),h1.part (by omega),?_,?_,λj t hj=>?_⟩
 ·rcases h2 with e|h2
  ·exact .inl (by rw [e];simp)
  ·refine .inr λb hb=>?_
   obtain ⟨ad,e,hb⟩:=hb
   cases a with
   | none=>cases e
   | some a0=>
    injection e with e
    subst e
    exact h2 b ⟨a0,rfl,hb⟩
 ·simp;omega
 ·have hjn:j<n:=by have:=(bY.1 hj).1;simp at this;omega
  rw [bJ hjn,bZ] at hj
  have:=h4 _ _ hj
  rw [show (((vs.drop (i*4)).take (n*4)).drop (j*4)).take 4=(vs.drop ((i+j)*4)).take 4 from ?_]
  ·exact this
  ·apply io
   intro q
   by_cases hq:q<4
   ·rw [bJ hq,bJ hq,bZ,bZ,bJ (by omega),bZ,show i*4+(j*4+q)=(i+j)*4+q from by omega]
   ·rw [cE (by simp;omega),cE (by simp;omega)]
theorem FX{t:Tm}(x:cD h p f t cs):∀ v∈cs,leaf v=true:=by
 obtain ⟨k,n,s,a,m,rfl⟩:=x.form
 intro v hv
 simp only [bn,List.not_mem_nil,or_false] at hv
 rcases hv with rfl|rfl|rfl|rfl<;>rfl
theorem iQ.BK{h:AH}{p:Nat->Prop}{f:Nat}{l:List Tm}{a:Option Addr}(x:iQ h p f l a):∃ vs,br h a (l.length*4)=some vs/\vs.length=l.length*4/\∀ i t,l[i]? = some t->cD h p f t ((vs.drop (i*4)).take 4):=by
 obtain ⟨vs,h1,h2,h3,h4⟩:=x
 refine ⟨vs,?_,h3,h4⟩
 rw [<- h3]
 refine h1.BK ?_
 rw [ik]
 intro v hv
 obtain ⟨q,hq,rfl⟩:=gk.1 hv
 have hi:q / 4<l.length:=by omega
 have hm:=h4 (q / 4) _ (bk hi)
 refine FX hm _ (gk.2 ⟨q % 4,by simp;omega,?_⟩)
 simp only [List.getElem_take,List.getElem_drop]
 congr 1
 omega
theorem a_.FY{l:List Tm}{al:Option Addr}(x:a_ base t 4 (bM base f) S h l al)(hi:i<l.length):
  ∃ ad k n s a2 m C,al=some ad/\ad.block<h.length/\Am.cell h ad.block (ad.off+i*4)=some (.int .i64 k)/\Am.cell h ad.block (ad.off+i*4+1)=some (.int .i64 n)/\Am.cell h ad.block (ad.off+i*4+1+1)=some (.string s)/\Am.cell h ad.block (ad.off+i*4+1+1+1)=some (.slice a2 m m)/\bM base f C h l[i] (ah k n s a2 m)/\(∀ b,C b->S b):=by
 obtain ⟨vs,T,x1,x2,x3,x4,C,c1,c2,c3⟩:=x
 have hm:=c3 i _ (bk hi)
 obtain ⟨k,n,s,a2,m,e⟩:=hm.form
 rw [e] at hm
 have each:∀ (j:Nat) (v:Value),(ah k n s a2 m)[j]? = some v->vs[i*4+j]? = some v:=by
  intro j v hv
  have hj:j<4:=by have:=(bY.1 hv).1;simpa using this
  rw [<- e] at hv
  unfold chunk at hv
  rw [bJ hj,bZ] at hv
  exact hv
 have dv:vs≠[]:=by intro e;subst e;simp at x2;omega
 rcases x1 with ⟨_,e2⟩|⟨ad,kk,e1,_,e2,_,_,e4⟩
 ·exact absurd e2 dv
 ·have c:∀ (j:Nat) (v:Value),(ah k n s a2 m)[j]? = some v->Am.cell h ad.block (ad.off+i*4+j)=some v:=by
   intro j v hv
   have:=e4 _ _ (each j v hv)
   rw [bO]
   simp [Am.cell,e2,this]
  exact ⟨ad,k,n,s,a2,m,C i,e1,di e2,c 0 _ rfl,c 1 _ rfl,c 2 _ rfl,c 3 _ rfl,hm,λb hb=>x4 b (c1 i b hb)⟩
theorem a_.NI{P:Fp->AH->α->List Value->Prop}{l:List α}(x:a_ base t w P S h l a)(n:Nat):jZ base h a t n=true:=by
 obtain ⟨vs,T,x1,_⟩:=x
 exact (kS.own x1).ok n
theorem jX{R:List Tm}{i:Int}(h0:0<=i)(h1:i.toNat<R.length):rg R i=R[i.toNat]:=by
 unfold rg
 simp [h1]
end Go.Proofs.YtkdenmdijdmnjaaGreat.Am
