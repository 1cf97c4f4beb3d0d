/- What the functions of this law compute, lemma by lemma, up to the law.
Conditions: none. -/
import Derived.Test.YtkdenmdijdmnjaaGreatP3
import Derived.IntWalk
import Derived.Laws.BitsLemmas
set_option linter.unusedSimpArgs false
set_option linter.unusedVariables false
namespace Go.Proofs.YtkdenmdijdmnjaaGreat.Am
open Go Go.RowKit
open _root_.Bool renaming and_eq_true->bz,not_eq_true'->yM,or_eq_false_iff->NR
open _root_.Int renaming eq_ofNat_of_zero_le->Gb,le_of_lt->YH,le_refl->gb,tmod->ga,toNat->af,toNat_natCast->aM
open _root_.List renaming append_nil->Fw,drop_append_of_le_length->YK,drop_eq_getElem_cons->dJ,drop_of_length_le->sM,drop_zero->cH,eq_nil_of_length_eq_zero->iL,getD_eq_getElem?_getD->uL,getElem?_append_left->gE,getElem?_eq_getElem->bk,getElem_mem->aQ,getElem_set->Aw,length_cons->g_,length_drop->uo,length_map->pF,length_set->nh,length_take->iV,mem_append->dQ,mem_cons->bn,mem_iff_getElem->gk,mem_map->dR,mem_of_mem_drop->rm,mem_or_eq_of_mem_set->QL,mem_singleton->dY,nil_append->kj,nil_sublist->HD,not_mem_nil->kl,pairwise_append->iU,pairwise_cons->ib,pairwise_iff_getElem->gx,set_append_left->HC,set_append_right->uq,take_of_length_le->cG
open _root_.List.Sublist renaming refl->sO
open _root_.Nat renaming add_sub_cancel->QK,le_refl->aT,le_trans->gi,lt_of_lt_of_le->cW,lt_trichotomy->pi,mod_lt->AV,mul_one->kh,ne_of_lt->ru,not_lt_zero->QN,sub_self->QS,succ_pos->QU,zero_add->cQ,zero_le->tX
open _root_.Option renaming bind_some->aJ,getD_some->tV

variable{L h:AH}{A:Ac}{s:ByteArray}{D:Ds}{S Sc V p:Fp}{x:IQ}{k n pid v:Int}{code:List In}{l zs:List Int}{cs:List Value}{F base f i pb:Nat}{a b g ta:Option Addr}{P:Pl}{t:Tm}{α:Type}
theorem yi{g g':Tm->Int->Int->Int}:∀ (l:List Tm) (d x:Int),(∀ t∈l,∀ x,g t d x=g' t d x)->qY g l d x=qY g' l d x
 | [],_,_,_=>rfl
 | t :: r,d,x,h=>by
  rw [qY,qY,h t (.head _) x]
  split
  ·exact yi r d _ λt ht=>h t (.tail _ ht)
  ·rfl
theorem Hx:∀ (f:Nat) (t:Tm) (d x:Int),d<=(f:Int)->lk (f+1) t d x=lk f t d x
 | 0,.mk k n s l,d,x,h=>by rw [lk,lk,if_pos (.inl (by omega))]
 | f+1,.mk k n s l,d,x,h=>by
  rw [lk,lk]
  split
  ·rfl
  ·exact yi l _ _ λt _ x=>Hx f t (d-1) x (by omega)
theorem NQ(h:6<=F)(t:Tm):jo (F+1) t=jo F t:=by
 unfold jo
 rw [Hx F t 6 100 (by omega)]
theorem Hy{f:Nat}:∀ {l:List Tm},uk f l=true↔∀ t∈l,jo f t=true
 | []=>⟨λ_ t ht=>(nomatch ht),λ_=>rfl⟩
 | x :: r=>by
  rw [uk,bz,Hy]
  exact ⟨λ⟨h1,h2⟩ t ht=>by rcases bn.1 ht with rfl|ht;exact h1;exact h2 t ht,λh=>⟨h x (.head _),λt ht=>h t (.tail _ ht)⟩⟩
theorem ko{x a b:Int}:dx x a b=true↔a<=x/\x<=b:=by
 unfold dx
 simp
theorem yj{zs:List Int}{v:Int}:∀ d i,nC zs v d i=false↔∀ j,i<=j->j<i+d->nB zs v j=false
 | 0,i=>⟨λ_ j h1 h2=>by omega,λ_=>rfl⟩
 | d+1,i=>by
  rw [nC,NR,yj d (i+1)]
  refine ⟨λ⟨h1,h2⟩ j h3 h4=>?_,λh=>⟨h i (aT _) (by omega),λj h3 h4=>h j (by omega) (by omega)⟩⟩
  by_cases e:j=i
  ·rw [e];exact h1
  ·exact h2 j (by omega) (by omega)
theorem yl{j:Nat}:nB zs v j=false↔(1<=zs.getD j 0/\zs.getD j 0<=99999)/\zs.getD j 0≠v/\(0<j->zs.getD (j-1) 0<zs.getD j 0):=by
 unfold nB
 by_cases c1:dx (zs.getD j 0) 1 99999=true
 ·rw [c1,if_neg (by decide)]
  rw [ko] at c1
  by_cases c2:(zs.getD j 0==v)=true
  ·rw [if_pos c2]
   simp at c2 ⊢
   intro _ _ h
   exact absurd c2 h
  ·rw [if_neg c2]
   have Qw:zs.getD j 0≠v:=by simpa using c2
   split
   ·rename_i c3
    have c3:(j:Int)>0:=of_decide_eq_true c3
    rw [decide_eq_false_iff_not]
    exact ⟨λh=>⟨c1,Qw,λ_=>by omega⟩,λh=>by have:=h.2.2 (by omega);omega⟩
   ·rename_i c3
    have c3:¬(j:Int)>0:=λh=>c3 (decide_eq_true h)
    exact ⟨λ_=>⟨c1,Qw,λh=>by omega⟩,λ_=>rfl⟩
 ·rw [if_pos (by simpa using c1)]
  rw [ko] at c1
  exact ⟨λh=>(nomatch h),λh=>absurd h.1 c1⟩
theorem aeH(h:∀ j,0<j->j<zs.length->zs.getD (j-1) 0<zs.getD j 0):zs.Pairwise (· < ·):=by
 rw [gx]
 have key:∀ j i,i<j->j<zs.length->zs.getD i 0<zs.getD j 0:=by
  intro j
  induction j with
  | zero=>intro i hi;omega
  | succ j ih=>
   intro i hi hj
   have h1:=h (j+1) (by omega) hj
   rw [QK] at h1
   by_cases e:i=j
   ·rw [e];exact h1
   ·have:=ih i (by omega) (by omega)
    omega
 intro i j hi hj uM
 have:=key j i uM hj
 simpa [hi,hj] using this
theorem gf:pL zs v=true↔zs.length<=50/\(∀ n∈zs,(1<=n/\n<=99999)/\n≠v)/\zs.Pairwise (· < ·):=by
 unfold pL
 rw [bz,yM,yj,decide_eq_true_iff]
 constructor
 ·rintro ⟨h1,h2⟩
  have h1:∀ j,j<zs.length->_:=λj hj=>yl.1 (h1 j (tX _) (by omega))
  refine ⟨by omega,λn hn=>?_,aeH λj h0 hj=>(h1 j hj).2.2 h0⟩
  obtain ⟨j,hj,rfl⟩:=gk.1 hn
  have:=h1 j hj
  simp only [uL,bk hj,tV] at this
  exact ⟨this.1,this.2.1⟩
 ·rintro ⟨h1,h2,h3⟩
  refine ⟨λj _ hj=>yl.2 ?_,by omega⟩
  have hj:j<zs.length:=by omega
  have e:zs.getD j 0=zs[j]:=by simp [hj]
  obtain ⟨q1,q2⟩:=h2 _ (aQ hj)
  rw [e]
  refine ⟨q1,q2,λh0=>?_⟩
  have pZ:j-1<zs.length:=by omega
  have e':zs.getD (j-1) 0=zs[j-1]:=by simp [pZ]
  rw [e']
  exact gx.1 h3 (j-1) j pZ hj (by omega)
theorem o_{v:Int}:∀ {l:List Int},qs v l=true↔v∈l
 | []=>⟨λh=>(nomatch h),λh=>(nomatch h)⟩
 | x :: r=>by
  rw [qs,bn]
  by_cases c:x=v
  ·simp [c]
  ·have:=o_ (v:=v) (l:=r)
   simp [c,this]
   exactλh=>absurd h.symm c
theorem AI{l:List Int}{v:Int}:∀ K,(kI l v K=0\/l.getD (kI l v K-1) 0<=v)/\∀ j,kI l v K<=j->j<K->l.getD j 0>v
 | 0=>⟨.inl rfl,λj _ h=>by omega⟩
 | K+1=>by
  rw [kI]
  split
  ·rename_i c
   obtain ⟨h1,h2⟩:=AI (l:=l) (v:=v) K
   refine ⟨h1,λj h3 h4=>?_⟩
   by_cases e:j=K
   ·rw [e];exact of_decide_eq_true c
   ·exact h2 j h3 (by omega)
  ·rename_i c
   have c:¬l.getD K 0>v:=λh=>c (decide_eq_true h)
   refine ⟨.inr ?_,λj h3 h4=>by omega⟩
   rw [QK]
   omega
theorem NS:n∈gK v l↔n=v\/n∈l:=by
 unfold gK
 split
 ·rename_i c
  have:=o_.1 c
  exact ⟨.inr,λh=>h.elim (λh=>h ▸ this) id⟩
 ·rw [dQ,bn]
  constructor
  ·rintro (h|h|h)
   ·exact .inr (List.mem_of_mem_take h)
   ·exact .inl h
   ·exact .inr (rm h)
  ·rintro (h|h)
   ·exact .inr (.inl h)
   ·rw [<- List.take_append_drop (kI l v l.length) l,dQ] at h
    exact h.elim .inl λh=>.inr (.inr h)
theorem NT:(gK v l).length<=l.length+1:=by
 unfold gK
 split
 ·omega
 ·rw [uv (DZ _)]
  exact aT _
theorem Hz{p:Int}(h:pL l p=true)(hv:1<=v/\v<=99999)(dv:v≠p)(hl:l.length<50):pL (gK v l) p=true:=by
 obtain ⟨h1,h2,h3⟩:=gf.1 h
 refine gf.2 ⟨by have:=NT (v:=v) (l:=l);omega,λn hn=>?_,?_⟩
 ·rcases NS.1 hn with rfl|hn
  ·exact ⟨hv,dv⟩
  ·exact h2 n hn
 ·unfold gK
  split
  ·exact h3
  ·rename_i c
   have ald:v ∉ l:=λh=>c (o_.2 h)
   obtain ⟨k1,k2⟩:=AI (l:=l) (v:=v) l.length
   have k3:=DZ (l:=l) (v:=v) l.length
   generalize kI l v l.length=k at k1 k2 k3
   have hb:∀ b∈l.drop k,v<b:=λb hb=>by
    obtain ⟨j,hj,rfl⟩:=gk.1 hb
    rw [uo] at hj
    have:=k2 (k+j) (by omega) (by omega)
    rw [List.getElem_drop]
    have hkj:k+j<l.length:=by omega
    simpa [hkj] using this
   have ha:∀ a∈l.take k,a<v:=λa ha=>by
    obtain ⟨j,hj,rfl⟩:=gk.1 ha
    rw [iV] at hj
    rw [List.getElem_take]
    have O3:k-1<l.length:=by omega
    have h4:l[k-1]<=v:=by
     rcases k1 with k1|k1
     ·omega
     ·simpa [O3] using k1
    have h5:l[j]'(by omega)<=l[k-1]:=by
     by_cases e:j=k-1
     ·subst e;exact gb _
     ·exact YH (gx.1 h3 j (k-1) (by omega) O3 (by omega))
    have h6:l[j]'(by omega)≠v:=λe=>ald (e ▸ aQ _)
    omega
   rw [iU]
   refine ⟨h3.sublist (List.take_sublist _ _),ib.2 ⟨hb,h3.sublist (List.drop_sublist _ _)⟩,λa h4 b h5=>?_⟩
   have:=ha a h4
   rcases bn.1 h5 with rfl|h5
   ·exact this
   ·have:=hb b h5
    omega
theorem I1:n∈bW v l↔n∈l/\n≠v:=by
 unfold bW
 simp
theorem NU{p:Int}(h:pL l p=true):pL (bW v l) p=true:=by
 obtain ⟨h1,h2,h3⟩:=gf.1 h
 exact gf.2 ⟨gi kD h1,λn hn=>h2 n (I1.1 hn).1,h3.sublist List.filter_sublist⟩
theorem gh(v:Int):∀ (l:List Ac) (i:Nat),(bX v i l = -1/\∀ A∈l,A.pid≠v)\/∃ j,∃ hj:j<l.length,bX v i l=((i+j:Nat):Int)/\l[j].pid=v
 | [],i=>.inl ⟨rfl,λA hA=>(nomatch hA)⟩
 | x :: r,i=>by
  rw [bX]
  split
  ·rename_i c
   exact .inr ⟨0,by simp,by simp,by simpa using c⟩
  ·rename_i c
   rcases gh v r (i+1) with ⟨h1,h2⟩|⟨j,hj,h1,h2⟩
   ·exact .inl ⟨h1,λA hA=>by rcases bn.1 hA with rfl|hA;simpa using c;exact h2 A hA⟩
   ·exact .inr ⟨j+1,by simp;omega,by rw [h1];omega,by simpa using h2⟩
theorem c_{l:List In}:jr f l A=true↔codeOk l=true/\(1<=A.pid/\A.pid<=99999)/\(0<=A.pc/\A.pc<(l.length:Int))/\A.aH.length=8/\(∀ t∈A.aH,jo f t=true)/\A.box.length<=30/\(∀ t∈A.box,jo f t=true)/\pL A.aw A.pid=true:=by
 unfold jr
 simp only [bz,decide_eq_true_eq,beq_iff_eq,Hy,ko]
 constructor
 ·rintro ⟨h1,h2,h3,h4,h5,h6,h7,h8⟩
  have:=fe h1
  rw [bm (by omega) (by omega)] at h3
  exact ⟨h1,h2,⟨h3.1,by omega⟩,by omega,h5,by omega,h7,h8⟩
 ·rintro ⟨h1,h2,h3,h4,h5,h6,h7,h8⟩
  have:=fe h1
  rw [bm (by omega) (by omega)]
  exact ⟨h1,h2,⟨h3.1,by omega⟩,by omega,h5,by omega,h7,h8⟩
section
theorem sN{x:Sd}:oU f x=false↔(1<=x.kind/\x.kind<=3)/\(1<=x.pid/\x.pid<=99999)/\jo f x.t=true:=by
 unfold oU
 rw [<- ko,<- ko]
 cases dx x.kind 1 3<;>cases dx x.pid 1 99999<;>simp
theorem tp{f:Nat}:∀ {l:List Sd},ie f l=false↔∀ x∈l,oU f x=false
 | []=>⟨λ_ x hx=>(nomatch hx),λ_=>rfl⟩
 | x :: r=>by
  rw [ie,NR,tp]
  exact ⟨λ⟨h1,h2⟩ y hy=>by rcases bn.1 hy with rfl|hy;exact h1;exact h2 y hy,λh=>⟨h x (.head _),λy hy=>h y (.tail _ hy)⟩⟩
theorem ng{l:List Sd}:iW f l=true↔(∀ x∈l,oU f x=false)/\l.length<=500:=by
 unfold iW
 rw [bz,yM,tp,decide_eq_true_iff]
 exact ⟨λ⟨h1,h2⟩=>⟨h1,by omega⟩,λ⟨h1,h2⟩=>⟨h1,by omega⟩⟩
theorem AJ{l:List Sd}{kind:Int}(h:iW f l=true)(hk:1<=kind/\kind<=3)(hp:1<=pid/\pid<=99999)(ht:jo f t=true):iW f (fN l kind pid t)=true:=by
 unfold fN
 split
 ·exact h
 ·rename_i c
  have c:¬(l.length:Int)>=500:=λh=>c (decide_eq_true h)
  obtain ⟨h1,h2⟩:=ng.1 h
  refine ng.2 ⟨λx hx=>?_,by simp;omega⟩
  rcases dQ.1 hx with hx|hx
  ·exact h1 x hx
  ·rw [dY.1 hx]
   exact sN.2 ⟨hk,hp,ht⟩
variable {F:Nat} {P:Pl}
theorem pG{l:List Ac}(hi:i<l.length)(e:A.pid=l[i].pid):(l.set i A).map (·.pid)=l.map (·.pid):=by
 rw [List.map_set,e]
 apply List.ext_getElem (by simp)
 intro j h1 h2
 rw [Aw]
 split
 ·rename_i h;subst h;simp
 ·rfl
end
section
variable {F:Nat} {P:Pl}
theorem YI(hF:1<=F):jo F Ym=true:=by
 obtain ⟨f,rfl⟩:∃ f,F=f+1:=⟨F-1,by omega⟩
 unfold jo Ym
 rw [lk,if_neg (by decide +kernel)]
 exact decide_eq_true (by rw [qY];omega)
theorem tq{t u:Tm}:∀ {n:Nat},u∈fm t n->u=t\/u=Ym
 | 0,h=>.inl (dY.1 h)
 | n+1,h=>by
  rw [fm] at h
  rcases dQ.1 h with h|h
  ·exact tq h
  ·exact .inr (dY.1 h)
theorem NV(hF:1<=F){R:List Tm}(h8:R.length=8)(h:∀ t∈R,jo F t=true){i:Int}(hi:0<=i/\i<=7):jo F (rg R i)=true:=by
 unfold rg
 have:i.toNat<R.length:=by omega
 rw [uL,bk this,tV]
 exact h _ (aQ this)
end
section
variable {F:Nat} {P:Pl}
theorem YJ(hF:1<=F):jo F (.mk 2 0 QC [])=true:=by
 obtain ⟨f,rfl⟩:∃ f,F=f+1:=⟨F-1,by omega⟩
 unfold jo
 rw [lk,if_neg (by decide +kernel)]
 exact decide_eq_true (by rw [qY];omega)
theorem HA(hF:1<=F):jo F mq=true:=by
 obtain ⟨f,rfl⟩:∃ f,F=f+1:=⟨F-1,by omega⟩
 unfold jo mq
 rw [lk,if_neg (by decide +kernel)]
 exact decide_eq_true (by rw [qY];omega)
theorem aeI(hF:1<=F):jJ F tk:=by
 obtain ⟨f,rfl⟩:∃ f,F=f+1:=⟨F-1,by omega⟩
 exact ⟨by decide,by decide,λt ht=>(nomatch ht)⟩
structure vV (F:Nat) (len:Nat) (next:Int) (x:IQ):Prop where
 b:jJ F x.t
 t:x.kind≠1->x.kind≠2->x.kind≠6->jo F x.t=true
 m:x.kind=4->x.pid=next/\0<=x.pc/\x.pc<(len:Int)
theorem vV.of{len:Nat}{next:Int}{p c:Int}(ht:jo F t=true)(h:k≠4):vV F len next ⟨k,p,c,t⟩:=⟨(jI ht).1,λ_ _ _=>ht,λe=>absurd e h⟩
theorem AK(hF:6<=F){next:Int}(ok:jr F code A=true)(hn:1<=next/\next<=90000):
  jr F code (dA (F+1) (code.getD A.pc.toNat IV) A next).1=true/\(dA (F+1) (code.getD A.pc.toNat IV) A next).1.pid=A.pid/\(dA (F+1) (code.getD A.pc.toNat IV) A next).1.aw=A.aw/\vV F code.length next (dA (F+1) (code.getD A.pc.toNat IV) A next).2:=by
 obtain ⟨q1,q2,q3,q4,q5,q6,q7,q8⟩:=c_.1 ok
 have Eo:A.pc.toNat<code.length:=by omega
 have hlen:=(fe q1).1
 have ex:code.getD A.pc.toNat IV=code[A.pc.toNat]:=by simp [Eo]
 have YZ:=sJ q1 _ (aQ Eo)
 have rk:=q1
 unfold codeOk at rk
 simp only [bz] at rk
 obtain ⟨_,NW,lT⟩:=rk
 have Ey:=m9 lT _ (aQ Eo)
 unfold iA at Ey
 simp only [bz] at Ey
 obtain ⟨_,_,_,_,_,_,F_⟩:=Ey
 have aeJ:A.pc+1=(code.length:Int)->code[A.pc.toNat].op=19\/code[A.pc.toNat].op=12:=λe=>by
  unfold jq at NW
  have e2:code.length-1=A.pc.toNat:=by omega
  have e3:(code.getD (code.length-1) ⟨0,0,0,0,0,⟨#[]⟩⟩)=code[A.pc.toNat]:=by rw [e2];simp [Eo]
  rw [e3] at NW
  simpa using NW
 rw [ex]
 generalize code[A.pc.toNat]=x at YZ F_ aeJ
 obtain ⟨⟨a0',a7⟩,⟨b0,b7⟩,⟨c0,c7⟩,_⟩:=YZ
 have ra:jo F (rg A.aH x.a)=true:=NV (by omega) q4 q5 ⟨a0',a7⟩
 have hf1:vV F code.length next vN:=vV.of (YJ (by omega)) (by decide)
 have hz:∀ {k p c:Int},(k=1\/k=2\/k=6)->vV F code.length next ⟨k,p,c,tk⟩:=fun {k p c} h=>⟨aeI (by omega),λh1 h2 h3=>by rcases h with h|h|h;exact absurd h h1;exact absurd h h2;exact absurd h h3,λe=>by have e:k=4:=e;omega⟩
 have aeK:x.op=10\/x.op=11\/x.op=12\/x.op=16->0<=x.n/\x.n<(code.length:Int):=λh=>by
  unfold zV at F_
  rw [if_neg (by simp;omega),if_neg (by simp;omega),if_neg (by simp;omega)] at F_
  rw [if_pos (by rcases h with h|h|h|h<;>simp [h])] at F_
  split at F_
  ·rename_i c1
   exact ⟨of_decide_eq_true c1,of_decide_eq_true F_⟩
  ·cases F_
 unfold dA
 split
 ·exact ⟨ok,rfl,rfl,hf1⟩
 rename_i alH
 split
 ·rename_i c
  have c:x.op=19:=by simpa using c
  refine ⟨ok,rfl,rfl,?_⟩
  unfold cC
  rw [if_neg (by simp;omega),if_neg (by simp;omega),if_neg (by simp;omega),if_neg (by simp;omega),if_pos (by simp;omega)]
  exact vV.of ra (by decide)
 rename_i OH
 have OH:x.op≠19:=by simpa using OH
 by_cases Ve:(if (x.op==(14:Int))=true then ((A.box.length:Int)==(0:Int)) else false)=true
 ·rw [if_pos Ve]
  exact ⟨ok,rfl,rfl,hz (.inr (.inl rfl))⟩
 rw [if_neg Ve]
 have aeL:vV F code.length next (cC x A.aH next).1:=by
  unfold cC
  split
  ·rename_i c
   have c:x.op=13:=by simpa using c
   exact vV.of (NV (by omega) q4 q5 ⟨b0,by omega⟩) (by decide)
  split
  ·rename_i c
   have c:x.op=16:=by simpa using c
   have rb:jo F (rg A.aH x.b)=true:=NV (by omega) q4 q5 ⟨b0,by omega⟩
   exact ⟨(jI rb).1,λ_ _ _=>rb,λ_=>⟨rfl,aeK (.inr (.inr (.inr c)))⟩⟩
  split
  ·exact vV.of ra (by decide)
  split
  ·exact hz (.inr (.inr rfl))
  first
   | exact hz (.inl rfl)
   | (rw [if_neg (by simpa using OH)];exact hz (.inl rfl))
 have aeM:∀ {t:Tm},jo F t=true->∀ u∈A.aH.set x.a.toNat t,jo F u=true:=λht u hu=>by
  rcases QL hu with h|h
  ·exact q5 u h
  ·rw [h];exact ht
 have hnx:∀ R B,gX (F+1) x A next=some (R,B)->R.length=8/\(∀ t∈R,jo F t=true)/\B.length<=30/\∀ t∈B,jo F t=true:=by
  intro R B h
  unfold gX at h
  split at h
  ·rename_i c
   rw [if_pos c] at Ve
   have Gj:A.box.length≠0:=λe=>Ve (by rw [e];rfl)
   injection h with h
   injection h with h1 h2
   subst h1;subst h2
   refine ⟨by rw [nh];exact q4,aeM ?_,by simp;omega,λt ht=>q7 t (rm ht)⟩
   have:0<A.box.length:=by omega
   rw [uL,bk this,tV]
   exact q7 _ (aQ this)
  ·split at h
   ·split at h
    ·cases h
    ·split at h
     ·rename_i t _ ct
      injection h with h
      injection h with h1 h2
      subst h1;subst h2
      rw [NQ hF] at ct
      exact ⟨by rw [nh];exact q4,aeM ct,q6,q7⟩
     ·cases h
   ·injection h with h
    injection h with h1 h2
    subst h1;subst h2
    exact ⟨q4,q5,q6,q7⟩
 split
 ·exact ⟨ok,rfl,rfl,hf1⟩
 ·rename_i R B e
  obtain ⟨r1,r2,r3,r4⟩:=hnx R B e
  refine ⟨c_.2 ⟨q1,q2,?_,r1,r2,r3,r4,q8⟩,rfl,rfl,aeL⟩
  show 0<=(if eM (F+1) x A.aH=true then x.n else IntKind.wrap .i64 (A.pc+1))/\(if eM (F+1) x A.aH=true then x.n else IntKind.wrap .i64 (A.pc+1))<(code.length:Int)
  split
  ·rename_i cj
   apply aeK
   unfold eM at cj
   split at cj
   ·rename_i c;exact .inl (by simpa using c)
   split at cj
   ·rename_i c;exact .inr (.inl (by simpa using c))
   ·exact .inr (.inr (.inl (by simpa using cj)))
  ·rename_i cj
   rw [bm (by omega) (by omega)]
   refine ⟨by omega,?_⟩
   by_cases e1:A.pc+1=(code.length:Int)
   ·rcases aeJ e1 with h|h
    ·exact absurd h OH
    ·exfalso
     apply cj
     unfold eM
     rw [if_neg (by simp;omega),if_neg (by simp;omega)]
     simp [h]
   ·omega
theorem pH{l m:List Ac}(h:¬bX v 0 l<0)(e:m.map (·.pid)=l.map (·.pid)):¬bX v 0 m<0:=by
 rcases gh v l 0 with ⟨h1,_⟩|⟨k,hk,ek,pk⟩
 ·omega
 rcases gh v m 0 with ⟨_,h2⟩|⟨k2,_,ek2,_⟩
 ·exfalso
  have hl:m.length=l.length:=by have:=congrArg List.length e;simpa using this
  have O2:k<m.length:=by omega
  have h3:m[k].pid=l[k].pid:=by
   have h4:(m.map (·.pid))[k]'(by simpa using O2)=(l.map (·.pid))[k]'(by simpa using hk):=by simp only [e]
   simpa using h4
  exact h2 _ (aQ O2) (by rw [h3,pk])
 ·omega
end
section
variable {F:Nat} {P:Pl}
theorem D5{f:Nat}{P:Pl}:∀ d i,tO f P d i=false↔∀ j,i<=j->j<i+d->DN f P j=false
 | 0,i=>⟨λ_ j h1 h2=>by omega,λ_=>rfl⟩
 | d+1,i=>by
  rw [tO,NR,D5 d (i+1)]
  refine ⟨λ⟨h1,h2⟩ j h3 h4=>?_,λh=>⟨h i (aT _) (by omega),λj h3 h4=>h j (by omega) (by omega)⟩⟩
  by_cases e:j=i
  ·rw [e];exact h1
  ·exact h2 j (by omega) (by omega)
def QB(P:Pl):Prop:=P.code.length<=200/\(∀ y∈P.code,y.s.size<=1048576)/\P.ai.length<=20/\(∀ A∈P.ai,A.aH.length<=8/\A.box.length<=30/\A.aw.length<=50)/\P.out.length<=501
theorem QB.m(x:QB P):IL P:=by
 obtain ⟨h1,h2,h3,h4,h5⟩:=x
 exact ⟨by omega,λy hy=>by have:=h2 y hy;omega,by omega,λA hA=>by obtain ⟨a1,a2,a3⟩:=h4 A hA;exact ⟨by omega,by omega,by omega⟩,by omega⟩
end
theorem bC.NX{w:Nat}{P P':Fp->AH->α->List Value->Prop}{l:List α}{vs:List Value}(x:bC w P S h l vs)(f:∀ y∈l,∀ C cs,P C h y cs->P' C h y cs):bC w P' S h l vs:=by
 obtain ⟨C,h1,h2,h3⟩:=x
 exact ⟨C,h1,h2,λi y hy=>f y (List.mem_of_getElem? hy) _ _ (h3 i y hy)⟩
theorem a_.NX{α:Type}{base t w:Nat}{P P':Fp->AH->α->List Value->Prop}{S:Fp}{h:AH}{l:List α}{a:Option Addr}(x:a_ base t w P S h l a)(f:∀ y∈l,∀ C cs,P C h y cs->P' C h y cs):a_ base t w P' S h l a:=by
 obtain ⟨vs,T,x1,x2,x3,x4,x5⟩:=x
 exact ⟨vs,T,x1,x2,x3,x4,x5.NX f⟩
theorem bM.down{base:Nat}:∀ (f:Nat) {S:Fp} {h:AH} {t:Tm} {cs:List Value},bM base (f+1) S h t cs->jJ f t->bM base f S h t cs
 | 0,_,_,_,_,_,x=>x.elim
 | f+1,S,h,.mk k n s l,cs,x,y=>by
  obtain ⟨h1,h2,a,e,r⟩:=x
  exact ⟨h1,h2,a,e,r.NX λu hu C cs z=>bM.down f z (y.2.2 u hu)⟩
theorem b_.down{base F:Nat}{S:Fp}{h:AH}{A:Ac}{cs:List Value}(x:b_ base (F+1) S h A cs)(h1:∀ t∈A.aH,jJ F t)(h2:∀ t∈A.box,jJ F t):b_ base F S h A cs:=by
 obtain ⟨a,b,g,S1,S2,S3,e,r1,r2,r3⟩:=x
 exact ⟨a,b,g,S1,S2,S3,e,r1.NX λu hu C cs z=>z.down F (h1 u hu),r2.NX λu hu C cs z=>z.down F (h2 u hu),r3⟩
def F'(F:Nat)(pid:Int)(P:Pl):Ac×IQ:=dA (F+1) (P.code.getD (P.ai.getD (bX pid 0 P.ai).toNat a0).pc.toNat IV) (P.ai.getD (bX pid 0 P.ai).toNat a0) P.next
def iX(F:Nat)(pid:Int)(P:Pl):Pl×Bool:=gM F pid (F' F pid P).2 ⟨P.code,P.ai.set (bX pid 0 P.ai).toNat (F' F pid P).1,P.next,P.out⟩
def iG(F:Nat)(pid:Int):Nat->Pl->Pl
 | 0,P=>P
 | n+1,P=>if (iX F pid P).2=true then iG F pid n (iX F pid P).1 else (iX F pid P).1
theorem Hs.frz{h0:AH}{R:List Rs}{A:AH->Prop}(d:Hs base V h0 h D (⟨S,true,A⟩ :: R))(A':AH->Prop)(hA:A' h)(ok:∀ (U:Fp) (h h':AH),KB U h h'->(∀ b,S b->¬U b)->A' h->A' h'):Hs base V h0 h D (⟨S,false,A'⟩ :: R):=
 ⟨d.ge,d.kb,d.own,d.nd,λr hr=>by
  rcases bn.1 hr with rfl|hr
  ·obtain ⟨_,_,x3,_,x5⟩:=d.iH _ (.head _)
   exact ⟨hA,ok,x3,λh=>(nomatch h),x5⟩
  ·exact d.iH r (.tail _ hr),by
  obtain ⟨y1,y2⟩:=ib.1 d.dj
  exact ib.2 ⟨λr hr _ b hb=>y1 r hr rfl b hb,y2⟩⟩
theorem tR(hl:zs.length<=1048576*4){h0:AH}(hs:Sl h0 a (iv .i64 zs)):∀ (n i:Nat) (h:AH) (ao:Option Addr) (S:Fp),i+n=zs.length->Hs base bp h0 h [] [⟨S,true,λy=>bQ base 3 y ao (iv .i64 (bW v (zs.take i)))⟩]->(∀ b,bK ao b->S b) ->
  Wp (aF (zp base) [some (.int .i64 v),some (.slice ao (bW v (zs.take i)).length (bW v (zs.take i)).length),some (.slice a zs.length zs.length),some (.int .i64 (zs.length:Int)),some (.int .i64 (i:Int))] h) λo=>∃ a' S',o.1=2/\o.2.1 = [some (.slice a' (bW v zs).length (bW v zs).length)]/\Hs base bp h0 o.2.2 [] [⟨S',true,λy=>bQ base 3 y a' (iv .i64 (bW v zs))⟩]/\(∀ b,bK a' b->S' b):=by
 intro n
 induction n with
 | zero=>
  intro i h ao S hi d hS
  have lL:i=zs.length:=by omega
  subst lL
  rw [cG (aT _)] at d ⊢
  refine ⟨_,aC (by decide) (s':=[some (.slice ao (bW v zs).length (bW v zs).length)]) (h':=h) (e:=2) ?_,ao,S,rfl,rfl,d,hS⟩
  rw [xT]
  exact Am.aU (by simp) rfl
 | succ n ih=>
  intro i h ao S hi d hS
  have aS:i<zs.length:=by omega
  have hsn:bW v (zs.take (i+1))=if (zs[i] != v)=true then bW v (zs.take i)++[zs[i]] else bW v (zs.take i):=by rw [ed aS,vS]
  suffices w:Wp (zp base [some (.int .i64 v),some (.slice ao (bW v (zs.take i)).length (bW v (zs.take i)).length),some (.slice a zs.length zs.length),some (.int .i64 (zs.length:Int)),some (.int .i64 (i:Int))] h) λo=>∃ a' S',o.1=0/\o.2.1 = [some (.int .i64 v),some (.slice a' (bW v (zs.take (i+1))).length (bW v (zs.take (i+1))).length),some (.slice a zs.length zs.length),some (.int .i64 (zs.length:Int)),some (.int .i64 ((i+1:Nat):Int))]/\Hs base bp h0 o.2.2 [] [⟨S',true,λy=>bQ base 3 y a' (iv .i64 (bW v (zs.take (i+1))))⟩]/\(∀ b,bK a' b->S' b) by
   obtain ⟨⟨o1,o2,h'⟩,e,a',S',y1,y2,d',Ek⟩:=w
   simp only at y1 y2 d'
   subst y1;subst y2
   obtain ⟨o,eo,q⟩:=ih (i+1) h' a' S' (by omega) d' Ek
   exact ⟨o,bl e eo,q⟩
  have hlen:(bW v (zs.take i)).length<=zs.length:=gi kD (by simp;omega)
  rw [xT]
  refine W.aE (decide_eq_true (by omega)) (W.aE ⟨by omega,by omega⟩ ?_)
  rw [aM]
  refine W.ri (hs.aj d.kb) aS (W.ite (λc=>?_) (λc=>?_))
  ·((refine W.nD d λh1 d _ vQ=>?_))
   obtain ⟨a2,h2,e2,d,q2,k2,_⟩:=d.Nv (w:=1) (i:=0) (n:=(bW v (zs.take i)).length) (bytes:=8) rfl hS (.head _) rfl (by decide) (by simp) rfl (by omega) (by omega)
   refine W.bs e2 ?_
   ((try simp only [n1,n2,n3,n4,n5,n6] at d);(with_reducible repeat refine W.a2 ?_))
   rw [bm (n:=(i:Int)+1) (by omega) (by omega)]
   rw [hsn,if_pos c]
   refine W.ret ⟨a2,_,rfl,by simp,?_,λ_ h=>h⟩
   have:=d.tl
   rw [show [vI zs[i]]=iv .i64 [zs[i]] from rfl,lX] at this
   exact this
  ·rw [bm (n:=(i:Int)+1) (by omega) (by omega)]
   rw [hsn,if_neg c]
   exact W.ret ⟨ao,S,rfl,rfl,d,hS⟩
theorem vW(hl:zs.length<=1048576*4)(hs:Sl h a (iv .i64 zs))(hb:base<=h.length):
  ∃ a' h',run (Et base) 106 [.slice a zs.length zs.length,.int .i64 v] h=some (.slice a' (bW v zs).length (bW v zs).length,h')/\bQ base 3 h' a' (iv .i64 (bW v zs))/\KB bp h h'/\(∀ b,bK a' b->h.length<=b):=by
 suffices w:Wp (run (Et base) 106 [.slice a zs.length zs.length,.int .i64 v] h) λo=>∃ a',o.1 = .slice a' (bW v zs).length (bW v zs).length/\bQ base 3 o.2 a' (iv .i64 (bW v zs))/\KB bp h o.2/\(∀ b,bK a' b->h.length<=b) by
  obtain ⟨⟨u,h'⟩,e,a',rfl,q⟩:=w
  exact ⟨a',h',e,q⟩
 have d:=Hs.start hb
 refine W.of (λr hx=>Am.zm hx) ?_
 have d:=d.call (KB.refl bp _) (λ_=>False) (λy=>bQ base 3 y none (iv .i64 (bW v (zs.take 0)))) (.inl ⟨rfl,rfl⟩) (λU y y' k hs x=>bQ.ax x k λb hb=>by obtain ⟨_,e,_⟩:=hb;cases e) (λ_ h=>h.elim)
 refine W.wb (tR (base:=base) (v:=v) hl hs zs.length 0 h none _ (by omega) d λb hb=>by obtain ⟨_,e,_⟩:=hb;cases e) ?_
 rintro ⟨o1,o2,h2⟩ ⟨a',S',y1,y2,d,hS⟩
 simp only at y1 y2 d
 subst y1;subst y2
 refine W.aE rfl ?_
 ((with_reducible repeat refine W.a2 ?_))
 exact W.ret ⟨a',rfl,d.rs (i:=0) rfl,d.kb,λb hb=>(d.Ab (i:=0) rfl rfl b (hS b hb)).resolve_left λh=>h⟩
def Jj(k:Int)(s:ByteArray):Bool:=(k==2)&&(s.toList==(⟨#[111,107]⟩:ByteArray).toList)
theorem NY{m:Nat}(hb:base<=h.length):
  ∃ h',run (Et base) 107 [.agg (ah k n s a m).toArray] h=some (.bool (Jj k s),h')/\KB bp h h':=by
 suffices w:Wp (run (Et base) 107 [.agg (ah k n s a m).toArray] h) λo=>o.1 = .bool (Jj k s)/\KB bp h o.2 by
  obtain ⟨⟨u,h'⟩,e,rfl,q⟩:=w
  exact ⟨h',e,q⟩
 have d:=Hs.start hb
 refine W.of (λr hx=>Am.Qd hx) ?_
 ((refine W.nD d λh1 d _ vQ=>?_);(with_reducible repeat refine W.a1 d ?_))
 unfold Jj
 refine W.ite (λc=>?_) (λc=>?_)
 ·((with_reducible repeat refine W.a1 d ?_))
  rw [c]
  exact W.ret ⟨rfl,d.kb⟩
 ·have:(k==2)=false:=by simpa using c
  rw [this]
  exact W.ret ⟨rfl,d.kb⟩
theorem AL{tb:Nat}{lk:Option Addr}{lm:Nat}(hl:P.ai.length<=1048576)(th:∀ A∈P.ai,A.aw.length<=1048576){h0:AH}:∀ (n i:Nat) (h:AH) (S:Fp),i+n=P.ai.length->Hs base V h0 h [(pb,32,dK a P.code.length b P.ai.length P.next g P.out.length)] [jg base F S ((P.ai.take i).map (gZ v)++P.ai.drop i) b] ->
  Wp (aF (CP base) [some (.pointer (ap pb)),some (.int .i64 v),some (.pointer (ap tb)),some (.slice lk lm lm),some (.int .i64 (P.ai.length:Int)),some (.int .i64 (i:Int))] h) λo=>o.1=2/\o.2.1 = [some (.pointer (ap pb)),some (.int .i64 v),some (.pointer (ap tb)),some (.slice lk lm lm)]/\∃ S',Hs base V h0 o.2.2 [(pb,32,dK a P.code.length b P.ai.length P.next g P.out.length)] [jg base F S' (P.ai.map (gZ v)) b]:=by
 intro n
 induction n with
 | zero=>
  intro i h S hi d
  have lL:i=P.ai.length:=by omega
  subst lL
  rw [cG (aT _),sM (aT _),Fw] at d
  suffices w:Wp (CP base [some (.pointer (ap pb)),some (.int .i64 v),some (.pointer (ap tb)),some (.slice lk lm lm),some (.int .i64 (P.ai.length:Int)),some (.int .i64 (P.ai.length:Int))] h) λo=>o=(2,[some (.pointer (ap pb)),some (.int .i64 v),some (.pointer (ap tb)),some (.slice lk lm lm)],h) by
   obtain ⟨o,e,rfl⟩:=w
   exact ⟨_,aC (by decide) e,rfl,rfl,S,d⟩
  rw [CS]
  skip
  exact W.aU (by simp) (W.ret rfl)
 | succ n ih=>
  intro i h S hi d
  have aS:i<P.ai.length:=by omega
  have jl:i<((P.ai.take i).map (gZ v)++P.ai.drop i).length:=by simp;omega
  suffices w:Wp (CP base [some (.pointer (ap pb)),some (.int .i64 v),some (.pointer (ap tb)),some (.slice lk lm lm),some (.int .i64 (P.ai.length:Int)),some (.int .i64 (i:Int))] h) λo=>o.1=0/\o.2.1 = [some (.pointer (ap pb)),some (.int .i64 v),some (.pointer (ap tb)),some (.slice lk lm lm),some (.int .i64 (P.ai.length:Int)),some (.int .i64 ((i+1:Nat):Int))]/\∃ S',Hs base V h0 o.2.2 [(pb,32,dK a P.code.length b P.ai.length P.next g P.out.length)] [jg base F S' ((P.ai.take (i+1)).map (gZ v)++P.ai.drop (i+1)) b] by
   obtain ⟨⟨o1,o2,h'⟩,e,y1,y2,S',d'⟩:=w
   simp only at y1 y2 d'
   subst y1;subst y2
   obtain ⟨o,eo,q⟩:=ih (i+1) h' S' (by omega) d'
   exact ⟨o,bl e eo,q⟩
  have nP:=d.fK (i:=0) rfl
  have row:a_ base 53 5 (b_ base F) S h _ b:=d.rs (i:=0) rfl
  obtain ⟨C,OJ,ad,hA,nI,rfl,cells,oX,pA,wi,mod⟩:=row.mod (b_.kp _ _) (by decide) jl nP
  rw [Hu aS] at hA
  have NM:=hA
  obtain ⟨ra,rb,rc,rfl⟩:=hA.gY
  obtain ⟨_,_,rc',_,_,S3,bV,_,_,q3,qg,_,_,t3,_⟩:=hA
  injection bV with _ bV
  injection bV with _ bV
  injection bV with _ bV
  injection bV with _ bV
  injection bV with bV _
  injection bV with bV _ _
  subst bV
  rw [CS]
  skip
  refine W.aE (decide_eq_true (by show (i:Int)<(P.ai.length:Int);omega)) ?_
  ((with_reducible repeat first|refine W.a1 d ?_|refine W.bo ?_|refine W.a8 ?_))
  rw [aM]
  refine W.bS (cells 4 _ rfl) ?_
  have YC:=th _ (aQ aS)
  obtain ⟨a2,h2,e2,o2,k2,f2⟩:=vW (base:=base) (v:=v) (zs:=P.ai[i].aw) (by omega) q3.sl d.ge
  have d:=d.call k2 (bK a2) (λy=>bQ base 3 y a2 (iv .i64 (bW v P.ai[i].aw))) o2 (λU y y' k hs x=>bQ.ax x k hs) (λb hb=>⟨f2 b hb,(o2.lt hb).2⟩)
  refine W.bs e2 ?_
  ((try simp only [n1,n2,n3,n4,n5,n6] at d);(with_reducible repeat first|refine W.a2 ?_|refine W.bo ?_|refine W.a6 d ?_|refine W.a8 ?_))
  obtain ⟨h3,e3,r3,k3,z3⟩:=mod bp (λb=>C b\/bK a2 b) h2 _ [.slice a2 (bW v P.ai[i].aw).length (bW v P.ai[i].aw).length] 4 (gZ v P.ai[i]) k2 (λb h=>(h:False).elim) (aT 5) (by simp) rfl (λh4 k4=>b_.rn NM (KB.trans (T:=(· = ad.block)) k2 k4 (λ_ _ h=>(h:False).elim) λ_ _ h=>h) (λb hb e=>wi (e ▸ hb)) ((d.rs (i:=1) rfl:bQ base 3 h2 a2 _).ax k4 λb hb e=>by have:=f2 b hb;have:=nP _ pA;omega) (λb hb hc=>by have:=f2 b hb;have:=nP _ (oX b hc);omega)) (λb hb hs=>hb.resolve_right λhc=>by have:=f2 b hc;have:=nP _ hs;omega)
  refine W.bs e3 ?_
  skip
  rw [bm (n:=(i:Int)+1) (by omega) (by omega)]
  refine W.ret ⟨rfl,rfl,λb=>S b\/C b\/bK a2 b,?_⟩
  rw [DX aS] at r3
  exact (d.oT (b_.kp _ _) (fz.at (i:=1) rfl) (fz.at (i:=0) rfl) rfl rfl (k3.mono λb _ h=>h) r3 (λb hb=>.inl (hb ▸ pA)) (λb hb=>hb.elim .inl λhb=>hb.elim (λhb=>.inl (oX b hb)) λhb=>.inr (.inl hb))).kP 1
theorem AM{tb n:Nat}{k0 m0:Int}{s0:ByteArray}{tl:Nat}(ih:Hv base F f pb p t k0 m0 s0 ta tl false 65 n){ls:List Int}{lk:Option Addr}{C:Fp}{A:AH->Prop}{h0:AH}(hA:∀ h,A h->Sl h lk (iv .i64 ls))(hls:ls.length<=1048576):∀ (m i:Nat) (h:AH) (b g:Option Addr) (S So:Fp) (P:Pl),i+m=ls.length->P.ai.length<=n->PE P->Hs base V h0 h [(pb,32,dK a P.code.length b P.ai.length P.next g P.out.length),(tb,56,ah k0 m0 s0 ta tl)] [pE p λy=>cD y p f t (ah k0 m0 s0 ta tl),jg base F S P.ai b,o0 base f So P.out g,⟨C,true,A⟩] ->
  Wp (aF (CO base) [some (.pointer (ap pb)),some (.pointer (ap tb)),some (.slice lk ls.length ls.length),some (.int .i64 (ls.length:Int)),some (.int .i64 (i:Int))] h) λo=>o.1=4/\∃ b' g' S' ja,Hs base V h0 o.2.2 [(pb,32,dK a P.code.length b' ((ls.drop i).foldl (λQ m=>dL false t n m Q) P).ai.length P.next g' ((ls.drop i).foldl (λQ m=>dL false t n m Q) P).out.length),(tb,56,ah k0 m0 s0 ta tl)] [pE p λy=>cD y p f t (ah k0 m0 s0 ta tl),jg base F S' ((ls.drop i).foldl (λQ m=>dL false t n m Q) P).ai b',o0 base f ja ((ls.drop i).foldl (λQ m=>dL false t n m Q) P).out g',⟨C,true,A⟩]:=by
 intro m
 induction m with
 | zero=>
  intro i h b g S So P hi hn hP d
  have lL:i=ls.length:=by omega
  subst lL
  rw [sM (aT _)]
  suffices w:Wp (CO base [some (.pointer (ap pb)),some (.pointer (ap tb)),some (.slice lk ls.length ls.length),some (.int .i64 (ls.length:Int)),some (.int .i64 (ls.length:Int))] h) λo=>o=(4,[],h) by
   obtain ⟨o,e,rfl⟩:=w
   exact ⟨_,aC (by decide) e,rfl,b,g,S,So,d⟩
  rw [CQ]
  exact W.aU (by simp) (W.ret rfl)
 | succ m ihm=>
  intro i h b g S So P hi hn hP d
  have aS:i<ls.length:=by omega
  suffices w:Wp (CO base [some (.pointer (ap pb)),some (.pointer (ap tb)),some (.slice lk ls.length ls.length),some (.int .i64 (ls.length:Int)),some (.int .i64 (i:Int))] h) λo=>o.1=0/\o.2.1 = [some (.pointer (ap pb)),some (.pointer (ap tb)),some (.slice lk ls.length ls.length),some (.int .i64 (ls.length:Int)),some (.int .i64 ((i+1:Nat):Int))]/\∃ b' g' S' ja,Hs base V h0 o.2.2 [(pb,32,dK a P.code.length b' (dL false t n ls[i] P).ai.length P.next g' (dL false t n ls[i] P).out.length),(tb,56,ah k0 m0 s0 ta tl)] [pE p λy=>cD y p f t (ah k0 m0 s0 ta tl),jg base F S' (dL false t n ls[i] P).ai b',o0 base f ja (dL false t n ls[i] P).out g',⟨C,true,A⟩] by
   obtain ⟨⟨o1,o2,h'⟩,e,q⟩:=w
   obtain ⟨y1,y2,b',g',S',ja,d'⟩:=q
   simp only at y1 y2 d'
   subst y1;subst y2
   obtain ⟨q1,q2⟩:=Az false t n ls[i] P hP
   obtain ⟨q3,q4⟩:=iC false t n ls[i] P
   obtain ⟨o,eo,q⟩:=ihm (i+1) h' b' g' S' ja (dL false t n ls[i] P) (by omega) (by omega) q1 (by rw [q3,q4];exact d')
   refine ⟨o,bl e eo,?_⟩
   rw [q3,q4] at q
   rw [dJ aS,List.foldl_cons]
   exact q
  rw [CQ]
  refine W.aE (decide_eq_true (by omega)) (W.aE ⟨by omega,by omega⟩ ?_)
  rw [aM]
  refine W.ri (hA _ (d.rs (i:=3) rfl)) aS ?_
  ((with_reducible repeat refine W.a1 d ?_))
  have d1:=Hs.part (D1:=[_]) (R1:=[_,_,_]) d
  refine W.wb (ih P ls[i] a b g S So _ _ _ hn hP d1) ?_
  rintro ⟨u,h3⟩ ⟨y1,b',g',S',ja,d3⟩
  simp only at y1 d3
  subst y1
  have d:=Hs.back (D1:=[_]) (R1:=[_,_,_]) d d3 (Vg rfl rfl rfl)
  ((try simp only [n1,n2,n3,n4,n5,n6] at d);(with_reducible repeat refine W.a3 ?_))
  rw [bm (n:=(i:Int)+1) (by omega) (by omega)]
  exact W.ret ⟨rfl,rfl,b',g',S',ja,d⟩
theorem tu{k0 m0:Int}{s0:ByteArray}{tl:Nat}(hB:jJ f t):∀ n,Hv base F f pb p t k0 m0 s0 ta tl (Jj k0 s0) 65 n:=by
 intro n
 induction n with
 | zero=>
  intro P pid a b g S So V h0 h hn hP d
  have hz:P.ai = []:=iL (by omega)
  refine W.of (λr hx=>Am.r65 hx) ?_
  ((refine W.nD d λh1 d _ vQ=>?_))
  obtain ⟨h2,e2,k2⟩:=qt (base:=base) (b:=pb) (l:=P.ai) (a:=b) (v:=pid) (by omega) (a_.wj (d.rs (i:=1) rfl)) (d.au (o:=1) (by (· repeat first|exact .head _|apply List.Mem.tail)) rfl) d.ge
  have d:=d.kN k2
  refine W.bs e2 ?_
  ((with_reducible repeat refine W.a2 ?_))
  refine W.aE (by rw [hz];rfl) (W.ret ⟨rfl,b,g,S,So,?_⟩)
  exact d.tl
 | succ n ih=>
  intro P pid a b g S So V h0 h hn hP d
  obtain ⟨p1,p2,p3⟩:=hP
  refine W.of (λr hx=>Am.r65 hx) ?_
  ((refine W.nD d λh1 d _ vQ=>?_))
  obtain ⟨h2,e2,k2⟩:=qt (base:=base) (b:=pb) (l:=P.ai) (a:=b) (v:=pid) (by omega) (a_.wj (d.rs (i:=1) rfl)) (d.au (o:=1) (by (· repeat first|exact .head _|apply List.Mem.tail)) rfl) d.ge
  have d:=d.kN k2
  refine W.bs e2 ?_
  ((with_reducible repeat refine W.a2 ?_))
  refine W.ite (λc=>?_) (λc=>?_)
  ·refine W.ret ⟨rfl,b,g,S,So,?_⟩
   rw [dL,if_pos c]
   exact d.tl
  have aS:=fG pid P.ai 0
  have c':¬bX pid 0 P.ai<0:=by simpa using c
  have hi:(bX pid 0 P.ai).toNat<P.ai.length:=by omega
  obtain ⟨q,eq⟩:∃ q,(bX pid 0 P.ai).toNat=q:=⟨_,rfl⟩
  have Zy:bX pid 0 P.ai=(q:Int):=by omega
  rw [eq] at hi
  rw [Zy] at c ⊢
  ((with_reducible repeat first|refine W.a1 d ?_|refine W.bo ?_|refine W.a8 ?_))
  rw [aM]
  have AD:a_ base 53 5 (b_ base F) S h2 P.ai b:=d.rs (i:=1) rfl
  have YD:kS base h2 b 53:=by obtain ⟨_,_,o,_⟩:=AD;exact kS.own o
  obtain ⟨vs,T,er,ev,xA,hT,hTb,ch⟩:=AD.Nu mj (by decide)
  have YE:=ch.leaf mj (by decide) ev
  obtain ⟨CC,_,_,c3⟩:=ch
  obtain ⟨ra,rb,rc,ech⟩:=(c3 q _ (bk hi)).gY
  have hq5:q*5+4<vs.length:=by omega
  have e4:vs[q*5+4]? = some (.slice rc P.ai[q].aw.length P.ai[q].aw.length):=by
   have:(chunk 5 q vs)[4]? = some (.slice rc P.ai[q].aw.length P.ai[q].aw.length):=by rw [ech];rfl
   rw [chunk,List.getElem?_take_of_lt (by decide),List.getElem?_drop] at this
   exact this
  obtain ⟨ad,rfl,g4⟩:=xA.at e4
  refine W.bs rfl (W.bS g4 ?_)
  ((with_reducible repeat first|refine W.a1 d ?_|refine W.bo ?_))
  have er1:br h2 (dm (some ad) (0*5)) ((q-0)*5)=some (vs.take (q*5)):=by
   have:=kW (n:=0) (m:=q*5) xA YE (by omega)
   rw [cH] at this
   simpa using this
  refine W.aE ⟨by omega,by omega,by show (q:Int)<=(P.ai.length:Int);omega,rfl⟩ ?_
  rw [show af 0=0 from rfl,er1]
  have eN:∀ x,bK (some ad) x->x<h2.length:=λx hx=>by obtain ⟨rv,e',rfl⟩:=hx;injection e' with e';subst e';exact (YD ad rfl).1
  have d:=d.call (KB.refl bp _) (λ_=>False) (λy=>bQ base 53 y none []) (.inl ⟨rfl,rfl⟩) (λU y y' k hs x=>bQ.ax x k λb hb=>by obtain ⟨_,e,_⟩:=hb;cases e) (λ_ h=>h.elim)
  obtain ⟨a4,h4,e4,d,q4,k4⟩:=d.YA (i:=3) (w:=5) (n:=0) (m:=q) (bytes:=88) rfl (λb hb=>by obtain ⟨_,e,_⟩:=hb;cases e) (rfl:some (vs.take (q*5))=some _) (by decide) (by rfl) (by simp;omega) (by omega) (by omega)
  simp only [cQ,kj,Nat.sub_zero] at e4 d ⊢
  refine W.bs e4 ?_
  have l4:∀ b,bK a4 b->h2.length<=b:=λb hb=>by rcases q4 b hb with h|h;exact h.elim;omega
  have u4:∀ b,bK (some ad) b->¬False:=λb hb h=>h
  have ok4:=YD.ax k4 u4
  have xA:=xA.ax k4 λb hb hu=>u4 b hb hu
  have er:=kV k4 u4 er
  ((try simp only [n1,n2,n3,n4,n5,n6] at d);(with_reducible repeat first|refine W.a1 d ?_|refine W.a2 ?_|refine W.bo ?_|refine W.a6 d ?_))
  refine W.gt (YD.Ho k4 u4) ?_
  rw [bm (n:=(q:Int)+1) (by omega) (by omega)]
  refine W.aE ⟨by omega,by show (q:Int)+1<=(P.ai.length:Int);omega,gb _,ok4.ok _⟩ ?_
  have eq1:af ((q:Int)+1)=q+1:=by omega
  have er2:br h4 (dm (some ad) ((q+1)*5)) ((P.ai.length-(q+1))*5)=some (vs.drop ((q+1)*5)):=by
   have:=kW (n:=(q+1)*5) (m:=(P.ai.length-(q+1))*5) xA YE (by omega)
   rw [this,cG (by simp;omega)]
  simp only [eq1,aM]
  rw [er2]
  obtain ⟨a5,h5,e5,d,q5,k5⟩:=d.YA (i:=3) (w:=5) (n:=q) (m:=P.ai.length-(q+1)) (bytes:=88) rfl (λb h=>h) (rfl:some (vs.drop ((q+1)*5))=some _) (by decide) (by simp;omega) (by simp;omega) (by omega) (by omega)
  refine W.bs e5 ?_
  have u5:∀ b,bK (some ad) b->¬bK a4 b:=λb hb hs=>by have:=eN b hb;have:=l4 b hs;omega
  have er:=kV k5 u5 er
  obtain ⟨C,S5,d,hC,hS5⟩:=d.cut (b_.kp _ _) (i:=1) (j:=3) (q:=q) rfl hi mj (by decide) er (by decide) rfl (λb h=>h)
  ((try simp only [n1,n2,n3,n4,n5,n6] at d);(with_reducible repeat first|refine W.a1 d ?_|refine W.a2 ?_|refine W.bo ?_|refine W.a5 d λhw d lw kw=>?_))
  have ecl:q+(P.ai.length-(q+1))=(eX q P.ai).length:=by have:=mh hi;omega
  have ala:=mh hi
  have d:=d.front (.there .here)
  simp only [ecl] at d ⊢
  have d:Hs base V h0 hw [(pb,32,dK a P.code.length a5 (eX q P.ai).length P.next g P.out.length),(h.length,56,ah k0 m0 s0 ta tl)] [pE p λy=>cD y p f t (ah k0 m0 s0 ta tl),jg base F S5 (eX q P.ai) a5,o0 base f So P.out g,⟨C,true,λx=>b_ base F C x P.ai[q] (chunk 5 q vs)⟩]:=d
  have d:=d.cJ (gJ.at (i:=1) rfl)
  have d1:=Hs.part (D1:=[_]) (R1:=[_]) d
  have w1:=AL (base:=base) (F:=F) (pb:=pb) (tb:=h.length) (P:=⟨P.code,eX q P.ai,P.next,P.out⟩) (a:=a) (b:=a5) (g:=g) (lk:=rc) (lm:=P.ai[q].aw.length) (v:=pid) (by show (eX q P.ai).length<=_;omega) (λA hA=>p3 A (mi hA)) (eX q P.ai).length 0 hw S5 (by show 0+(eX q P.ai).length=(eX q P.ai).length;omega) (by simpa using d1)
  refine W.wb w1 ?_
  rintro ⟨o1,o2,h6⟩ ⟨y1,y2,S6,d6⟩
  simp only at y1 y2 d6
  subst y1;subst y2
  have d:=Hs.back (D1:=[_]) (R1:=[_]) d d6 (λr hr hm=>by simp only [bn,kl,or_false] at hr;subst hr;cases hm)
  have d:=d.cJ (gJ.at (i:=1) rfl)
  refine W.aE rfl ?_
  ((try simp only [n1,n2,n3,n4,n5,n6] at d);(with_reducible repeat first|refine W.a1 d ?_|refine W.a2 ?_|refine W.bo ?_))
  obtain ⟨a7,h7,e7,r7,k7,n7⟩:=oV (base:=base) (f:=f) h6 So P.out g 3 pid p t k0 m0 s0 ta tl (d.rs (i:=2) rfl) p2 (d.rs (i:=0) rfl) hB (d.fK (i:=2) rfl) (d.fK (i:=0) rfl) d.ge
  have vU:a_ base 82 6 (gz f) So h6 P.out g:=d.rs (i:=2) rfl
  have d:=d.IK (gz.kp _) (fz.at (i:=2) rfl) rfl k7 r7 (λb hb=>.inl (vU.IY b hb)) (λb hb=>hb)
  refine W.bs e7 ?_
  ((try simp only [n1,n2,n3,n4,n5,n6] at d);(with_reducible repeat first|refine W.a1 d ?_|refine W.a2 ?_|refine W.bo ?_|refine W.a5 d λhw d lw kw=>?_))
  have em:((eX q P.ai).map (gZ pid)).length=(eX q P.ai).length:=pF _
  have d:Hs base V h0 hw [(pb,32,dK a P.code.length a5 (eX q P.ai).length P.next a7 (fN P.out 3 pid t).length),(h.length,56,ah k0 m0 s0 ta tl)] [pE p λy=>cD y p f t (ah k0 m0 s0 ta tl),jg base F S6 ((eX q P.ai).map (gZ pid)) a5,o0 base f (λb=>So b\/(h6.length<=b/\b<h7.length)) (fN P.out 3 pid t) a7,⟨C,true,λx=>b_ base F C x P.ai[q] (chunk 5 q vs)⟩]:=d
  rw [<- em] at d
  have hA:∀ y,b_ base F C y P.ai[q] (chunk 5 q vs)->Sl y rc (iv .i64 P.ai[q].aw):=λy x=>by
   obtain ⟨_,_,rc',_,_,S3,bV,_,_,q3,_⟩:=x
   rw [ech] at bV
   injection bV with _ bV
   injection bV with _ bV
   injection bV with _ bV
   injection bV with _ bV
   injection bV with bV _
   injection bV with bV _ _
   subst bV
   exact q3.sl
  have hPE:PE ⟨P.code,(eX q P.ai).map (gZ pid),P.next,fN P.out 3 pid t⟩:=by
   refine ⟨by show ((eX q P.ai).map (gZ pid)).length<=_;omega,Ay p2,λA hA=>?_⟩
   obtain ⟨B,hB,rfl⟩:=dR.1 hA
   exact gi kD (p3 B (mi hB))
  obtain ⟨h9,e9,k9⟩:=NY (base:=base) (h:=hw) (k:=k0) (n:=m0) (s:=s0) (a:=ta) (m:=tl) d.ge
  have d:=d.kN k9
  refine W.bs e9 ?_
  ((with_reducible repeat refine W.a2 ?_))
  by_cases ck:Jj k0 s0=true
  ·refine W.aE ck (W.ret ⟨rfl,a5,a7,S6,(λb=>So b\/(h6.length<=b/\b<h7.length)),?_⟩)
   have ee:dL (Jj k0 s0) t (n+1) pid P=⟨P.code,(eX q P.ai).map (gZ pid),P.next,fN P.out 3 pid t⟩:=by
    rw [dL,Zy,if_neg c,aM,if_pos ck]
   rw [ee]
   have d9:=(d.front (.there .here)).tl
   exact d9.kP 3
  refine W.aU ck ?_
  have ck:Jj k0 s0=false:=by simpa using ck
  rw [ck] at ih
  refine W.wb (AM (base:=base) ih (A:=λx=>b_ base F C x P.ai[q] (chunk 5 q vs)) hA (p3 _ (aQ hi)) P.ai[q].aw.length 0 h9 a5 a7 S6 _ ⟨P.code,(eX q P.ai).map (gZ pid),P.next,fN P.out 3 pid t⟩ (by omega) (by show ((eX q P.ai).map (gZ pid)).length<=_;omega) hPE d) ?_
  rintro ⟨o1,o2,h8⟩ ⟨y1,b8,g8,S8,So8,d8⟩
  simp only at y1 d8
  subst y1
  refine W.aE rfl (W.ret ⟨rfl,b8,g8,S8,So8,?_⟩)
  have ee:dL (Jj k0 s0) t (n+1) pid P=(P.ai[q].aw.drop 0).foldl (λQ m=>dL false t n m Q) ⟨P.code,(eX q P.ai).map (gZ pid),P.next,fN P.out 3 pid t⟩:=by
   rw [dL,Zy,if_neg c,aM,aD hi,cH,ck]
   rfl
  rw [ee]
  have d9:=(d8.front (.there .here)).tl
  exact d9.kP 3
section
theorem HB{l:List Tm}(h:jo f (.mk k n s l)=true):pz k n s l.length=Jj k s:=by
 cases f with
 | zero=>simp [jo,lk] at h
 | succ f=>
  unfold jo at h
  rw [lk] at h
  have hs:Ej k n s l.length=true:=by
   by_cases c:Ej k n s l.length=true
   ·exact c
   ·rw [if_pos (Or.inr (Or.inr (by simpa using c)))] at h
    simp at h
  unfold pz Nw Jj
  by_cases c:k=2
  ·subst c
   simp [Ej] at hs
   obtain ⟨⟨h1,_⟩,h2⟩:=hs
   simp [h1,h2]
  ·have c1:(k==2)=false:=by simpa using c
   simp [c1,bne]
namespace Hs
variable {base:Nat} {W:Fp} {h0 h:AH} {D:Ds} {R:List Rs}
theorem call3{h':AH}(d:Hs base W h0 h D R)(k:KB bp h h')(S T U:Fp)(A B C:AH->Prop)(hA:A h')(hB:B h')(hC:C h')(pz:∀ (U:Fp) (h h':AH),KB U h h'->(∀ b,S b->¬U b)->A h->A h')(okB:∀ (U:Fp) (h h':AH),KB U h h'->(∀ b,T b->¬U b)->B h->B h')(okC:∀ (V:Fp) (h h':AH),KB V h h'->(∀ b,U b->¬V b)->C h->C h')(hS:∀ b,S b->h.length<=b/\b<h'.length)(hT:∀ b,T b->h.length<=b/\b<h'.length)(hU:∀ b,U b->h.length<=b/\b<h'.length)(hd:∀ b,S b->¬T b)(hd2:∀ b,S b->¬U b)(hd3:∀ b,T b->¬U b):Hs base W h0 h' D (R++[⟨S,true,A⟩]++[⟨T,true,B⟩]++[⟨U,true,C⟩]):=by
 have d1:=d.call2 k S T A B hA hB pz okB hS hT hd
 have d2:=d.call k U C hC okC hU
 refine ⟨d1.ge,d1.kb,d1.own,d1.nd,λr hr=>?_,?_⟩
 ·rcases dQ.1 hr with hr|hr
  ·exact d1.iH r hr
  ·exact d2.iH r (List.mem_append_right _ hr)
 ·rw [iU]
  refine ⟨d1.dj,by simp,λr hr s hs=>?_⟩
  rcases dQ.1 hr with hr|hr
  ·rcases dQ.1 hr with hr|hr
   ·exact (iU.1 d2.dj).2.2 r hr s hs
   ·rw [dY] at hr hs
    subst hr;subst hs
    exactλ_=>hd2
  ·rw [dY] at hr hs
   subst hr;subst hs
   exactλ_=>hd3
end Hs
end
section
structure GW (F:Nat) (P:Pl):Prop where
 co:codeOk P.code=true
 nx:1<=P.next/\P.next<=90000
 len:P.ai.length<=20
 ou:iW F P.out=true
 ac:∀ A∈P.ai,jr F P.code A=true
variable {F:Nat} {P:Pl}
theorem GW.of(h:DO F P=true):GW F P:=by
 unfold DO at h
 simp only [bz,decide_eq_true_eq,yM,ko] at h
 obtain ⟨h1,h2,h3,h4,h5⟩:=h
 refine ⟨h1,h2,by omega,h4,λA hA=>?_⟩
 obtain ⟨j,hj,rfl⟩:=gk.1 hA
 have:=(D5 _ _).1 h5 j (tX _) (by omega)
 unfold DN at this
 split at this
 ·cases this
 ·rename_i c
  unfold DM at c
  rw [aD hj] at c
  cases e:jr F P.code P.ai[j] with
  | true=>rfl
  | false=>rw [e] at c;exact absurd rfl c
theorem GW.I2(g:GW F P)(ok:jr F P.code A=true):GW F ⟨P.code,P.ai.set i A,P.next,P.out⟩:=
 ⟨g.co,g.nx,by show (P.ai.set i A).length<=20;rw [nh];exact g.len,g.ou,λB hB=>by
  rcases QL hB with h|rfl
  ·exact g.ac B h
  ·exact ok⟩
theorem GW.told(g:GW F P)(ht:jo F t=true):GW F ⟨P.code,ly pid t P.ai,P.next,P.out⟩:=by
 unfold ly
 split
 ·exact g
 ·rename_i c
  unfold mg at c
  have aS:=fG pid P.ai 0
  have c':¬bX pid 0 P.ai<0:=λh=>c (by rw [if_pos (decide_eq_true h)])
  have hi:(bX pid 0 P.ai).toNat<P.ai.length:=by omega
  rw [if_neg (by simpa using c'),aD hi] at c
  rw [aD hi]
  obtain ⟨q1,q2,q3,q4,q5,q6,q7,q8⟩:=c_.1 (g.ac _ (aQ hi))
  refine g.I2 (c_.2 ⟨q1,q2,q3,q4,q5,?_,λu hu=>?_,q8⟩)
  ·simp at c ⊢;omega
  ·rcases dQ.1 hu with hu|hu
   ·exact q7 u hu
   ·rw [dY.1 hu];exact ht
theorem GW.said(g:GW F P){kind:Int}(hk:1<=kind/\kind<=3)(hp:1<=pid/\pid<=99999)(ht:jo F t=true):GW F ⟨P.code,P.ai,P.next,fN P.out kind pid t⟩:=
 ⟨g.co,g.nx,g.len,AJ g.ou hk hp ht,g.ac⟩
theorem GW.link(g:GW F P){other:Int}(pV:¬bX pid 0 P.ai<0):GW F ⟨P.code,nH pid other P.ai,P.next,P.out⟩:=by
 unfold nH
 split
 ·exact g
 ·rename_i c
  unfold rp at c
  have c1:¬bX other 0 P.ai<0:=λh=>c (by rw [if_pos (decide_eq_true h)])
  rw [if_neg (by simpa using c1)] at c
  have c2:¬(bX other 0 P.ai==bX pid 0 P.ai)=true:=λh=>c (by rw [if_pos h])
  rw [if_neg c2] at c
  rcases gh pid P.ai 0 with ⟨h,_⟩|⟨k,hk,ek,pk⟩
  ·omega
  rcases gh other P.ai 0 with ⟨h,_⟩|⟨m,hm,em,pm⟩
  ·omega
  have ek':(bX pid 0 P.ai).toNat=k:=by omega
  have em':(bX other 0 P.ai).toNat=m:=by omega
  rw [ek',em',aD hk,aD hm] at c
  rw [ek',em',aD hk,aD hm]
  have hl:P.ai[k].aw.length<50/\P.ai[m].aw.length<50:=by
   split at c
   ·exact absurd rfl c
   ·rename_i c3
    simp at c c3
    omega
  have ak:=c_.1 (g.ac _ (aQ hk))
  have am:=c_.1 (g.ac _ (aQ hm))
  have dv:other≠pid:=λe=>c2 (by rw [e];simp)
  have lk:=Hz (v:=other) ak.2.2.2.2.2.2.2 (by rw [<- pm];exact am.2.1) (by rw [pk];exact dv) hl.1
  have lm:=Hz (v:=pid) am.2.2.2.2.2.2.2 (by rw [<- pk];exact ak.2.1) (by rw [pm];exactλe=>dv e.symm) hl.2
  have okk:jr F P.code (jY other P.ai[k])=true:=c_.2 ⟨ak.1,ak.2.1,ak.2.2.1,ak.2.2.2.1,ak.2.2.2.2.1,ak.2.2.2.2.2.1,ak.2.2.2.2.2.2.1,lk⟩
  have okm:jr F P.code (jY pid P.ai[m])=true:=c_.2 ⟨am.1,am.2.1,am.2.2.1,am.2.2.2.1,am.2.2.2.2.1,am.2.2.2.2.2.1,am.2.2.2.2.2.2.1,lm⟩
  exact (g.I2 (i:=k) okk).I2 (i:=m) okm
theorem GW.dL{ok:Bool}{t:Tm}(ht:jo F t=true):∀ (n:Nat) (pid:Int) (P:Pl),GW F P->GW F (dL ok t n pid P)
 | 0,pid,P,g=>g
 | n+1,pid,P,g=>by
  rw [Am.dL]
  split
  ·exact g
  ·rename_i c
   have c:¬bX pid 0 P.ai<0:=λh=>c (decide_eq_true h)
   rcases gh pid P.ai 0 with ⟨h,_⟩|⟨k,hk,ek,pk⟩
   ·omega
   have ek':(bX pid 0 P.ai).toNat=k:=by omega
   rw [ek']
   have hp:=(c_.1 (g.ac _ (aQ hk))).2.1
   rw [pk] at hp
   have g2:GW F ⟨P.code,(eX k P.ai).map (gZ pid),P.next,fN P.out 3 pid t⟩:=by
    refine ⟨g.co,g.nx,by show ((eX k P.ai).map (gZ pid)).length<=20;rw [pF];have:=mh hk;have:=g.len;omega,AJ g.ou (by omega) hp ht,λB hB=>?_⟩
    obtain ⟨A,hA,rfl⟩:=dR.1 hB
    obtain ⟨q1,q2,q3,q4,q5,q6,q7,q8⟩:=c_.1 (g.ac A (mi hA))
    exact c_.2 ⟨q1,q2,q3,q4,q5,q6,q7,NU q8⟩
   split
   ·exact g2
   ·generalize (P.ai.getD k a0).aw=ls
    generalize (⟨P.code,(eX k P.ai).map (gZ pid),P.next,fN P.out 3 pid t⟩:Pl)=Q at g2
    induction ls generalizing Q with
    | nil=>exact g2
    | cons m r ih=>exact ih _ (GW.dL ht n m Q g2)
theorem GW.make(g:GW F P)(hF:1<=F){pc:Int}(ht:jo F t=true)(Eo:0<=pc/\pc<(P.code.length:Int))(hc:P.ai.length<20)(hn:P.next<90000):GW F ⟨P.code,P.ai++[vK F P.next pc t],IntKind.wrap .i64 (P.next+(1:Int)),fN P.out 1 P.next t⟩:=by
 have hx:=g.nx
 have eA:vK F P.next pc t=⟨P.next,pc,fm t 7,[],[]⟩:=by
  unfold vK yc
  rw [if_pos]
  rw [bz,bz,ko]
  exact ⟨by omega,by simp;omega,ht⟩
 rw [bm (by omega) (by omega),eA]
 refine ⟨g.co,by show 1<=P.next+1/\P.next+1<=90000;omega,by show (P.ai++[_]).length<=20;simp;omega,AJ g.ou (by omega) (by omega) ht,λA hA=>?_⟩
 rcases dQ.1 hA with hA|hA
 ·exact g.ac A hA
 ·rw [dY.1 hA]
  refine c_.2 ⟨g.co,by show 1<=P.next/\P.next<=99999;omega,Eo,fc t 7,λu hu=>?_,by simp,λu hu=>(nomatch hu),gf.2 ⟨by simp,λn hn=>(nomatch hn),List.Pairwise.nil⟩⟩
  rcases tq hu with rfl|rfl
  ·exact ht
  ·exact YI hF
theorem GW.act(hF:1<=F)(g:GW F P)(pV:¬bX pid 0 P.ai<0)(hx:vV F P.code.length P.next x):GW F (gM F pid x P).1:=by
 have ale:1<=pid/\pid<=99999:=by
  rcases gh pid P.ai 0 with ⟨h,_⟩|⟨k,hk,ek,pk⟩
  ·omega
  ·rw [<- pk];exact (c_.1 (g.ac _ (aQ hk))).2.1
 unfold gM
 split
 ·exact g
 rename_i c2
 have c2:x.kind≠2:=by simpa using c2
 split
 ·rename_i c3
  have c3:x.kind=3:=by simpa using c3
  exact g.told (hx.t (by omega) (by omega) (by omega))
 split
 ·rename_i c4
  have c4:x.kind=4:=by simpa using c4
  split
  ·exact GW.dL (HA hF) _ _ _ g
  ·rename_i cf
   obtain ⟨m1,m2⟩:=hx.m c4
   have c20:P.ai.length<20/\¬P.next>=90000:=by
    unfold rq at cf
    split at cf
    ·exact absurd rfl cf
    ·rename_i c1
     simp at cf c1
     omega
   rw [m1]
   exact g.make hF (hx.t (by omega) (by omega) (by omega)) m2 c20.1 (by omega)
 split
 ·rename_i c5
  have c5:x.kind=5:=by simpa using c5
  exact g.said (by omega) ale (hx.t (by omega) (by omega) (by omega))
 split
 ·exact g.link pV
 rename_i c6
 have c6:x.kind≠6:=by simpa using c6
 split
 ·rename_i c7
  have c7:x.kind=7:=by simpa using c7
  exact GW.dL (hx.t (by omega) (by omega) (by omega)) _ _ _ g
 ·exact g
theorem I3:(gM F pid x P).1.code=P.code:=by
 have aeN:∀ (t:Tm),(AG t pid P).code=P.code:=λt=>(iC _ _ _ _ _).1
 unfold gM
 split
 ·rfl
 split
 ·rfl
 split
 ·split
  ·exact aeN _
  ·rfl
 split
 ·rfl
 split
 ·rfl
 split
 ·exact aeN _
 ·rfl
theorem QM(pV:¬bX pid 0 P.ai<0):(gM F pid x P).2=true->¬bX pid 0 (gM F pid x P).1.ai<0:=by
 unfold gM
 split
 ·exactλh=>(nomatch h)
 split
 ·intro _
  show ¬bX pid 0 (ly x.pid x.t P.ai)<0
  unfold ly
  split
  ·exact pV
  ·rename_i cb
   unfold mg at cb
   have aS:=fG x.pid P.ai 0
   have c':¬bX x.pid 0 P.ai<0:=λh=>cb (by rw [if_pos (decide_eq_true h)])
   have hi:(bX x.pid 0 P.ai).toNat<P.ai.length:=by omega
   exact pH pV (pG hi (by rw [aD hi]))
 split
 ·split
  ·exactλh=>(nomatch h)
  ·intro _
   show ¬bX pid 0 (P.ai++[_])<0
   rcases gh pid P.ai 0 with ⟨h,_⟩|⟨k,hk,ek,pk⟩
   ·omega
   ·rcases gh pid (P.ai++[vK F x.pid x.pc x.t]) 0 with ⟨_,h⟩|⟨k2,_,ek2,_⟩
    ·exact absurd pk (h _ (List.mem_append_left _ (aQ hk)))
    ·omega
 split
 ·exactλ_=>pV
 split
 ·intro _
  show ¬bX pid 0 (nH pid x.pid P.ai)<0
  unfold nH
  split
  ·exact pV
  ·rename_i cb
   have aS:=fG pid P.ai 0
   have jl:=fG x.pid P.ai 0
   unfold rp at cb
   have c1:¬bX x.pid 0 P.ai<0:=λh=>cb (by rw [if_pos (decide_eq_true h)])
   have hi:(bX pid 0 P.ai).toNat<P.ai.length:=by omega
   have hj:(bX x.pid 0 P.ai).toNat<P.ai.length:=by omega
   have e1:=pG (A:=jY x.pid (P.ai.getD (bX pid 0 P.ai).toNat a0)) hi (by rw [aD hi];rfl)
   have h1:=pH pV e1
   have hj2:(bX x.pid 0 P.ai).toNat<(P.ai.set (bX pid 0 P.ai).toNat (jY x.pid (P.ai.getD (bX pid 0 P.ai).toNat a0))).length:=by simpa using hj
   refine pH h1 (pG hj2 ?_)
   rw [aD hj]
   rw [Aw]
   split
   ·rename_i e
    rw [aD hi]
    show (P.ai[(bX x.pid 0 P.ai).toNat]).pid=(P.ai[(bX pid 0 P.ai).toNat]).pid
    simp only [e]
   ·rfl
 split
 ·exactλh=>(nomatch h)
 ·exactλ_=>pV
theorem GW.stp(hF:6<=F)(g:GW F P)(pV:¬bX pid 0 P.ai<0):GW F (iX F pid P).1/\((iX F pid P).2=true->¬bX pid 0 (iX F pid P).1.ai<0)/\(iX F pid P).1.code=P.code:=by
 have aS:=fG pid P.ai 0
 have hi:(bX pid 0 P.ai).toNat<P.ai.length:=by omega
 have hx:=g.nx
 obtain ⟨s1,s2,s3,s4⟩:=AK (next:=P.next) hF (g.ac _ (aQ hi)) (by omega)
 unfold iX F'
 rw [aD hi]
 have g2:=g.I2 (i:=(bX pid 0 P.ai).toNat) s1
 have h2:=pH pV (pG hi s2)
 exact ⟨GW.act (by omega) g2 h2 s4,QM h2,I3⟩
theorem GW.run(hF:6<=F){pid:Int}:∀ (n:Nat) {P:Pl},GW F P->¬bX pid 0 P.ai<0->GW F (iG F pid n P)/\(iG F pid n P).code=P.code
 | 0,P,g,_=>⟨g,rfl⟩
 | n+1,P,g,pV=>by
  obtain ⟨g2,a2,e2⟩:=g.stp hF pV
  rw [iG]
  split
  ·rename_i c
   obtain ⟨g3,e3⟩:=GW.run hF n g2 (a2 c)
   exact ⟨g3,by rw [e3,e2]⟩
  ·exact ⟨g2,e2⟩
theorem GW.size(g:GW F P):PSz P:=⟨by have:=g.len;omega,by have:=(ng.1 g.ou).2;omega,λA hA=>by
 have:=(gf.1 (c_.1 (g.ac A hA)).2.2.2.2.2.2.2).1;omega,λA hA=>by have:=(c_.1 (g.ac A hA)).2.2.2.2.2.1;omega⟩
theorem uw{α:Type}{w:α->Nat}{c:Nat}:∀ {l:List α},(∀ x∈l,w x<=c)->dt w l<=c*l.length
 | [],_=>by simp [dt]
 | x :: r,h=>by
  have h1:=h x (.head _)
  have h2:=uw (w:=w) (c:=c) (l:=r) λy hy=>h y (.tail _ hy)
  rw [dt,g_,Nat.mul_add]
  omega
theorem D6{f:Nat}{c:Int}:∀ {l:List Ac},(∀ A∈l,Je f A<=c)->iZ f l<=(c+2)*(l.length:Int)
 | [],_=>by simp [iZ]
 | A :: r,h=>by
  have h1:=h A (.head _)
  have h2:=D6 (f:=f) (c:=c) (l:=r) λy hy=>h y (.tail _ hy)
  rw [iZ,g_]
  have:(c+2)*((r.length+1:Nat):Int)=(c+2)*(r.length:Int)+(c+2):=by
   rw [Int.natCast_add,Int.mul_add]
   simp
  omega
theorem GW.mc(g:GW F P):Nx F P/\0<=El F P/\El F P<=200000000:=by
 obtain ⟨c1,_,c2⟩:=fe g.co
 have ho:=ng.1 g.ou
 have hl:=g.len
 have hA:∀ A∈P.ai,x_ F A/\Je F A<=20000:=λA hA=>by
  obtain ⟨q1,q2,q3,q4,q5,q6,q7,q8⟩:=c_.1 (g.ac A hA)
  have hk:=(gf.1 q8).1
  refine ⟨⟨by omega,by omega,by omega,λt ht=>(jI (q5 t ht)).1,λt ht=>(jI (q7 t ht)).1⟩,?_⟩
  have s1:=uw (w:=eH F) (c:=100) (l:=A.aH) λt ht=>(jI (q5 t ht)).2
  have s2:=uw (w:=eH F) (c:=100) (l:=A.box) λt ht=>(jI (q7 t ht)).2
  unfold Je nR
  omega
 have s1:=uw (w:=λx:Sd=>eH F x.t) (c:=100) (l:=P.out) λx hx=>(jI (sN.1 (ho.1 x hx)).2.2).2
 have s2:=D6 (f:=F) (c:=20000) λA h=>(hA A h).2
 have s3:=pC F P.ai
 refine ⟨⟨by omega,λy hy=>by have:=c2 y hy;omega,by omega,λA h=>(hA A h).1,by omega,λx hx=>(jI (sN.1 (ho.1 x hx)).2.2).1⟩,?_,?_⟩
 ·unfold El rI
  omega
 ·have:(20000+2:Int)*(P.ai.length:Int)<=(20000+2)*20:=Int.mul_le_mul (by omega) (by omega) (by omega) (by omega)
  unfold El rI
  omega
def fI(v:Int):List Int->Nat
 | []=>0
 | x :: r=>if decide (x<v)=true then fI v r+1 else 0
def pW(v:Int)(l:List Int):List Int:=if (if decide ((fI v l:Int)<(l.length:Int))=true then (l.getD (fI v l) 0==v) else false)=true then l else l.take (fI v l)++v :: l.drop (fI v l)
theorem AN{v:Int}:∀ (l:List Int),fI v l<=l.length/\(∀ j (hj:j<l.length),j<fI v l->l[j]<v)/\∀ h:fI v l<l.length,¬l[fI v l]<v
 | []=>⟨aT _,λj hj=>absurd hj (QN _),λh=>absurd h (QN _)⟩
 | x :: r=>by
  obtain ⟨h1,h2,h3⟩:=AN (v:=v) r
  by_cases c:x<v
  ·have e:fI v (x :: r)=fI v r+1:=by rw [fI,if_pos (decide_eq_true c)]
   rw [e]
   refine ⟨by simp;omega,λj hj hk=>?_,λh=>?_⟩
   ·cases j with
    | zero=>exact c
    | succ j=>simpa using h2 j (by simpa using hj) (by omega)
   ·simpa using h3 (by simpa using h)
  ·have e:fI v (x :: r)=0:=by rw [fI,if_neg (by simpa using c)]
   rw [e]
   exact ⟨tX _,λj hj hk=>by omega,λh=>by simpa using c⟩
theorem D7{p:Int}(h:pL l p=true):pW v l=gK v l:=by
 obtain ⟨_,_,so⟩:=gf.1 h
 obtain ⟨f1,f2,f3⟩:=AN (v:=v) l
 obtain ⟨k1,k2⟩:=AI (l:=l) (v:=v) l.length
 have k3:=DZ (l:=l) (v:=v) l.length
 have pw:=gx.1 so
 unfold pW gK
 by_cases hv:v∈l
 ·obtain ⟨j,hj,rfl⟩:=gk.1 hv
  have e:fI l[j] l=j:=by
   rcases pi (fI l[j] l) j with h|h|h
   ·have:=pw _ j (by omega) hj h
    exact absurd this (f3 (by omega))
   ·exact h
   ·have:=f2 j hj h
    omega
  rw [if_pos (by rw [e,if_pos (decide_eq_true (by omega))];simp [hj]),if_pos (o_.2 (aQ hj))]
 ·rw [if_neg (λc=>hv (o_.1 c)),if_neg]
  ·have e:fI v l=kI l v l.length:=by
    rcases pi (fI v l) (kI l v l.length) with h|h|h
    ·have h4:=f3 (by omega)
     have hk:kI l v l.length-1<l.length:=by omega
     have h5:l[kI l v l.length-1]<=v:=by
      rcases k1 with k1|k1
      ·omega
      ·simpa [hk] using k1
     have h6:l[fI v l]'(by omega)<=l[kI l v l.length-1]:=by
      by_cases e:fI v l=kI l v l.length-1
      ·simp only [e];exact gb _
      ·exact YH (pw _ _ (by omega) hk (by omega))
     have h7:l[fI v l]'(by omega)≠v:=λe=>hv (e ▸ aQ _)
     omega
    ·exact h
    ·have hk:kI l v l.length<l.length:=by omega
     have h4:=f2 _ hk h
     have h5:=k2 _ (aT _) hk
     have h6:l.getD (kI l v l.length) 0=l[kI l v l.length]:=by simp [hk]
     omega
   rw [e]
  ·split
   ·rename_i c
    have c:(fI v l:Int)<(l.length:Int):=of_decide_eq_true c
    have hk:fI v l<l.length:=by omega
    intro h
    have e2:l[fI v l]=v:=by simpa [hk] using h
    exact hv (e2 ▸ aQ hk)
   ·exactλh=>(nomatch h)
end
theorem QO(hi:i<l.length):fI v (l.drop i)=if decide (l[i]<v)=true then fI v (l.drop (i+1))+1 else 0:=by
 rw [dJ hi,fI]
theorem AP(hl:l.length<=1000)(hs:Sl h a (iv .i64 l)):∀ (m i:Nat),i+m=l.length ->
  aF (sk base) [some (.slice a l.length l.length),some (.int .i64 v),some (.int .i64 (i:Int))] h=some (2,[some (.slice a l.length l.length),some (.int .i64 v),some (.int .i64 ((i+fI v (l.drop i):Nat):Int))],h):=by
 intro m
 induction m with
 | zero=>
  intro i hi
  have lL:i=l.length:=by omega
  subst lL
  suffices w:Wp (sk base [some (.slice a l.length l.length),some (.int .i64 v),some (.int .i64 (l.length:Int))] h) λo=>o=(2,[some (.slice a l.length l.length),some (.int .i64 v),some (.int .i64 (l.length:Int))],h) by
   obtain ⟨o,e,rfl⟩:=w
   rw [sM (aT _)]
   exact aC (by decide) e
  rw [sn]
  refine W.join (W.aU (by simp) (W.il ?_))
  refine W.a2 (W.a2 (W.a2 (W.a2 ?_)))
  exact W.aU (by decide) (W.ret rfl)
 | succ m ih=>
  intro i hi
  have aS:i<l.length:=by omega
  rw [QO aS]
  by_cases c:decide (l[i]<v)=true
  ·rw [if_pos c]
   suffices w:Wp (sk base [some (.slice a l.length l.length),some (.int .i64 v),some (.int .i64 (i:Int))] h) λo=>o=(0,[some (.slice a l.length l.length),some (.int .i64 v),some (.int .i64 ((i+1:Nat):Int))],h) by
    obtain ⟨o,e,rfl⟩:=w
    rw [bl e (ih (i+1) (by omega))]
    rw [show i+1+fI v (l.drop (i+1))=i+(fI v (l.drop (i+1))+1) by omega]
   rw [sn]
   refine W.join (W.aE (by simp;omega) (W.aE ⟨by omega,by omega⟩ ?_))
   rw [aM]
   refine W.rj hs aS ?_
   rw [c]
   refine W.il ?_
   refine W.a2 (W.a2 (W.a2 (W.a2 ?_)))
   refine W.aE rfl ?_
   rw [bm (n:=(i:Int)+1) (by omega) (by omega)]
   exact W.ret rfl
  ·rw [if_neg c]
   suffices w:Wp (sk base [some (.slice a l.length l.length),some (.int .i64 v),some (.int .i64 (i:Int))] h) λo=>o=(2,[some (.slice a l.length l.length),some (.int .i64 v),some (.int .i64 (i:Int))],h) by
    obtain ⟨o,e,rfl⟩:=w
    exact aC (by decide) e
   rw [sn]
   refine W.join (W.aE (by simp;omega) (W.aE ⟨by omega,by omega⟩ ?_))
   rw [aM]
   refine W.rj hs aS ?_
   have c':decide (l[i]<v)=false:=by simpa using c
   rw [c']
   refine W.il ?_
   refine W.a2 (W.a2 (W.a2 (W.a2 ?_)))
   exact W.aU (by decide) (W.ret rfl)
theorem D8(hl:l.length<=1000)(hs:Sl h a (iv .i64 l))(ht:kS base h a 3)(hb:base<=h.length):
  ∃ a' h',run (Et base) 108 [.slice a l.length l.length,.int .i64 v] h=some (.slice a' (pW v l).length (pW v l).length,h')/\KB bp h h'/\bQ base 3 h' a' (iv .i64 (pW v l))/\∀ b,bK a' b->h.length<=b:=by
 have d:=Hs.start hb
 suffices w:Wp (run (Et base) 108 [.slice a l.length l.length,.int .i64 v] h) λo=>∃ a',o.1 = .slice a' (pW v l).length (pW v l).length/\KB bp h o.2/\bQ base 3 o.2 a' (iv .i64 (pW v l))/\∀ b,bK a' b->h.length<=b by
  obtain ⟨⟨u,h'⟩,e,a',rfl,q⟩:=w
  exact ⟨a',h',e,q⟩
 refine W.of (λr hx=>Am.aj4 hx) ?_
 have e0:=AP (base:=base) (v:=v) hl hs l.length 0 (by omega)
 rw [cH,cQ] at e0
 refine W.bs e0 ?_
 refine W.aE rfl ?_
 ((with_reducible repeat refine W.a2 ?_))
 obtain ⟨f1,_,_⟩:=AN (v:=v) l
 refine W.jP (L:=[some (.slice a l.length l.length),some (.int .i64 v),some (.int .i64 (fI v l:Int)),some (.bool (if decide ((fI v l:Int)<(l.length:Int))=true then (l.getD (fI v l) 0==v) else false))]) (· = h) ?_ ?_
 ·refine W.ite (λc=>?_) (λc=>?_)
  ·have c1:(fI v l:Int)<(l.length:Int):=of_decide_eq_true c
   have hk:fI v l<l.length:=by omega
   ((with_reducible repeat refine W.a8 ?_))
   rw [aM]
   refine W.rj hs hk ?_
   refine W.inl ⟨?_,rfl⟩
   rw [if_pos c]
   simp [hk]
  ·refine W.inl ⟨?_,rfl⟩
   rw [if_neg c]
 rintro h1 rfl
 ((with_reducible repeat refine W.a2 ?_))
 unfold pW
 generalize fI v l=k at f1 ⊢
 refine W.ite (λc=>?_) (λc=>?_)
 ·rw [if_pos c]
  obtain ⟨a2,h2,e2,o2,k2,q2⟩:=lK (base:=base) hs (by omega) hb
  refine W.bs e2 ?_
  ((with_reducible repeat refine W.a2 ?_))
  exact W.ret ⟨a2,rfl,k2,o2,q2⟩
 rw [if_neg c]
 have aS:(l.take k).length=k:=by simp;omega
 have Ey:Sl h1 (dm a (0*1)) (iv .i64 (l.take k)):=by
  have:=hs.part (n:=0) (m:=k) (by simp;omega)
  rw [cH] at this
  rw [show (iv .i64 l).take k=iv .i64 (l.take k) from by simp [iv,List.map_take]] at this
  exact this
 refine W.aE ⟨by omega,by omega,by show (k:Int)<=(l.length:Int);omega,ht.ok _⟩ ?_
 obtain ⟨a2,h2,e2,o2,k2,q2⟩:=lK (base:=base) Ey (by omega) hb
 rw [aS] at e2
 refine W.bs e2 ?_
 have d:=d.call k2 (bK a2) (λy=>bQ base 3 y a2 (iv .i64 (l.take k))) o2 (λU y y' ky hs x=>x.ax ky hs) (λb hb=>⟨q2 b hb,(o2.lt hb).2⟩)
 ((try simp only [n1,n2,n3,n4,n5,n6] at d);(with_reducible repeat refine W.a2 ?_);(refine W.nD d λh3 d _ Ep=>?_))
 obtain ⟨a4,h4,e4,d,k4⟩:=d.YG (i:=0) (m:=1) (new:=[v]) (l:=l.take k) rfl (by
  have:=(d.ol (.head _):bQ base 3 h3 (ap h2.length) [.int .i64 v]).sl.BK (by rfl)
  simpa [iv] using this) rfl (by omega)
 rw [aS] at e4
 refine W.bs e4 ?_
 ((try simp only [n1,n2,n3,n4,n5,n6] at d);(with_reducible repeat refine W.a2 ?_))
 have tI:∀ b,bK a b->¬bK a2 b:=λb kg M9=>by have:=ht.lt b kg;have:=q2 b M9;omega
 have Ft:KB bp h1 h3:=KB.trans k2 Ep (λ_ _ h=>h) (λ_ _ h=>h)
 have IW:KB (bK a2) h1 h4:=KB.trans Ft k4 (λ_ _ h=>h.elim) (λ_ _ h=>h)
 refine W.gt (ht.ne k2.1) (W.gt ((ht.aj Ft).Ho k4 tI) (W.gt (ht.Ho IW tI) ?_))
 refine W.aE ⟨by omega,by show (k:Int)<=(l.length:Int);omega,gb _,(ht.ax IW tI).ok _⟩ ?_
 have hs4:Sl h4 a (iv .i64 l):=hs.ax IW tI
 have jC:br h4 (dm a (af (k:Int)*1)) ((af (l.length:Int)-af (k:Int))*1)=some (iv .i64 (l.drop k)):=by
  rw [aM,aM,kh,kh,kW hs4 (t_ _ _) (by simp;omega)]
  congr 1
  rw [cG (by simp)]
  simp [iv,List.map_drop]
 obtain ⟨a5,h5,e5,d,k5⟩:=d.YG (i:=0) (m:=af (l.length:Int)-af (k:Int)) (new:=l.drop k) (l:=l.take k++[v]) rfl jC (by simp) (by simp;omega)
 have el:(l.take k++[v]).length=k+1:=by simp;omega
 rw [el] at e5
 refine W.bs e5 ?_
 ((try simp only [n1,n2,n3,n4,n5,n6] at d);(with_reducible repeat refine W.a2 ?_))
 have o5:bQ base 3 h5 a5 (iv .i64 ((l.take k++[v])++l.drop k)):=d.rs (i:=0) rfl
 rw [List.append_assoc,List.singleton_append] at o5
 have el2:(l.take k++v :: l.drop k).length=k+1+(af (l.length:Int)-af (k:Int)):=by simp;omega
 exact W.ret ⟨a5,by rw [el2],d.kb,o5,λb hb=>(d.Ab (i:=0) rfl rfl b hb).resolve_left λh=>h⟩
theorem NZ{ai:List Ac}{h0:AH}(d:Hs base V h0 h D [jg base F S ai b])(hi:i<ai.length)(th:ai[i].aw.length<=1000)(hw:pW v ai[i].aw=gK v ai[i].aw):
  ∃ ad lk a' h1 h2 S',b=some ad/\Am.cell h ad.block (ad.off+i*5+4)=some (.slice lk ai[i].aw.length ai[i].aw.length)/\run (Et base) 108 [.slice lk ai[i].aw.length ai[i].aw.length,.int .i64 v] h=some (.slice a' (gK v ai[i].aw).length (gK v ai[i].aw).length,h1)/\Hs base V h0 h1 D [jg base F S ai b]/\Am.wr base h1 ad.block (ad.off+i*5+4) [.slice a' (gK v ai[i].aw).length (gK v ai[i].aw).length]=some h2/\Hs base V h0 h2 D [jg base F S' (ai.set i (jY v ai[i])) b]/\KB S h1 h2:=by
 have nP:=d.fK (i:=0) rfl
 have row:a_ base 53 5 (b_ base F) S h ai b:=d.rs (i:=0) rfl
 obtain ⟨C,OJ,ad,hA,nI,rfl,cells,oX,pA,wi,mod⟩:=row.mod (b_.kp _ _) (by decide) hi nP
 obtain ⟨rc,e4,ol⟩:=hA.aw
 obtain ⟨a2,h2,e2,k2,o2,f2⟩:=D8 (base:=base) (v:=v) th ol.sl (kS.own ol) d.ge
 rw [hw] at e2 o2
 have d1:=d.kN k2
 have d2:=d.call k2 (bK a2) (λy=>bQ base 3 y a2 (iv .i64 (gK v ai[i].aw))) o2 (λU y y' k hs x=>bQ.ax x k hs) (λb hb=>⟨f2 b hb,(o2.lt hb).2⟩)
 obtain ⟨h3,e3,r3,k3,z3⟩:=mod bp (λb=>C b\/bK a2 b) h2 _ [.slice a2 (gK v ai[i].aw).length (gK v ai[i].aw).length] 4 (jY v ai[i]) k2 (λb h=>(h:False).elim) (aT 5) (by simp) rfl (λh4 k4=>b_.rn hA (KB.trans (T:=(· = ad.block)) k2 k4 (λ_ _ h=>(h:False).elim) λ_ _ h=>h) (λb hb e=>wi (e ▸ hb)) ((d2.rs (i:=1) rfl:bQ base 3 h2 a2 _).ax k4 λb hb e=>by have:=f2 b hb;have:=nP _ pA;omega) (λb hb hc=>by have:=f2 b hb;have:=nP _ (oX b hc);omega)) (λb hb hs=>hb.resolve_right λhc=>by have:=f2 b hc;have:=nP _ hs;omega)
 refine ⟨ad,rc,a2,h2,h3,(λb=>S b\/C b\/bK a2 b),rfl,cells 4 _ e4,e2,d1,e3,?_,k3.mono λb _ h=>(show S b from (show b=ad.block from h) ▸ pA)⟩
 exact (d2.oT (b_.kp _ _) (fz.at (i:=1) rfl) (fz.at (i:=0) rfl) rfl rfl (k3.mono λb _ h=>h) r3 (λb hb=>.inl (hb ▸ pA)) (λb hb=>hb.elim .inl λhb=>hb.elim (λhb=>.inl (oX b hb)) λhb=>.inr (.inl hb))).kP 1
theorem AQ{other:Int}{h0:AH}(hn:P.ai.length<=1048576)(th:∀ A∈P.ai,pL A.aw A.pid=true)(pV:¬bX pid 0 P.ai<0)(d:Hs base V h0 h [(pb,32,dK a P.code.length b P.ai.length P.next g P.out.length)] [jg base F S P.ai b]):
  Wp (run (Et base) 69 [.pointer (ap pb),.int .i64 pid,.int .i64 other] h) λr=>r.1 = .tuple #[]/\∃ S',Hs base V h0 r.2 [(pb,32,dK a P.code.length b P.ai.length P.next g P.out.length)] [jg base F S' (nH pid other P.ai) b]:=by
 have hlen:∀ A∈P.ai,A.aw.length<=1000:=λA hA=>by have:=(gf.1 (th A hA)).1;omega
 refine W.of (λr hx=>Am.r69 hx) ?_
 skip
 obtain ⟨h2,e2,k2⟩:=qt (base:=base) (b:=pb) (l:=P.ai) (a:=b) (v:=pid) (by omega) (a_.wj (d.rs (i:=0) rfl)) (d.au (o:=1) (by (· repeat first|exact .head _|apply List.Mem.tail)) rfl) d.ge
 have d:=d.kN k2
 refine W.bs e2 ?_
 ((with_reducible repeat refine W.a2 ?_))
 obtain ⟨h3,e3,k3⟩:=qt (base:=base) (b:=pb) (l:=P.ai) (a:=b) (v:=other) (by omega) (a_.wj (d.rs (i:=0) rfl)) (d.au (o:=1) (by (· repeat first|exact .head _|apply List.Mem.tail)) rfl) d.ge
 have d:=d.kN k3
 refine W.bs e3 ?_
 ((with_reducible repeat refine W.a2 ?_))
 have aS:=fG pid P.ai 0
 have jl:=fG other P.ai 0
 have hi:(bX pid 0 P.ai).toNat<P.ai.length:=by omega
 apply W.jb (rp pid other P.ai) d
 ·unfold rp
  refine W.aU (by simpa using pV) ?_
  refine W.ite (λc=>?_) (λc=>?_)
  ·rw [if_pos c]
   exact W.lb rfl rfl (KB.refl _ _)
  rw [if_neg c]
  have c':¬bX other 0 P.ai<0:=by simpa using c
  have hj:(bX other 0 P.ai).toNat<P.ai.length:=by omega
  refine W.ite (λc=>?_) (λc=>?_)
  ·have c:(bX other 0 P.ai==bX pid 0 P.ai)=true:=by rw [beq_iff_eq] at c ⊢;exact c.symm
   rw [if_pos c]
   exact W.lb rfl rfl (KB.refl _ _)
  have c:¬(bX other 0 P.ai==bX pid 0 P.ai)=true:=λh=>c (by rw [beq_iff_eq] at h ⊢;exact h.symm)
  rw [if_neg c]
  ((with_reducible repeat first|refine W.a1 d ?_|refine W.bo ?_|refine W.a8 ?_))
  obtain ⟨ad,x1,x2,x3,rfl,eN,g0,g1,g2,g3,g4,yN,YC⟩:=js.get (a_.wj (d.rs (i:=0) rfl)) hi
  refine W.bs rfl (W.bS g4 ?_)
  rw [aD hi]
  refine W.ite (λc=>?_) (λc=>?_)
  ·rw [if_pos c]
   exact W.lb rfl rfl (KB.refl _ _)
  rw [if_neg c]
  ((with_reducible repeat first|refine W.a1 d ?_|refine W.bo ?_|refine W.a8 ?_))
  obtain ⟨qW,x1,x2,x3,fT,eN,g0,g1,g2,g3,QJ,yN,aeF⟩:=js.get (a_.wj (d.rs (i:=0) rfl)) hj
  injection fT with fT
  subst fT
  refine W.bS QJ ?_
  rw [aD hj]
  exact W.lb rfl rfl (KB.refl _ _)
 intro h4 d nj4
 ((with_reducible repeat refine W.a2 ?_))
 unfold nH
 refine W.ite (λc=>?_) (λc=>?_)
 ·rw [if_pos c]
  exact W.ret ⟨rfl,S,d⟩
 rw [if_neg c]
 unfold rp at c
 have c1:¬bX other 0 P.ai<0:=λh=>c (by rw [if_pos (decide_eq_true h)])
 have c2:¬(bX other 0 P.ai==bX pid 0 P.ai)=true:=λh=>c (by rw [if_neg (by simpa using c1),if_pos h])
 have hj:(bX other 0 P.ai).toNat<P.ai.length:=by omega
 have dv:(bX pid 0 P.ai).toNat≠(bX other 0 P.ai).toNat:=by
  intro h
  apply c2
  rw [beq_iff_eq]
  omega
 ((with_reducible repeat first|refine W.a1 d ?_|refine W.bo ?_|refine W.a8 ?_))
 obtain ⟨ad,lk,a5,h5,h6,S6,rfl,g4,e5,d5,e6,d6,k6⟩:=NZ (v:=other) d hi (hlen _ (aQ hi)) (D7 (th _ (aQ hi)))
 refine W.bo ?_
 refine W.bS g4 ?_
 refine W.bs e5 ?_
 have d:=d5
 ((with_reducible repeat first|refine W.a2 ?_|refine W.bo ?_|refine W.a6 d ?_|refine W.a8 ?_))
 refine W.bs e6 ?_
 have d:=d6
 have hj2:(bX other 0 P.ai).toNat<(P.ai.set (bX pid 0 P.ai).toNat (jY other P.ai[(bX pid 0 P.ai).toNat])).length:=by simpa using hj
 have ej:(P.ai.set (bX pid 0 P.ai).toNat (jY other P.ai[(bX pid 0 P.ai).toNat]))[(bX other 0 P.ai).toNat]=P.ai[(bX other 0 P.ai).toNat]:=by
  rw [List.getElem_set_ne dv]
 ((with_reducible repeat first|refine W.a1 d ?_|refine W.bo ?_|refine W.a8 ?_))
 obtain ⟨qW,lk2,a7,h7,h8,S8,fT,QJ,e7,d7,e8,d8,k8⟩:=NZ (v:=pid) d hj2 (by rw [ej];exact hlen _ (aQ hj)) (by rw [ej];exact D7 (th _ (aQ hj)))
 injection fT with fT
 subst fT
 rw [ej] at QJ e7 e8 d8
 refine W.bS QJ ?_
 refine W.bs e7 ?_
 have d:=d7
 ((with_reducible repeat first|refine W.a2 ?_|refine W.bo ?_|refine W.a6 d ?_|refine W.a8 ?_))
 refine W.bs e8 ?_
 have d:=d8
 rw [aD hi,aD hj]
 exact W.ret ⟨rfl,S8,d⟩
def QP(t:Tm)(A:Ac):Ac:=⟨A.pid,A.pc,A.aH,A.box++[t],A.aw⟩
theorem b_.N0{C:Fp}(x:b_ base F C h A cs):∃ b vs,cs[3]? = some (.slice b A.box.length A.box.length)/\br h b (A.box.length*4)=some vs/\vs.length=A.box.length*4/\bQ base 56 h b vs/\(∀ i,bK b i->C i) /\
  ∀ (U S':Fp) (h2:AH) (a':Option Addr) (t:Tm) (ct:List Value),KB U h h2->(∀ i,U i->C i->bK b i)->bQ base 56 h2 a' (vs++ct)->bM base F S' h2 t ct->ct.length=4->(∀ i,bK a' i->¬C i/\¬S' i)->(∀ i,S' i->¬C i)->b_ base F (λi=>C i\/bK a' i\/S' i) h2 (QP t A) (setAt cs 3 [.slice a' (A.box.length+1) (A.box.length+1)]):=by
 obtain ⟨ra,rb,rc,S1,S2,S3,rfl,q1,q2,q3,qg,t1,t2,t3,d12,d13,d23⟩:=x
 have q2':=q2
 obtain ⟨vs,T,o,hl,hb,hT,ch⟩:=q2'
 have YE:=ch.leaf (λS h x cs y=>by obtain ⟨k,n,s,a,m,rfl⟩:=bM.form y;rfl) (by decide) hl
 refine ⟨rb,vs,rfl,by rw [<- hl];exact o.sl.BK YE,hl,o,λi hi=>t2 i (hb i hi).1,?_⟩
 intro U S' h2 a' t ct k hU o2 ht hct Gi Ek
 have kU:∀ i,C i->¬bK rb i->¬U i:=λi hi hn hu=>hn (hU i hu hi)
 have q1':=q1.ax (bM.kp _ _) k λi hi hu=>by
  have H6:=hU i hu (t1 i hi)
  exact d12 i hi (hb i H6).1
 have q3':bQ base 3 h2 rc (iv .i64 A.aw):=q3.ax k λi hi hu=>by
  have H6:=hU i hu (t3 i (qg i hi))
  exact d23 i (hb i H6).1 (qg i hi)
 have ch2:bC 4 (bM base F) T h2 A.box vs:=ch.ax (bM.kp _ _) k λi hi hu=>(hb i (hU i hu (t2 i (hT i hi)))).2 hi
 have ch3:bC 4 (bM base F) (λi=>T i\/S' i) h2 (A.box++[t]) (vs++ct):=by
  refine ch2.snoc ht (λi hi hti=>Ek i hi (t2 i (hT i hti))) (λi hi=>.inl hi) (λi hi=>.inr hi) (λi hi=>?_) ?_
  ·unfold chunk
   rw [YK (by omega),List.take_append_of_le_length (by rw [uo];omega)]
  ·unfold chunk
   rw [YK (by omega),sM (by omega),kj]
   exact cG (by omega)
 refine ⟨ra,a',rc,S1,λi=>(T i\/S' i)\/bK a' i,S3,?_,q1',⟨vs++ct,λi=>T i\/S' i,o2,?_,λi hi=>⟨.inr hi,λhh=>?_⟩,λi hi=>.inl hi,ch3⟩,q3',qg,λi hi=>.inl (t1 i hi),λi hi=>?_,λi hi=>.inl (t3 i hi),λi h1 h2=>?_,λi h1 h2=>d13 i h1 h2,λi h1 h2=>?_⟩
 ·simp [QP,de,setAt]
 ·simp [QP,hl,hct];omega
 ·rcases hh with hh|hh
  ·exact (Gi i hi).1 (t2 i (hT i hh))
  ·exact (Gi i hi).2 hh
 ·rcases hi with (hi|hi)|hi
  ·exact .inl (t2 i (hT i hi))
  ·exact .inr (.inr hi)
  ·exact .inr (.inl hi)
 ·rcases h2 with (hi|hi)|hi
  ·exact d12 i h1 (hT i hi)
  ·exact Ek i hi (t1 i h1)
  ·exact (Gi i hi).1 (t1 i h1)
 ·rcases h1 with (hi|hi)|hi
  ·exact d23 i (hT i hi) h2
  ·exact Ek i hi (t3 i h2)
  ·exact (Gi i hi).1 (t3 i h2)
theorem W.qx{β:Type}{Q:β->Prop}{x y:Option β}(w:Wp y λv=>Q v/\x=some v):Wp (gate (x=y) x) Q:=by
 obtain ⟨v,e,q,ex⟩:=w
 exact W.gt (by rw [e,ex]) ⟨v,ex,q⟩
theorem Hs.kill{b t:Nat}{h0:AH}{R:List Rs}(d:Hs base V h0 h ((b,t,cs) :: D) R):Hs base V h0 (h.set b none) D R:=by
 have k:KB (· = b) h (h.set b none):=⟨by simp,λi hi hn=>by simp [bD,List.getElem?_set,show ¬b=i from λe=>hn e.symm]⟩
 have hb:=d.own _ (.head _)
 have nd:=d.nd
 rw [List.map_cons,List.nodup_cons] at nd
 refine ⟨by rw [nh];exact d.ge,?_,λx hx=>?_,nd.2,λr hr=>?_,d.dj⟩
 ·refine ⟨by rw [nh];exact d.kb.1,λi hi hn=>?_⟩
  have dv:i≠b:=λe=>by
   subst e
   rcases hb.2 with hW|hl
   ·exact hn hW
   ·exact absurd hi (Nat.not_lt.2 hl)
  rw [k.2 i (cW hi d.kb.1) dv]
  exact d.kb.2 i hi hn
 ·obtain ⟨x1,x2⟩:=d.own x (.tail _ hx)
  refine ⟨x1.ax k λi hi e=>?_,x2⟩
  rw [aG] at hi
  exact nd.1 (dR.2 ⟨x,hx,hi.symm.trans e⟩)
 ·obtain ⟨q1,q2,q3,q4,q5⟩:=d.iH r hr
  exact ⟨q2 (· = b) h _ k (λi hi e=>q5 _ (.head _) (e ▸ hi)) q1,q2,λi hi=>by rw [nh];exact q3 i hi,q4,λx hx=>q5 x (.tail _ hx)⟩
theorem N1{t bytes n:Nat}{h6 h1:AH}{c1 c2:List Value}{v:Value}(ha:∀ ad,a=some ad->ad.block<h6.length)(e:Am.app base (h6++[some ⟨c1,t⟩]) t 4 bytes a n (some c1) 1=some (v,h1)):
  ∃ L dp,h1=L++[some ⟨c1,t⟩,some ⟨dp++c1,t⟩]/\L.length=h6.length/\v = .slice (some ⟨h6.length+1,0,none⟩) (n+1) (n+1)/\dp.length=n*4/\Am.app base (h6++[some ⟨c2,t⟩]) t 4 bytes a n (some c2) 1=some (v,L++[some ⟨c2,t⟩,some ⟨dp++c2,t⟩]):=by
 unfold Am.app at e ⊢
 rw [if_neg (by decide),aJ] at e
 rw [if_neg (by decide),aJ]
 unfold grow at e ⊢
 split at e
 ·rename_i c
  rw [if_pos c]
  cases a with
  | none=>
   simp only at e ⊢
   split at e
   ·rename_i hn
    subst hn
    injection e with e
    injection e with e1 e2
    refine ⟨h6,[],by rw [<- e2];simp,rfl,by rw [<- e1];simp,rfl,?_⟩
    rw [if_pos rfl,<- e1]
    simp
   ·cases e
  | some ad=>
   have aS:=ha ad rfl
   simp only at e ⊢
   have g1:∀ c:List Value,bD (h6++[some ⟨c,t⟩]) ad.block=bD h6 ad.block:=λc=>by simp [bD,gE aS]
   have g2:∀ c:List Value,(h6++[some (⟨c,t⟩:df)]).set ad.block none=h6.set ad.block none++[some ⟨c,t⟩]:=λc=>by rw [HC _ _ aS]
   rw [g1,g2] at e
   rw [g1,g2]
   cases hk:bD h6 ad.block with
   | none=>rw [hk] at e;cases e
   | some k=>
    rw [hk,aJ] at e
    rw [aJ]
    split at e
    ·rename_i Qw
     rw [if_pos Qw]
     injection e with e
     injection e with e1 e2
     refine ⟨h6.set ad.block none,(k.cs.drop ad.off).take (n*4),by rw [<- e2];simp,by simp,by rw [<- e1];simp,?_,?_⟩
     ·rw [iV,uo]
      have:=Qw.2.2
      omega
     ·rw [<- e1]
      simp
    ·cases e
 ·cases e
theorem QQ{b o:Nat}{vs:List Value}{x y x' y':Option df}(e:wr base (L++[x,y]) b o vs=some h)(hb:b<L.length):∃ L',h=L'++[x,y]/\L'.length=L.length/\wr base (L++[x',y']) b o vs=some (L'++[x',y']):=by
 unfold wr at e ⊢
 split at e
 ·rename_i c
  rw [if_pos c]
  have g:∀ l:List (Option df),bD (L++l) b=bD L b:=λl=>by simp [bD,gE hb]
  rw [g] at e
  rw [g]
  cases hk:bD L b with
  | none=>rw [hk] at e;cases e
  | some k=>
   rw [hk,aJ] at e
   rw [aJ]
   split at e
   ·rename_i c2
    rw [if_pos c2]
    injection e with e
    refine ⟨L.set b (some ⟨setAt k.cs o vs,k.ty⟩),?_,by simp,?_⟩
    ·rw [<- e,HC _ _ hb]
    ·rw [HC _ _ hb]
   ·cases e
 ·cases e
theorem QR{β:Type}{x:Option β}{v:β}(w:Wp x λu=>u=v):x=some v:=by
 obtain ⟨u,e,rfl⟩:=w
 exact e
theorem N2{U:Fp}{h':AH}{b o n:Nat}(k:KB U h h')(hb:b<h.length)(hU:¬U b):bc h h' (some ⟨b,o,none⟩) n:=λad e=>by
 injection e with e
 subst e
 have hg:=k.2 b hb hU
 exact ⟨λj _=>by simp only [Am.cell,hg],by rw [hg]⟩
theorem D9{n:Nat}(hL:L.length=n)(x y z:Option df):(L++[x,y]).set n z=L++[z,y]:=by
 subst hL
 rw [uq _ _ (aT _),QS]
 rfl
theorem QT{n k t:Nat}{x:Option df}{dp z ct:List Value}(hb:base<=n+1)(hL:L.length=n)(ho:dp.length=k*4)(hz:z.length=4)(hc:ct.length=4):wr base (L++[x,some ⟨dp++z,t⟩]) (n+1) (0+k*4) ct=some (L++[x,some ⟨dp++ct,t⟩]):=by
 subst hL
 have e1:(L++[x,some (⟨dp++z,t⟩:df)])=(L++[x])++[some ⟨dp++z,t⟩]:=by simp
 have e2:L.length+1=(L++[x]).length:=by simp
 unfold wr
 rw [if_pos hb,e1,e2]
 have hg:bD ((L++[x])++[some (⟨dp++z,t⟩:df)]) (L++[x]).length=some ⟨dp++z,t⟩:=by simp [bD]
 rw [hg,aJ,if_pos (by simp [ho,hz,hc])]
 rw [uq _ _ (aT _),QS]
 have es:setAt (dp++z) (0+k*4) ct=dp++ct:=by
  unfold setAt
  rw [cQ,<- ho,List.take_left,List.drop_eq_nil_of_le (by simp [hz,hc]),Fw]
 simp only [es]
 simp
theorem AR{IU:List Value}{h0:AH}(hn:P.ai.length<=1048576)(QE:∀ A∈P.ai,A.box.length<=1048576)(hB:jJ f t)(hf:f<=F)(d:Hs base V h0 h [(pb,32,dK a P.code.length b P.ai.length P.next g P.out.length)] [pE p λy=>cD y p f t IU,jg base F S P.ai b]):
  Wp (run (Et base) 64 [.pointer (ap pb),.int .i64 pid,.agg IU.toArray] h) λr=>r.1 = .bool (!mg pid P.ai)/\∃ S',Hs base V h0 r.2 [(pb,32,dK a P.code.length b P.ai.length P.next g P.out.length)] [pE p λy=>cD y p f t IU,jg base F S' (ly pid t P.ai) b]:=by
 obtain ⟨k0,m0,s0,ta,tl,rfl⟩:=cD.form (d.rs (i:=0) rfl)
 refine W.of (λr hx=>Am.r64 hx) ?_
 ((refine W.nD d λh1 d _ vQ=>?_))
 obtain ⟨h2,e2,k2⟩:=qt (base:=base) (b:=pb) (l:=P.ai) (a:=b) (v:=pid) (by omega) (a_.wj (d.rs (i:=1) rfl)) (d.au (o:=1) (by (· repeat first|exact .head _|apply List.Mem.tail)) rfl) d.ge
 have d:=d.kN k2
 refine W.bs e2 ?_
 ((with_reducible repeat refine W.a2 ?_))
 have aS:=fG pid P.ai 0
 apply W.jb (mg pid P.ai) d
 ·unfold mg
  refine W.ite (λc=>?_) (λc=>?_)
  ·rw [if_pos c]
   exact W.lb rfl rfl (KB.refl _ _)
  ·rw [if_neg c]
   have c':¬bX pid 0 P.ai<0:=by simpa using c
   have hi:(bX pid 0 P.ai).toNat<P.ai.length:=by omega
   ((with_reducible repeat first|refine W.a1 d ?_|refine W.bo ?_|refine W.a8 ?_))
   obtain ⟨ad,x1,x2,x3,rfl,eN,g0,g1,g2,g3,g4,yN,th⟩:=js.get (a_.wj (d.rs (i:=1) rfl)) hi
   refine W.bs rfl (W.bS g3 ?_)
   rw [aD hi]
   exact W.lb rfl rfl (KB.refl _ _)
 intro h3 d n3
 ((with_reducible repeat refine W.a2 ?_))
 refine W.ite (λc=>?_) (λc=>?_)
 ·rw [c]
  refine W.ret ⟨rfl,S,?_⟩
  unfold ly
  rw [if_pos c]
  exact d.tl
 have c2:=c
 unfold mg at c2
 have c':¬bX pid 0 P.ai<0:=λh=>c2 (by rw [if_pos (decide_eq_true h)])
 have hi:(bX pid 0 P.ai).toNat<P.ai.length:=by omega
 refine W.gt ⟨⟨λi => [0, 0, 0, 4].getD i 0,λ_ => "l11_plain.go:160", .appendInPlace, by kernel_rfl⟩, t4, .bool false, by kernel_rfl, rfl, rfl, rfl⟩ ?_
 refine W.qx ?_
 have d:=d.kN (KB.push bp h3 none)
 generalize h3++[none]=hN at d ⊢
 have dN:=d
 have nP:∀ b,S b->b<hN.length:=d.fK (i:=1) rfl
 have row:a_ base 53 5 (b_ base F) S hN P.ai b:=d.rs (i:=1) rfl
 obtain ⟨C,OJ,ad,hA,nI,rfl,cells,oX,pA,wi,mod⟩:=row.mod (b_.kp _ _) (by decide) hi nP
 obtain ⟨bx,vs,e3,er,evl,oB,hbC,_⟩:=hA.N0
 have AS:=nP _ pA
 have alf:¬S pb:=(d.iH _ (.tail _ (.head _))).2.2.2.2 _ (.tail _ (.head _))
 have alI:pb<hN.length:=d.lt (.tail _ (.head _))
 ((with_reducible repeat first|refine W.a1 d ?_|refine W.bo ?_|refine W.a8 ?_))
 refine W.bS (cells 3 _ e3) ?_
 ((with_reducible repeat refine W.a1 d ?_))
 obtain ⟨cs6,h6,e6,t6,k6⟩:=cK (base:=base) f hN p t _ (d.rs (i:=0) rfl) hB d.ge (d.fK (i:=0) rfl)
 obtain ⟨x1,x2,x3,x4,x5,rfl⟩:=t6.form
 have d:=d.fb (bM.kp _ _) k6 t6
 have d6:=d
 have hk6:hN.length<=h6.length:=k6.1
 refine W.bs e6 ?_
 ((try simp only [n1,n2,n3,n4,n5,n6] at d);(with_reducible repeat refine W.a2 ?_))
 refine W.gt (N2 k6 AS (λh=>h)) ?_
 ((with_reducible repeat refine W.a6 d ?_))
 refine W.gt (ma (ru (cW AS hk6))) ?_
 ((with_reducible repeat refine W.a7 ?_))
 have d7:=d6.new 56 (ah x1 x2 x3 x4 x5)
 have hrw:br (h6++[some ⟨ah x1 x2 x3 x4 x5,56⟩]) (some ⟨h6.length,0,none⟩) (1*4)=some (ah x1 x2 x3 x4 x5):=(d7.ol (.head _)).sl.BK rfl
 have hrz:br (h6++[some ⟨ah 0 0 ⟨#[]⟩ none 0,56⟩]) (some ⟨h6.length,0,none⟩) (1*4)=some (ah 0 0 ⟨#[]⟩ none 0):=((d6.new 56 (ah 0 0 ⟨#[]⟩ none 0)).ol (.head _)).sl.BK rfl
 refine W.bs rfl ?_
 have Nk:KB bp hN (h6++[some ⟨ah x1 x2 x3 x4 x5,56⟩]):=KB.trans k6 (KB.push bp _ _) (λ_ _ h=>h) (λ_ _ h=>h)
 have eN:=QE _ (aQ hi)
 obtain ⟨a8,h8,e8,o8,k8,m8⟩:=(oB.aj Nk).app (n:=P.ai[(bX pid 0 P.ai).toNat].box.length) (m:=1) (sz:=4) (bytes:=56) evl (by decide) hrw d7.ge (by omega) (by omega) (by rfl)
 have m8:∀ b,bK a8 b->b=(h6++[some (⟨ah x1 x2 x3 x4 x5,56⟩:df)]).length:=m8.resolve_left λh=>absurd h.1 (by decide)
 have hl7:(h6++[some (⟨ah x1 x2 x3 x4 x5,56⟩:df)]).length=h6.length+1:=by simp
 refine W.bs e8 ?_
 ((with_reducible repeat refine W.a2 ?_))
 refine W.gt (N2 k8 (show pb<(h6++[some (⟨ah x1 x2 x3 x4 x5,56⟩:df)]).length by omega) (λh=>alf (oX _ (hbC _ h)))) ?_
 refine W.aE ⟨by omega,by show bX pid 0 P.ai<(P.ai.length:Int);omega⟩ ?_
 refine W.bo ?_
 have Jh:KB (bK bx) hN h8:=KB.trans Nk k8 (λ_ _ h=>h.elim) (λ_ _ h=>h)
 have nbx:∀ i,bK bx i->i<hN.length:=λi hi=>nP _ (oX _ (hbC _ hi))
 have YL:∀ i,i<hN.length->¬bK a8 i:=λi hi hh=>by have:=m8 i hh;omega
 obtain ⟨h9,e9,r9,k9,l9⟩:=mod (bK bx) (λi=>C i\/bK a8 i\/iS hN.length h6.length i) h8 _ [.slice a8 (P.ai[(bX pid 0 P.ai).toNat].box.length+1) (P.ai[(bX pid 0 P.ai).toNat].box.length+1)] 3 (QP t P.ai[(bX pid 0 P.ai).toNat]) Jh (λi hi _=>hbC i hi) (by simp) (by simp) rfl (λM9 Jf=>by
  obtain ⟨bx',ji,Zz,er',_,_,_,fin⟩:=hA.N0
  rw [e3] at Zz
  injection Zz with Zz
  injection Zz with Zz _ _
  subst Zz
  rw [er] at er'
  injection er' with er'
  subst er'
  refine fin (λi=>bK bx i\/i=ad.block) (iS hN.length h6.length) M9 a8 t (ah x1 x2 x3 x4 x5) (KB.trans Jh Jf (λ_ _ h=>.inl h) (λ_ _ h=>.inr h)) (λi hi hc=>hi.resolve_right λe=>wi (e ▸ hc)) (o8.ax Jf λi hi e=>YL ad.block AS (e ▸ hi)) ?_ rfl (λi hi=>⟨λhc=>YL i (nP _ (oX _ hc)) hi,λhh=>by have:=m8 i hi;have:=hh.2;omega⟩) (λi hi hc=>by have:=nP _ (oX _ hc);have:=hi.1;omega)
  have t8:bM base f (iS hN.length h6.length) h8 t (ah x1 x2 x3 x4 x5):=bM.kp _ _ _ _ _ _ _ _ (KB.trans (KB.push bp h6 _) k8 (λ_ _ h=>h.elim) (λ_ _ h=>h)) (λi hi hh=>by have:=nbx i hh;have:=hi.1;omega) t6
  exact (bM.kp _ _ _ _ _ _ _ _ Jf (λi hi e=>by have:=hi.1;have e:i=ad.block:=e;omega) t8).le hf) (λi hi hs=>by
  rcases hi with hi|hi|hi
  ·exact hi
  ·exact absurd hi (YL i (nP _ hs))
  ·have:=hi.1;have:=nP _ hs;omega)
 refine W.bs e9 ?_
 refine W.ret ⟨⟨?_,?_⟩,QR ?_⟩
 ·have:mg pid P.ai=false:=by simpa using c
  rw [this]
  rfl
 ·have Zr:KB (λi=>bK bx i\/i=ad.block) (h6++[some ⟨ah x1 x2 x3 x4 x5,56⟩]) h9:=KB.trans k8 k9 (λ_ _ h=>.inl h) (λ_ _ h=>.inr h)
  have d9:=d7.oT (b_.kp _ _) (fz.at (i:=2) rfl) (fz.at (i:=1) rfl) rfl rfl Zr r9 (λi hi=>.inl (hi.elim (λh=>oX _ (hbC _ h)) λh=>h ▸ pA)) (λi hi=>by
   rcases hi with hi|hi|hi|hi
   ·exact .inl hi
   ·exact .inl (oX _ hi)
   ·exact .inr (.inr ⟨Nat.le_of_eq (m8 i hi).symm,by rw [l9];exact (o8.lt hi).2⟩)
   ·exact .inr (.inl hi))
  have d10:=d9.kill
  unfold ly
  rw [if_neg c,aD hi]
  exact ⟨_,(d10.tl).kP 2⟩
 ·rw [hrw] at e8
  obtain ⟨L,dp,eh8,hL,ev8,ho,e8z⟩:=N1 (c2:=ah 0 0 ⟨#[]⟩ none 0) (λrv h=>cW (nbx _ ⟨rv,h,rfl⟩) hk6) e8
  injection ev8 with ea8 _ _
  subst eh8
  obtain ⟨L',eh9,I8,e9z⟩:=QQ (x':=some ⟨ah 0 0 ⟨#[]⟩ none 0,56⟩) (y':=some ⟨dp++ah 0 0 ⟨#[]⟩ none 0,56⟩) e9 (by omega)
  have hge:=d6.ge
  have d:=dN
  ((with_reducible repeat first|refine W.a1 d ?_|refine W.bo ?_|refine W.a8 ?_))
  refine W.bS (cells 3 _ e3) ?_
  ((with_reducible repeat refine W.a1 d ?_))
  refine W.bs e6 ?_
  have d:=d6
  ((try simp only [n1,n2,n3,n4,n5,n6] at d);(with_reducible repeat refine W.a2 ?_))
  refine W.gt (N2 k6 AS (λh=>h)) ?_
  ((with_reducible repeat first|refine W.a6 d ?_|refine W.a7 ?_))
  refine W.gt (ma (ru (cW AS hk6))) ?_
  ((with_reducible repeat refine W.a7 ?_))
  refine W.bs rfl ?_
  refine W.bs (show Am.app base _ _ 4 56 bx _ (br (h6++[some ⟨ah 0 0 ⟨#[]⟩ none 0,56⟩]) (some ⟨h6.length,0,none⟩) (1*4)) 1=_ by rw [hrz];exact e8z) ?_
  subst ea8
  ((with_reducible repeat first|refine W.a2 ?_|refine W.bo ?_|refine W.a8 ?_))
  refine W.bs e9z ?_
  refine W.aE ⟨by omega,by show ((P.ai[(bX pid 0 P.ai).toNat].box.length:Nat):Int)<((P.ai[(bX pid 0 P.ai).toNat].box.length+1:Nat):Int);omega⟩ ?_
  refine W.bo ?_
  rw [aM]
  refine W.bs (QT (t:=56) (z:=ah 0 0 ⟨#[]⟩ none 0) (ct:=ah x1 x2 x3 x4 x5) (by omega) (by omega:L'.length=h6.length) ho rfl rfl) ?_
  refine W.ret ?_
  subst eh9
  have EO:L'.length=h6.length:=by omega
  show (Value.bool true,List.set (L'++[_,_]) h6.length none)=(Value.bool true,List.set (L'++[_,_]) h6.length none)
  rw [D9 EO,D9 EO]
theorem D_{So:Fp}{l:List Tm}{h0:AH}(et:x.t = .mk k n s l)(hP:PSz P)(th:∀ A∈P.ai,pL A.aw A.pid=true)(pV:¬bX pid 0 P.ai<0)(hB:jJ (f+1) x.t)(h7:x.kind=7->jo (f+1) x.t=true)(d:Hs base V h0 h [(pb,32,dK a P.code.length b P.ai.length P.next g P.out.length)] [pE p λy=>cD y p (f+1) x.t (ah k n s ta l.length),jg base (f+1) S P.ai b,o0 base (f+1) So P.out g]):
  Wp (run (Et base) 26 [.pointer (ap pb),.int .i64 pid,.agg (i_ x.kind x.pid x.pc k n s ta l.length).toArray] h) (aeG base (f+1) pb V h0 p x.t (ah k n s ta l.length) a P.code.length (gM (f+1) pid x P)):=by
 have hlen:=hP.1
 refine W.of (λr hx=>Am.xO hx) ?_
 ((refine W.nD d λh1 d _ vQ=>?_))
 refine W.jP (L:=[some (.pointer (ap h.length))]) (λy=>∃ b' g' S' ja,Hs base V h0 y [(h.length,58,i_ x.kind x.pid x.pc k n s ta l.length),(pb,32,dK a P.code.length b' (gM (f+1) pid x P).1.ai.length (gM (f+1) pid x P).1.next g' (gM (f+1) pid x P).1.out.length)] [pE p λy=>cD y p (f+1) x.t (ah k n s ta l.length),jg base (f+1) S' (gM (f+1) pid x P).1.ai b',o0 base (f+1) ja (gM (f+1) pid x P).1.out g']/\(gM (f+1) pid x P).2=(x.kind != 2)) ?_ ?_
 ·((with_reducible repeat refine W.a1 d ?_))
  refine W.ite (λc=>?_) (λc=>?_)
  ·have c3:x.kind=3:=by simpa using c
   have ea:gM (f+1) pid x P=(⟨P.code,ly x.pid x.t P.ai,P.next,P.out⟩,true):=by
    unfold gM
    rw [if_neg (by rw [c3];decide),if_pos c]
   rw [ea]
   ((with_reducible repeat refine W.a1 d ?_))
   have d:=d.front (gJ.at (i:=1) rfl)
   have d1:=Hs.part (D1:=[_]) (R1:=[_,_]) d
   refine W.wb (AR (base:=base) (by omega) hP.2.2.2 hB (aT _) d1) ?_
   rintro ⟨u,h2⟩ ⟨y1,S',d2⟩
   simp only at y1 d2
   subst y1
   have d:=Hs.back (D1:=[_]) (R1:=[_,_]) d d2 (λr hr hm=>by
    simp only [bn,kl,or_false] at hr
    rcases hr with rfl|rfl
    ·exact ⟨_,.head _,hm,rfl⟩
    ·cases hm)
   ((try simp only [n1,n2,n3,n4,n5,n6] at d);(with_reducible repeat refine W.a2 ?_))
   refine W.inl ⟨rfl,b,g,S',So,?_,by rw [c3];rfl⟩
   have d:=d.front (gJ.at (i:=1) rfl)
   dsimp only
   rw [yg]
   exact d
  have nk3:¬(x.kind==(3:Int))=true:=c
  refine W.ite (λc=>?_) (λc=>?_)
  ·have c4:x.kind=4:=by simpa using c
   have ea:gM (f+1) pid x P=if rq P=true then (AG mq pid P,false) else (⟨P.code,P.ai++[vK (f+1) x.pid x.pc x.t],IntKind.wrap .i64 (P.next+(1:Int)),fN P.out 1 x.pid x.t⟩,true):=by
    unfold gM
    rw [if_neg (by rw [c4];decide),if_neg nk3,if_pos c]
   rw [ea]
   apply W.jb (rq P) d
   ·unfold rq
    ((with_reducible repeat first|refine W.a1 d ?_|refine W.bo ?_))
    refine W.ite (λc=>?_) (λc=>?_)
    ·rw [if_pos c]
     exact W.lb rfl rfl (KB.refl _ _)
    ·rw [if_neg c]
     ((with_reducible repeat first|refine W.a1 d ?_|refine W.bo ?_))
     exact W.lb rfl rfl (KB.refl _ _)
   intro h2 d nn2
   ((with_reducible repeat refine W.a2 ?_))
   refine W.ite (λc=>?_) (λc=>?_)
   ·rw [if_pos c]
    obtain ⟨h3,e3,k3⟩:=vD (base:=base) (h:=h2) (w:=(⟨#[102,117,108,108]⟩:ByteArray)) d.ge
    have d:=d.kN k3
    refine W.bs e3 ?_
    ((with_reducible repeat refine W.a2 ?_))
    obtain ⟨tf,bf⟩:=Vj (base:=base) (f:=f) (S:=λ_=>False) (h:=h3) (k:=2) (n:=0) (s:=(⟨#[102,117,108,108]⟩:ByteArray)) (by decide)
    have d:=d.front (gJ.at (i:=1) rfl)
    have d:=d.cJ (gJ.at (i:=2) rfl)
    have d:=d.cJ (gJ.at (i:=2) rfl)
    have d:=d.zR false (λy=>cD y (λ_=>False) (f+1) mq (ah 2 0 ⟨#[102,117,108,108]⟩ none 0)) tf.vq (λU h h' k x=>cD.ax k (λ_ h _=>h.elim) _ _ _ x)
    have d1:=Hs.part (D1:=[_]) (R1:=[_,_,_]) d
    refine W.wb (tu (base:=base) (t:=mq) bf P.ai.length P pid a b g S So _ _ _ (aT _) hP.e d1) ?_
    rintro ⟨u,h4⟩ ⟨y1,b',g',S',ja,d4⟩
    simp only at y1 d4
    subst y1
    have d:=Hs.back (D1:=[_]) (R1:=[_,_,_]) d d4 (Vg rfl rfl rfl)
    ((try simp only [n1,n2,n3,n4,n5,n6] at d);(with_reducible repeat refine W.a3 ?_))
    have eo:D4 mq=Jj 2 ⟨#[102,117,108,108]⟩:=HB (HA (F:=f+1) (by omega))
    obtain ⟨_,en⟩:=iC (D4 mq) mq P.ai.length pid P
    refine W.mp (W.ret ⟨rfl,b',g',S',ja,?_⟩)
    have d:=(d.mn 1).cJ (gJ.at (i:=3) rfl)
    have d:=d.NO (R':=[_,_,_]) ((sO [_]).append (List.sublist_cons_self _ [_,_]))
    dsimp only
    unfold AG
    rw [en,eo]
    exact d
   ·rw [if_neg c]
    have c20:P.ai.length<20/\¬P.next>=90000:=by
     unfold rq at c
     split at c
     ·exact absurd rfl c
     ·rename_i c1
      simp at c c1
      omega
    ((with_reducible repeat first|refine W.a1 d ?_|refine W.bo ?_))
    have tr:cD h2 p (f+1) x.t (ah k n s ta l.length):=d.rs (i:=0) rfl
    obtain ⟨cs3,h3,e3,t3,k3⟩:=DP (base:=base) (f:=f) h2 p x.t _ x.pid x.pc tr hB d.ge (d.fK (i:=0) rfl)
    obtain ⟨x1,x2,x3,rfl⟩:=t3.gY
    have d:=d.fb (b_.kp _ _) k3 t3
    refine W.bs e3 ?_
    ((try simp only [n1,n2,n3,n4,n5,n6] at d);(with_reducible repeat first|refine W.a2 ?_|refine W.a6 d ?_|refine W.a7 ?_);(refine W.nD d λh4 d _ kh4=>?_))
    obtain ⟨a5,h5,S5,e5,d,_,n5,_⟩:=d.qn (i:=1) (j:=3) (bytes:=88) (b_.kp _ _) rfl rfl (by decide) (.head _) rfl (by decide) rfl (by omega) (by omega)
    refine W.bs e5 ?_
    ((try simp only [n1,n2,n3,n4,n5,n6] at d);(with_reducible repeat first|refine W.a1 d ?_|refine W.a2 ?_|refine W.bo ?_|refine W.a5 d λhw d lw kw=>?_))
    obtain ⟨a7,h7,e7,r7,k7,n7⟩:=oV (base:=base) (f:=f+1) hw So P.out g 1 x.pid p x.t k n s ta l.length (d.rs (i:=2) rfl) hP.2.1 (d.rs (i:=0) rfl) hB (d.fK (i:=2) rfl) (d.fK (i:=0) rfl) d.ge
    have vU:a_ base 82 6 (gz (f+1)) So hw P.out g:=d.rs (i:=2) rfl
    obtain ⟨So2,eS⟩:∃ X:Fp,X=λb=>So b\/(hw.length<=b/\b<h7.length):=⟨_,rfl⟩
    rw [<- eS] at r7
    have d:=d.IK (gz.kp _) (fz.at (i:=2) rfl) rfl k7 r7 (λb hb=>.inl (vU.IY b hb)) (λb hb=>by rw [eS] at hb;exact hb)
    refine W.bs e7 ?_
    ((try simp only [n1,n2,n3,n4,n5,n6] at d);(with_reducible repeat first|refine W.a2 ?_|refine W.bo ?_|refine W.a5 d λhw d lw kw=>?_))
    refine W.inl ⟨rfl,a5,a7,S5,So2,?_,by rw [c4];rfl⟩
    have d:=d.front (gJ.at (i:=2) rfl)
    have d:=d.front (gJ.at (i:=2) rfl)
    have d:=(d.mn 2).kP 3
    dsimp only
    rw [List.length_append]
    exact d
  have nk4:¬(x.kind==(4:Int))=true:=c
  refine W.ite (λc=>?_) (λc=>?_)
  ·have c5:x.kind=5:=by simpa using c
   have ea:gM (f+1) pid x P=(⟨P.code,P.ai,P.next,fN P.out 2 pid x.t⟩,true):=by
    unfold gM
    rw [if_neg (by rw [c5];decide),if_neg nk3,if_neg nk4,if_pos c]
   rw [ea]
   ((with_reducible repeat first|refine W.a1 d ?_|refine W.bo ?_))
   obtain ⟨a7,h7,e7,r7,k7,n7⟩:=oV (base:=base) (f:=f+1) h1 So P.out g 2 pid p x.t k n s ta l.length (d.rs (i:=2) rfl) hP.2.1 (d.rs (i:=0) rfl) hB (d.fK (i:=2) rfl) (d.fK (i:=0) rfl) d.ge
   have vU:a_ base 82 6 (gz (f+1)) So h1 P.out g:=d.rs (i:=2) rfl
   have d:=d.IK (gz.kp _) (fz.at (i:=2) rfl) rfl k7 r7 (λb hb=>.inl (vU.IY b hb)) (λb hb=>hb)
   refine W.bs e7 ?_
   ((try simp only [n1,n2,n3,n4,n5,n6] at d);(with_reducible repeat first|refine W.a2 ?_|refine W.bo ?_|refine W.a5 d λhw d lw kw=>?_))
   exact W.inl ⟨rfl,b,a7,S,(λb=>So b\/(h1.length<=b/\b<h7.length)),d,by rw [c5];rfl⟩
  have nk5:¬(x.kind==(5:Int))=true:=c
  refine W.ite (λc=>?_) (λc=>?_)
  ·have c6:x.kind=6:=by simpa using c
   have ea:gM (f+1) pid x P=(⟨P.code,nH pid x.pid P.ai,P.next,P.out⟩,true):=by
    unfold gM
    rw [if_neg (by rw [c6];decide),if_neg nk3,if_neg nk4,if_neg nk5,if_pos c]
   rw [ea]
   ((with_reducible repeat refine W.a1 d ?_))
   have d:=d.front (gJ.at (i:=1) rfl)
   have d:=d.cJ (gJ.at (i:=1) rfl)
   have d1:=Hs.part (D1:=[_]) (R1:=[_]) d
   refine W.wb (AQ (base:=base) (by omega) th pV d1) ?_
   rintro ⟨u,h2⟩ ⟨y1,S',d2⟩
   simp only at y1 d2
   subst y1
   have d:=Hs.back (D1:=[_]) (R1:=[_]) d d2 (λr hr hm=>by
    simp only [bn,kl,or_false] at hr
    subst hr
    cases hm)
   ((try simp only [n1,n2,n3,n4,n5,n6] at d);(with_reducible repeat refine W.a3 ?_))
   refine W.inl ⟨rfl,b,g,S',So,?_,by rw [c6];rfl⟩
   have d:=(d.front (gJ.at (i:=1) rfl)).cJ (gJ.at (i:=1) rfl)
   dsimp only
   rw [yh]
   exact d
  have nk6:¬(x.kind==(6:Int))=true:=c
  refine W.ite (λc=>?_) (λc=>?_)
  ·have c7:x.kind=7:=by simpa using c
   have ea:gM (f+1) pid x P=(AG x.t pid P,false):=by
    unfold gM
    rw [if_neg (by rw [c7];decide),if_neg nk3,if_neg nk4,if_neg nk5,if_neg nk6,if_pos c]
   rw [ea]
   ((with_reducible repeat refine W.a1 d ?_))
   have d:=d.front (gJ.at (i:=1) rfl)
   have d1:=Hs.part (D1:=[_]) (R1:=[_,_,_]) d
   refine W.wb (tu (base:=base) (t:=x.t) hB P.ai.length P pid a b g S So _ _ _ (aT _) hP.e d1) ?_
   rintro ⟨u,h4⟩ ⟨y1,b',g',S',ja,d4⟩
   simp only at y1 d4
   subst y1
   have d:=Hs.back (D1:=[_]) (R1:=[_,_,_]) d d4 (Vg rfl rfl rfl)
   ((try simp only [n1,n2,n3,n4,n5,n6] at d);(with_reducible repeat refine W.a3 ?_))
   have ok7:=h7 c7
   have eo:D4 x.t=Jj k s:=by
    rw [et] at ok7 ⊢
    exact HB ok7
   obtain ⟨_,en⟩:=iC (D4 x.t) x.t P.ai.length pid P
   refine W.mp (W.ret ⟨rfl,b',g',S',ja,?_⟩)
   have d:=d.mn 1
   dsimp only
   unfold AG
   rw [en,eo]
   exact d
  have nk7:¬(x.kind==(7:Int))=true:=c
  have ea:gM (f+1) pid x P=(P,x.kind != 2):=by
   unfold gM
   by_cases c2:(x.kind==(2:Int))=true
   ·rw [if_pos c2,bne,c2];rfl
   ·rw [if_neg c2,if_neg nk3,if_neg nk4,if_neg nk5,if_neg nk6,if_neg nk7,bne]
    have:(x.kind==(2:Int))=false:=by simpa using c2
    rw [this];rfl
  rw [ea]
  exact W.inl ⟨rfl,b,g,S,So,d,rfl⟩
 rintro h9 ⟨b',g',S',ja,d,e9⟩
 ((with_reducible repeat first|refine W.a1 d ?_|refine W.a2 ?_))
 exact W.ret ⟨by rw [e9],b',g',S',ja,d.tl⟩
theorem AT{rb n:Nat}{mc:Bool}{A:AH->Prop}{h0:AH}(hA:∀ y,A y->Sl y a (cV code))(hF:6<=f+1)(hn:n<=1000000):∀ (m k:Nat) (h:AH) (b g:Option Addr) (S So:Fp) (P:Pl),k+m=n->P.code=code->GW (f+1) P->¬bX pid 0 P.ai<0->Hs base V h0 h [(pb,32,dK a P.code.length b P.ai.length P.next g P.out.length)] [⟨Sc,mc,A⟩,jg base (f+1) S P.ai b,o0 base (f+1) So P.out g] ->
  Wp (aF (LG base) [some (.pointer (ap rb)),some (.pointer (ap pb)),some (.int .i64 pid),some (.int .i64 (n:Int)),some (.int .i64 (k:Int))] h) λo=>o.1=2/\o.2.1 = [some (.pointer (ap rb)),some (.pointer (ap pb))]/\∃ b' g' S' ja,Hs base V h0 o.2.2 [(pb,32,dK a P.code.length b' (iG (f+1) pid m P).ai.length (iG (f+1) pid m P).next g' (iG (f+1) pid m P).out.length)] [⟨Sc,mc,A⟩,jg base (f+1) S' (iG (f+1) pid m P).ai b',o0 base (f+1) ja (iG (f+1) pid m P).out g']:=by
 intro m
 induction m with
 | zero=>
  intro k h b g S So P hk hc gw pV d
  suffices w:Wp (LG base [some (.pointer (ap rb)),some (.pointer (ap pb)),some (.int .i64 pid),some (.int .i64 (n:Int)),some (.int .i64 (k:Int))] h) λo=>o=(2,[some (.pointer (ap rb)),some (.pointer (ap pb))],h) by
   obtain ⟨o,e,rfl⟩:=w
   exact ⟨_,aC (by decide) e,rfl,rfl,b,g,S,So,d⟩
  rw [GI]
  exact W.aU (by simp;omega) (W.ret rfl)
 | succ m ih=>
  intro k h b g S So P hk hc gw pV d
  obtain ⟨gq,aq,eq⟩:=gw.stp hF pV
  suffices w:Wp (LG base [some (.pointer (ap rb)),some (.pointer (ap pb)),some (.int .i64 pid),some (.int .i64 (n:Int)),some (.int .i64 (k:Int))] h) λo=>o.1=(if (iX (f+1) pid P).2=true then 0 else 2)/\o.2.1=(if (iX (f+1) pid P).2=true then [some (.pointer (ap rb)),some (.pointer (ap pb)),some (.int .i64 pid),some (.int .i64 (n:Int)),some (.int .i64 ((k+1:Nat):Int))] else [some (.pointer (ap rb)),some (.pointer (ap pb))])/\∃ b' g' S' ja,Hs base V h0 o.2.2 [(pb,32,dK a P.code.length b' (iX (f+1) pid P).1.ai.length (iX (f+1) pid P).1.next g' (iX (f+1) pid P).1.out.length)] [⟨Sc,mc,A⟩,jg base (f+1) S' (iX (f+1) pid P).1.ai b',o0 base (f+1) ja (iX (f+1) pid P).1.out g'] by
   obtain ⟨⟨o1,o2,h'⟩,e,y1,y2,b',g',S',ja,d'⟩:=w
   simp only at y1 y2 d'
   rw [iG]
   cases cB:(iX (f+1) pid P).2 with
   | true=>
    rw [if_pos cB] at y1 y2
    subst y1;subst y2
    rw [<- eq] at d'
    obtain ⟨o,eo,q⟩:=ih (k+1) h' b' g' S' ja (iX (f+1) pid P).1 (by omega) (by rw [eq,hc]) gq (aq cB) d'
    refine ⟨o,bl e eo,?_⟩
    rw [eq] at q
    rw [if_pos rfl]
    exact q
   | false=>
    rw [if_neg (by rw [cB];decide)] at y1 y2
    subst y1;subst y2
    refine ⟨_,aC (by decide) e,rfl,rfl,?_⟩
    rw [if_neg (by decide)]
    exact ⟨b',g',S',ja,d'⟩
  have aS:=fG pid P.ai 0
  have hi:(bX pid 0 P.ai).toNat<P.ai.length:=by omega
  have hx:=gw.nx
  have jk:=gw.size
  have alg:=gw.len
  have g9:=gw.ac _ (aQ hi)
  obtain ⟨q1,q2,q3,q4,q5,q6,q7,q8⟩:=c_.1 g9
  have th:=(gf.1 q8).1
  have OF:x_ (f+1) P.ai[(bX pid 0 P.ai).toNat]:=⟨by omega,by omega,by omega,λt ht=>(jI (q5 t ht)).1,λt ht=>(jI (q7 t ht)).1⟩
  have hcS:∀ y,A y->Sl y a (cV P.code):=by rw [hc];exact hA
  obtain ⟨s1,s2,s3,s4⟩:=AK (next:=P.next) hF g9 (by omega)
  obtain ⟨u1,u2,u3,u4,u5,u6,u7,u8⟩:=c_.1 s1
  rw [GI]
  refine W.aE (decide_eq_true (by omega)) ?_
  skip
  obtain ⟨h2,e2,k2⟩:=qt (base:=base) (b:=pb) (l:=P.ai) (a:=b) (v:=pid) (by omega) (a_.wj (d.rs (i:=1) rfl)) (d.au (o:=1) (by (· repeat first|exact .head _|apply List.Mem.tail)) rfl) d.ge
  have d:=d.kN k2
  refine W.bs e2 ?_
  ((with_reducible repeat first|refine W.a1 d ?_|refine W.a2 ?_|refine W.a8 ?_))
  have nP:=d.fK (i:=1) rfl
  have row:a_ base 53 5 (b_ base (f+1)) S h2 P.ai b:=d.rs (i:=1) rfl
  obtain ⟨C,OJ,ad,hA,nI,rfl,cells,oX,pA,wi,mod⟩:=row.mod (b_.kp _ _) (by decide) hi nP
  have NM:=hA
  obtain ⟨ra,rb,rc,rfl⟩:=hA.gY
  refine W.bo ?_
  refine W.bI (cells 0 _ rfl) (W.bI (cells 1 _ rfl) (W.bS (cells 2 _ rfl) (W.bS (cells 3 _ rfl) (W.bS (cells 4 _ rfl) ?_))))
  ((with_reducible repeat refine W.a1 d ?_))
  have qB:=At (base:=base) (f:=f) (next:=P.next) (λx hx=>by have:=(fe gw.co).2.2 x hx;omega) (by have:=(fe gw.co).1;omega) (hcS _ (d.rs (i:=0) rfl)) OF NM (λb hb=>nP b (oX b hb)) d.ge
  have es:Hq f P.code P.ai[(bX pid 0 P.ai).toNat] P.next=dA (f+2) (P.code.getD P.ai[(bX pid 0 P.ai).toNat].pc.toNat IV) P.ai[(bX pid 0 P.ai).toNat] P.next:=by
   unfold Hq
   rw [if_neg]
   rw [g9]
   have:dx P.next 1 99999=true:=ko.2 (by omega)
   rw [this]
   decide
  rw [es] at qB
  refine W.wb qB ?_
  generalize hR:dA (f+2) (P.code.getD P.ai[(bX pid 0 P.ai).toNat].pc.toNat IV) P.ai[(bX pid 0 P.ai).toNat] P.next=R at *
  rintro ⟨v,h6⟩ ⟨cs6,kv,nv,sv,av,mv,S6,T6,rfl,gA,gT,gd,gS,gT2,kk⟩
  have eR:F' (f+1) pid P=R:=by unfold F';rw [aD hi];exact hR
  have gA:=gA.down (λt ht=>(jI (u5 t ht)).1) (λt ht=>(jI (u7 t ht)).1)
  have gT:=gT.down _ s4.b
  obtain ⟨a7,b7,g7,rfl⟩:=gA.gY
  obtain ⟨⟨kd,xp,xc,xt⟩,YM⟩:∃ x,R.2=x:=⟨_,rfl⟩
  obtain ⟨kx,nx,sx,lx⟩:=xt
  rw [YM] at gT s4
  obtain ⟨tx,et,_⟩:=gT.vq.parts
  injection et with YN et
  injection YN with _ YN
  injection et with YO et
  injection YO with _ YO
  injection et with YP et
  injection YP with YP
  injection et with YQ et
  injection YQ with YQ et5
  subst YN;subst YO;subst YP;subst YQ;subst et5
  have d:=d.call2 kk S6 T6 (λy=>b_ base (f+1) S6 y R.1 _) (λy=>bM base (f+1) T6 y _ _) gA gT (λU y y' k hs x=>b_.kp _ _ _ U y y' _ _ k hs x) (λU y y' k hs x=>bM.kp _ _ _ U y y' _ _ k hs x) gS gT2 gd
  rw [YM]
  have YR:h2.length<=h6.length:=kk.1
  have AS:=nP _ pA
  ((try simp only [n1,n2,n3,n4,n5,n6] at d);(with_reducible repeat first|refine W.a2 ?_|refine W.a3 ?_|refine W.a7 ?_))
  refine W.gt (ma (ru (cW AS YR))) ?_
  ((with_reducible repeat refine W.a7 ?_);(refine W.nD d λh7 d _ Zx=>?_);(with_reducible repeat refine W.a7 ?_))
  have alh:h6.length<=h7.length:=Zx.1
  refine W.gt (ma (ru (show ad.block<h7.length by omega))) ?_
  ((with_reducible repeat refine W.a7 ?_);(refine W.nD d λh8 d _ kh8=>?_);(with_reducible repeat first|refine W.a1 d ?_|refine W.bo ?_|refine W.a5 d λhw d lw kw=>?_|refine W.a8 ?_))
  have AD:a_ base 53 5 (b_ base (f+1)) S hw P.ai (some ad):=d.rs (i:=1) rfl
  obtain ⟨C2,csB,qW,hA2,ali,fT,YS,alj,alk,alm,YT⟩:=AD.mod (b_.kp _ _) (by decide) hi (d.fK (i:=1) rfl)
  injection fT with fT
  subst fT
  obtain ⟨rd,re,rf,rfl⟩:=hA2.gY
  have gA2:b_ base (f+1) S6 hw R.1 _:=d.rs (i:=3) rfl
  obtain ⟨h9,e9,r9,k9,l9⟩:=YT bp S6 hw _ (de R.1.pid R.1.pc a7 R.1.aH.length b7 R.1.box.length g7 R.1.aw.length) 0 R.1 (KB.refl _ _) (λb hb _=>hb.elim) (aT 5) (QU 4) (by rfl) (λh4 k4=>b_.kp _ _ _ _ _ _ _ _ k4 (λb hb e=>by
   have e:b=ad.block:=e
   have:=(gS b hb).1
   omega) gA2) (λb hb hs=>by have:=(gS b hb).1;have:=nP b hs;omega)
  refine W.bs e9 ?_
  have d:=d.oT (b_.kp _ _) (fz.at (i:=3) rfl) (fz.at (i:=1) rfl) rfl rfl k9 r9 (λb hb=>.inl ((show b=ad.block from hb) ▸ pA)) (λb hb=>hb.elim .inl λhb=>.inr (.inl hb))
  simp only [n1,n2,n3,n4,n5,n6] at d
  ((with_reducible repeat refine W.a1 d ?_))
  have d:=d.front (gJ.at (i:=2) rfl)
  have d:=d.cJ (gJ.at (i:=2) rfl)
  have d:=d.cJ (gJ.at (i:=2) rfl)
  have d:=d.cJ (gJ.at (i:=4) rfl)
  have d:=d.frz (λy=>cD y T6 (f+1) (.mk kv nv sv lx) (ah kv nv sv av lx.length)) (bM.vq (d.rs (i:=0) rfl)) (λU y y' k hs x=>cD.ax k hs _ _ _ x)
  have gq2:GW (f+1) ⟨P.code,P.ai.set (bX pid 0 P.ai).toNat R.1,P.next,P.out⟩:=gw.I2 s1
  have YU:¬bX pid 0 (P.ai.set (bX pid 0 P.ai).toNat R.1)<0:=pH pV (pG hi s2)
  have el:(P.ai.set (bX pid 0 P.ai).toNat R.1).length=P.ai.length:=nh ..
  rw [<- el] at d
  have d1:=Hs.part (D1:=[_]) (R1:=[_,_,_]) d
  refine W.wb (D_ (base:=base) (x:=⟨kd,xp,xc,.mk kv nv sv lx⟩) (P:=⟨P.code,P.ai.set (bX pid 0 P.ai).toNat R.1,P.next,P.out⟩) (pid:=pid) rfl gq2.size (λA hA=>(c_.1 (gq2.ac A hA)).2.2.2.2.2.2.2) YU s4.b (λe=>s4.t (by omega) (by omega) (by omega)) d1) ?_
  rintro ⟨u,iO⟩ ⟨y1,b',g',S',ja,d2⟩
  simp only at y1 d2
  subst y1
  have d:=Hs.back (D1:=[_]) (R1:=[_,_,_]) d d2 (Vg rfl rfl rfl)
  have es:iX (f+1) pid P=gM (f+1) pid ⟨kd,xp,xc,.mk kv nv sv lx⟩ ⟨P.code,P.ai.set (bX pid 0 P.ai).toNat R.1,P.next,P.out⟩:=by unfold iX;rw [eR,YM]
  rw [es]
  generalize gM (f+1) pid ⟨kd,xp,xc,.mk kv nv sv lx⟩ ⟨P.code,P.ai.set (bX pid 0 P.ai).toNat R.1,P.next,P.out⟩=Q at d ⊢
  ((try simp only [n1,n2,n3,n4,n5,n6] at d);(with_reducible repeat refine W.a2 ?_))
  refine W.ite (λc=>?_) (λc=>?_)
  ·have c:Q.2=false:=by simpa using c
   refine W.ret ⟨by simp [c],by simp [c],b',g',S',ja,?_⟩
   have d:=d.mn 1
   have d:=d.cJ (gJ.at (i:=3) rfl)
   exact d.NO (R':=[_,_,_]) ((sO [_]).append ((sO [_,_]).append (HD _) |>.cons _))
  ·have c:Q.2=true:=by simpa using c
   rw [bm (n:=(k:Int)+1) (by omega) (by omega)]
   refine W.ret ⟨by simp [c],by simp [c],b',g',S',ja,?_⟩
   have d:=d.mn 1
   have d:=d.cJ (gJ.at (i:=3) rfl)
   exact d.NO (R':=[_,_,_]) ((sO [_]).append ((sO [_,_]).append (HD _) |>.cons _))
theorem AU{n:Nat}{mc:Bool}{A:AH->Prop}{h0:AH}(hA:∀ y,A y->Sl y a (cV code))(hF:6<=f+1)(hn:n<=1000000):∀ (m k:Nat) (again:Bool) (h:AH) (b g:Option Addr) (S So:Fp) (P:Pl),k+m=n->P.code=code->GW (f+1) P->(again=true->¬bX pid 0 P.ai<0)->Hs base V h0 h [(pb,32,dK a P.code.length b P.ai.length P.next g P.out.length)] [⟨Sc,mc,A⟩,jg base (f+1) S P.ai b,o0 base (f+1) So P.out g] ->
  Wp (aF (xN base) [some (.pointer (ap pb)),some (.int .i64 (n:Int)),some (.int .i64 pid),some (.bool again),some (.int .i64 (k:Int))] h) λo=>o.1=2/\∃ b' g' S' ja,Hs base V h0 o.2.2 [(pb,32,dK a P.code.length b' (if again=true then iG (f+1) pid m P else P).ai.length (if again=true then iG (f+1) pid m P else P).next g' (if again=true then iG (f+1) pid m P else P).out.length)] [⟨Sc,mc,A⟩,jg base (f+1) S' (if again=true then iG (f+1) pid m P else P).ai b',o0 base (f+1) ja (if again=true then iG (f+1) pid m P else P).out g']:=by
 intro m
 have off:∀ (m k:Nat) (again:Bool) (h:AH) (b g:Option Addr) (S So:Fp) (P:Pl),(k=n\/again=false)->(if again=true then iG (f+1) pid m P else P)=P->k<=n->Hs base V h0 h [(pb,32,dK a P.code.length b P.ai.length P.next g P.out.length)] [⟨Sc,mc,A⟩,jg base (f+1) S P.ai b,o0 base (f+1) So P.out g] ->
  Wp (aF (xN base) [some (.pointer (ap pb)),some (.int .i64 (n:Int)),some (.int .i64 pid),some (.bool again),some (.int .i64 (k:Int))] h) λo=>o.1=2/\∃ b' g' S' ja,Hs base V h0 o.2.2 [(pb,32,dK a P.code.length b' (if again=true then iG (f+1) pid m P else P).ai.length (if again=true then iG (f+1) pid m P else P).next g' (if again=true then iG (f+1) pid m P else P).out.length)] [⟨Sc,mc,A⟩,jg base (f+1) S' (if again=true then iG (f+1) pid m P else P).ai b',o0 base (f+1) ja (if again=true then iG (f+1) pid m P else P).out g']:=by
  intro m k again h b g S So P hk e0 hkn d
  rw [e0]
  suffices w:Wp (xN base [some (.pointer (ap pb)),some (.int .i64 (n:Int)),some (.int .i64 pid),some (.bool again),some (.int .i64 (k:Int))] h) λo=>o=(2,[],h) by
   obtain ⟨o,e,rfl⟩:=w
   exact ⟨_,aC (by decide) e,rfl,b,g,S,So,d⟩
  rw [Ca]
  refine W.join (W.ite (λc=>?_) (λc=>?_))
  ·have c:(k:Int)<(n:Int):=of_decide_eq_true c
   rcases hk with hk|hk
   ·omega
   ·subst hk
    refine W.il ?_
    ((with_reducible repeat refine W.a2 ?_))
    exact W.aU (by decide) (W.ret rfl)
  ·refine W.il ?_
   ((with_reducible repeat refine W.a2 ?_))
   exact W.aU (by decide) (W.ret rfl)
 induction m with
 | zero=>
  intro k again h b g S So P hk hc gp pV d
  exact off 0 k again h b g S So P (.inl (by omega)) (by split<;>rfl) (by omega) d
 | succ m ih=>
  intro k again h b g S So P hk hc gp pV d
  cases again with
  | false=>exact off (m+1) k false h b g S So P (.inr rfl) (by rw [if_neg (by decide)]) (by omega) d
  | true=>
   have pV:=pV rfl
   obtain ⟨gq,aq,eq⟩:=gp.stp hF pV
   rw [if_pos rfl]
   suffices w:Wp (xN base [some (.pointer (ap pb)),some (.int .i64 (n:Int)),some (.int .i64 pid),some (.bool true),some (.int .i64 (k:Int))] h) λo=>o.1=0/\o.2.1 = [some (.pointer (ap pb)),some (.int .i64 (n:Int)),some (.int .i64 pid),some (.bool (iX (f+1) pid P).2),some (.int .i64 ((k+1:Nat):Int))]/\∃ b' g' S' ja,Hs base V h0 o.2.2 [(pb,32,dK a P.code.length b' (iX (f+1) pid P).1.ai.length (iX (f+1) pid P).1.next g' (iX (f+1) pid P).1.out.length)] [⟨Sc,mc,A⟩,jg base (f+1) S' (iX (f+1) pid P).1.ai b',o0 base (f+1) ja (iX (f+1) pid P).1.out g'] by
    obtain ⟨⟨o1,o2,h'⟩,e,y1,y2,b',g',S',ja,d'⟩:=w
    simp only at y1 y2 d'
    subst y1;subst y2
    rw [<- eq] at d'
    obtain ⟨o,eo,q⟩:=ih (k+1) (iX (f+1) pid P).2 h' b' g' S' ja (iX (f+1) pid P).1 (by omega) (by rw [eq,hc]) gq aq d'
    refine ⟨o,bl e eo,?_⟩
    rw [eq] at q
    rw [iG]
    exact q
   have hcS:∀ y,A y->Sl y a (cV P.code):=by rw [hc];exact hA
   have aS:=fG pid P.ai 0
   have hi:(bX pid 0 P.ai).toNat<P.ai.length:=by omega
   have hx:=gp.nx
   have jk:=gp.size
   have alg:=gp.len
   have g9:=gp.ac _ (aQ hi)
   obtain ⟨q1,q2,q3,q4,q5,q6,q7,q8⟩:=c_.1 g9
   have th:=(gf.1 q8).1
   have OF:x_ (f+1) P.ai[(bX pid 0 P.ai).toNat]:=⟨by omega,by omega,by omega,λt ht=>(jI (q5 t ht)).1,λt ht=>(jI (q7 t ht)).1⟩
   obtain ⟨s1,s2,s3,s4⟩:=AK (next:=P.next) hF g9 (by omega)
   obtain ⟨u1,u2,u3,u4,u5,u6,u7,u8⟩:=c_.1 s1
   rw [Ca]
   refine W.join (W.aE (decide_eq_true (by omega)) ?_)
   refine W.il ?_
   ((with_reducible repeat refine W.a2 ?_))
   refine W.aE rfl ?_
   ((with_reducible repeat first|refine W.a1 d ?_|refine W.bo ?_))
   obtain ⟨h2,e2,k2⟩:=jt (base:=base) (P:=P) (v:=pid) (a:=a) (g:=g) (by omega) (a_.wj (d.rs (i:=1) rfl)) d.ge
   have d:=d.kN k2
   refine W.bs e2 ?_
   ((with_reducible repeat first|refine W.a1 d ?_|refine W.a2 ?_|refine W.bo ?_|refine W.a8 ?_))
   have nP:=d.fK (i:=1) rfl
   have row:a_ base 53 5 (b_ base (f+1)) S h2 P.ai b:=d.rs (i:=1) rfl
   obtain ⟨C,OJ,ad,hA,nI,rfl,cells,oX,pA,wi,mod⟩:=row.mod (b_.kp _ _) (by decide) hi nP
   have NM:=hA
   obtain ⟨ra,rb,rc,rfl⟩:=hA.gY
   refine W.bo ?_
   refine W.bI (cells 0 _ rfl) (W.bI (cells 1 _ rfl) (W.bS (cells 2 _ rfl) (W.bS (cells 3 _ rfl) (W.bS (cells 4 _ rfl) ?_))))
   ((with_reducible repeat first|refine W.a1 d ?_|refine W.bo ?_))
   refine W.wb (F6 (f:=f) (next:=P.next) (hcS _ (d.rs (i:=0) rfl)) OF NM (λb hb=>nP b (oX b hb)) d.ge g9) ?_
   generalize hR:dA (f+2) (P.code.getD P.ai[(bX pid 0 P.ai).toNat].pc.toNat IV) P.ai[(bX pid 0 P.ai).toNat] P.next=R at *
   rintro ⟨v,h6⟩ ⟨cs6,kv,nv,sv,av,mv,S6,T6,rfl,gA,gT,gd,gS,gT2,kk⟩
   have eR:F' (f+1) pid P=R:=by unfold F';rw [aD hi];exact hR
   have gA:=gA.down (λt ht=>(jI (u5 t ht)).1) (λt ht=>(jI (u7 t ht)).1)
   have gT:=gT.down _ s4.b
   obtain ⟨a7,b7,g7,rfl⟩:=gA.gY
   obtain ⟨⟨kd,xp,xc,xt⟩,YM⟩:∃ x,R.2=x:=⟨_,rfl⟩
   obtain ⟨kx,nx,sx,lx⟩:=xt
   rw [YM] at gT s4
   obtain ⟨tx,et,_⟩:=gT.vq.parts
   injection et with YN et
   injection YN with _ YN
   injection et with YO et
   injection YO with _ YO
   injection et with YP et
   injection YP with YP
   injection et with YQ et
   injection YQ with YQ et5
   subst YN;subst YO;subst YP;subst YQ;subst et5
   have d:=d.call2 kk S6 T6 (λy=>b_ base (f+1) S6 y R.1 _) (λy=>bM base (f+1) T6 y _ _) gA gT (λU y y' k hs x=>b_.kp _ _ _ U y y' _ _ k hs x) (λU y y' k hs x=>bM.kp _ _ _ U y y' _ _ k hs x) gS gT2 gd
   rw [YM]
   have YR:h2.length<=h6.length:=kk.1
   have AS:=nP _ pA
   ((try simp only [n1,n2,n3,n4,n5,n6] at d);(with_reducible repeat first|refine W.a2 ?_|refine W.a3 ?_|refine W.a7 ?_))
   refine W.gt (ma (ru (cW AS YR))) ?_
   ((with_reducible repeat refine W.a7 ?_);(refine W.nD d λh7 d _ Zx=>?_);(with_reducible repeat refine W.a7 ?_))
   have alh:h6.length<=h7.length:=Zx.1
   refine W.gt (ma (ru (show ad.block<h7.length by omega))) ?_
   ((with_reducible repeat refine W.a7 ?_);(refine W.nD d λh8 d _ kh8=>?_);(with_reducible repeat first|refine W.a1 d ?_|refine W.bo ?_|refine W.a5 d λhw d lw kw=>?_|refine W.a8 ?_))
   have AD:a_ base 53 5 (b_ base (f+1)) S hw P.ai (some ad):=d.rs (i:=1) rfl
   obtain ⟨C2,csB,qW,hA2,ali,fT,YS,alj,alk,alm,YT⟩:=AD.mod (b_.kp _ _) (by decide) hi (d.fK (i:=1) rfl)
   injection fT with fT
   subst fT
   obtain ⟨rd,re,rf,rfl⟩:=hA2.gY
   have gA2:b_ base (f+1) S6 hw R.1 _:=d.rs (i:=3) rfl
   obtain ⟨h9,e9,r9,k9,l9⟩:=YT bp S6 hw _ (de R.1.pid R.1.pc a7 R.1.aH.length b7 R.1.box.length g7 R.1.aw.length) 0 R.1 (KB.refl _ _) (λb hb _=>hb.elim) (aT 5) (QU 4) (by rfl) (λh4 k4=>b_.kp _ _ _ _ _ _ _ _ k4 (λb hb e=>by
    have e:b=ad.block:=e
    have:=(gS b hb).1
    omega) gA2) (λb hb hs=>by have:=(gS b hb).1;have:=nP b hs;omega)
   refine W.bs e9 ?_
   have d:=d.oT (b_.kp _ _) (fz.at (i:=3) rfl) (fz.at (i:=1) rfl) rfl rfl k9 r9 (λb hb=>.inl ((show b=ad.block from hb) ▸ pA)) (λb hb=>hb.elim .inl λhb=>.inr (.inl hb))
   simp only [n1,n2,n3,n4,n5,n6] at d
   ((with_reducible repeat refine W.a1 d ?_))
   have d:=d.front (gJ.at (i:=2) rfl)
   have d:=d.cJ (gJ.at (i:=2) rfl)
   have d:=d.cJ (gJ.at (i:=2) rfl)
   have d:=d.cJ (gJ.at (i:=4) rfl)
   have d:=d.frz (λy=>cD y T6 (f+1) (.mk kv nv sv lx) (ah kv nv sv av lx.length)) (bM.vq (d.rs (i:=0) rfl)) (λU y y' k hs x=>cD.ax k hs _ _ _ x)
   have gq2:GW (f+1) ⟨P.code,P.ai.set (bX pid 0 P.ai).toNat R.1,P.next,P.out⟩:=gp.I2 s1
   have YU:¬bX pid 0 (P.ai.set (bX pid 0 P.ai).toNat R.1)<0:=pH pV (pG hi s2)
   have el:(P.ai.set (bX pid 0 P.ai).toNat R.1).length=P.ai.length:=nh ..
   rw [<- el] at d
   have d1:=Hs.part (D1:=[_]) (R1:=[_,_,_]) d
   refine W.wb (F9 (base:=base) (x:=⟨kd,xp,xc,.mk kv nv sv lx⟩) (P:=⟨P.code,P.ai.set (bX pid 0 P.ai).toNat R.1,P.next,P.out⟩) (pid:=pid) rfl gq2.size YU s4.b d1) ?_
   rintro ⟨u,iO⟩ ⟨y1,b',g',S',ja,d2⟩
   simp only at y1 d2
   subst y1
   have d:=Hs.back (D1:=[_]) (R1:=[_,_,_]) d d2 (Vg rfl rfl rfl)
   have es:iX (f+1) pid P=gM (f+1) pid ⟨kd,xp,xc,.mk kv nv sv lx⟩ ⟨P.code,P.ai.set (bX pid 0 P.ai).toNat R.1,P.next,P.out⟩:=by unfold iX;rw [eR,YM]
   rw [es]
   generalize gM (f+1) pid ⟨kd,xp,xc,.mk kv nv sv lx⟩ ⟨P.code,P.ai.set (bX pid 0 P.ai).toNat R.1,P.next,P.out⟩=Q at d ⊢
   ((try simp only [n1,n2,n3,n4,n5,n6] at d);(with_reducible repeat refine W.a2 ?_))
   rw [bm (n:=(k:Int)+1) (by omega) (by omega)]
   refine W.ret ⟨rfl,rfl,b',g',S',ja,?_⟩
   have d:=d.mn 1
   have d:=d.cJ (gJ.at (i:=3) rfl)
   exact d.NO (R':=[_,_,_]) ((sO [_]).append ((sO [_,_]).append (HD _) |>.cons _))
theorem Ea{n:Nat}{So:Fp}{mc:Bool}{A:AH->Prop}{h0:AH}(hA:∀ y,A y->Sl y a (cV P.code))(hF:6<=f+1)(hn:n<=1000000)(gp:GW (f+1) P)(hl:0<P.ai.length)(d:Hs base V h0 h [(pb,32,dK a P.code.length b P.ai.length P.next g P.out.length)] [⟨Sc,mc,A⟩,jg base (f+1) S P.ai b,o0 base (f+1) So P.out g]):
  Wp (run (Et base) 17 [.pointer (ap pb),.int .i64 (i:Int),.int .i64 (n:Int)] h) λo=>o.1 = .tuple #[]/\∃ b' g' S' ja,Hs base V h0 o.2 [(pb,32,dK a P.code.length b' (iG (f+1) (P.ai.getD (i % P.ai.length) a0).pid n P).ai.length (iG (f+1) (P.ai.getD (i % P.ai.length) a0).pid n P).next g' (iG (f+1) (P.ai.getD (i % P.ai.length) a0).pid n P).out.length)] [⟨Sc,mc,A⟩,jg base (f+1) S' (iG (f+1) (P.ai.getD (i % P.ai.length) a0).pid n P).ai b',o0 base (f+1) ja (iG (f+1) (P.ai.getD (i % P.ai.length) a0).pid n P).out g']:=by
 have hi:i % P.ai.length<P.ai.length:=AV _ hl
 rw [aD hi]
 refine W.of (λr hx=>Am.Ef hx) ?_
 ((with_reducible repeat first|refine W.a1 d ?_|refine W.bo ?_))
 refine W.aU (by dsimp only;omega) ?_
 have em:ga (i:Int) (P.ai.length:Int)=((i % P.ai.length:Nat):Int):=rfl
 show Wp (if 0<=ga (i:Int) (P.ai.length:Int)/\ga (i:Int) (P.ai.length:Int)<(P.ai.length:Int) then _ else _) _
 rw [em]
 refine W.aE ⟨by omega,by omega⟩ ?_
 obtain ⟨ad,x1,x2,x3,rfl,eN,g0,_⟩:=js.get (a_.wj (d.rs (i:=1) rfl)) hi
 refine W.bo ?_
 rw [aM]
 refine W.bI g0 ?_
 have pV:¬bX P.ai[i % P.ai.length].pid 0 P.ai<0:=by
  rcases gh P.ai[i % P.ai.length].pid P.ai 0 with ⟨_,h⟩|⟨k,hk,ek,_⟩
  ·exact absurd rfl (h _ (aQ hi))
  ·omega
 refine W.wb (AU (base:=base) (n:=n) (code:=P.code) hA hF hn n 0 true h (some ad) g S So P (by omega) rfl gp (λ_=>pV) d) ?_
 rintro ⟨q1,q2,h2⟩ ⟨y1,b',g',S',ja,d⟩
 simp only at y1 d
 subst y1
 exact W.aE rfl (W.ret ⟨rfl,b',g',S',ja,d⟩)
def pa(f:Nat)(P:Pl)(i n:Int):Bool:=if (!DO f P)=true then true else if decide (i<(0:Int))=true then true else if (!dx n 1 20)=true then true else ((P.ai.length:Int)==(0:Int))
def ni(f:Nat)(P:Pl)(i n:Int):Pl:=if pa f P i n=true then P else iG f (P.ai.getD (i.toNat % P.ai.length) a0).pid n.toNat P
theorem pI{i:Int}(h:¬pa f P i n=true):DO f P=true/\0<=i/\(1<=n/\n<=20)/\0<P.ai.length:=by
 unfold pa at h
 split at h
 ·exact absurd rfl h
 rename_i c1
 split at h
 ·exact absurd rfl h
 rename_i c2
 split at h
 ·exact absurd rfl h
 rename_i c3
 refine ⟨by simpa using c1,by simp at c2;omega,?_,?_⟩
 ·exact ko.1 (by simpa using c3)
 ·simp at h
  have:P.ai.length≠0:=λe=>h (iL e)
  omega
theorem Ga{l:List Ac}(hi:i<l.length):¬bX l[i].pid 0 l<0:=by
 rcases gh l[i].pid l 0 with ⟨_,h⟩|⟨k,hk,ek,_⟩
 ·exact absurd rfl (h _ (aQ hi))
 ·omega
theorem yn(hF:6<=f){i:Int}:(ni f P i n).code=P.code:=by
 unfold ni
 split
 ·rfl
 ·rename_i c
  obtain ⟨h1,h2,h3,h4⟩:=pI c
  have hi:i.toNat % P.ai.length<P.ai.length:=AV _ h4
  rw [aD hi]
  exact (GW.run hF _ (GW.of h1) (Ga hi)).2
theorem QV(hF:6<=f){i:Int}(hB:Nx f P)(hP:El f P<=20000000):Nx f (ni f P i n)/\0<=El f (ni f P i n)/\El f (ni f P i n)<=200000000:=by
 have nn:∀ Q:Pl,0<=El f Q:=λQ=>by
  have:=pC f Q.ai
  have:0<=rI f Q.out:=by unfold rI;omega
  unfold El;omega
 unfold ni
 split
 ·exact ⟨hB,nn _,by omega⟩
 ·rename_i c
  obtain ⟨h1,h2,h3,h4⟩:=pI c
  have hi:i.toNat % P.ai.length<P.ai.length:=AV _ h4
  rw [aD hi]
  exact (GW.run hF _ (GW.of h1) (Ga hi)).1.mc
theorem sP{i:Int}(hF:6<=f+1)(hB:Nx (f+1) P)(x:tL h p (f+1) P cs)(hp:∀ b,p b->b<h.length)(hb:base<=h.length):
  Wp (run (Et base) 5 [.agg cs.toArray,.int .i64 i,.int .i64 n] h) λo=>∃ fy,o.1 = .tuple #[.agg fy.toArray,.bool (!pa (f+1) P i n)]/\lJ base (f+1) (iS h.length o.2.length) o.2 (ni (f+1) P i n) fy/\KB bp h o.2:=by
 have x0:=x
 obtain ⟨a,b,g,rfl,hc,BL,ha,ho⟩:=x0
 have d:=(Hs.start hb).IJ p (λy=>tL y p (f+1) P _) x (λU h h' k hs x=>tL.ax k hs x) hp (λx hx=>nomatch hx) rfl
 refine W.of (λr hx=>Am.r5 hx) ?_
 ((try simp only [n1,n2,n3,n4,n5,n6] at d);(refine W.nD d λh1 d _ vQ=>?_);(refine W.nD d λh2 d _ U'=>?_);(with_reducible repeat refine W.a1 d ?_))
 obtain ⟨U6,h4,e4,g4,k4⟩:=DU (base:=base) hB (d.rs (i:=0) rfl) (d.fK (i:=0) rfl) d.ge
 have n4:=k4.1
 obtain ⟨a4,b4,c4,S1,S2,S3,rfl,o1,YV,o2,o3,s1,s2,s3,d12,d13,d23⟩:=g4
 have d:=d.call3 k4 S1 S2 S3 (λy=>bQ base 89 y a4 (cV P.code)) (λy=>a_ base 53 5 (b_ base (f+1)) S2 y P.ai b4) (λy=>a_ base 82 6 (gz (f+1)) S3 y P.out c4) o1 o2 o3 (λU h h' k hs x=>bQ.ax x k λb hb=>hs b (YV b hb)) (λU h h' k hs x=>a_.ax (b_.kp _ _) x k hs) (λU h h' k hs x=>a_.ax (gz.kp _) x k hs) s1 s2 s3 d12 d13 d23
 refine W.bs e4 ?_
 ((try simp only [n1,n2,n3,n4,n5,n6] at d);(with_reducible repeat refine W.a2 ?_);(refine W.nD d λh5 d _ kh5=>?_);(with_reducible repeat refine W.a5 d λhw d lw kw=>?_))
 apply W.jb (pa (f+1) P i n) d
 ·unfold pa
  ((try simp only [n1,n2,n3,n4,n5,n6] at d);(with_reducible repeat refine W.a1 d ?_))
  obtain ⟨h6,e6,k6⟩:=tP (base:=base) hB.M (d.rs (i:=0) rfl) d.ge
  have d:=d.kN k6
  refine W.bs e6 ?_
  ((with_reducible repeat refine W.a2 ?_))
  refine W.ite (λc=>?_) (λc=>?_)
  ·rw [if_pos c]
   exact W.lb rfl rfl k6
  rw [if_neg c]
  refine W.ite (λc=>?_) (λc=>?_)
  ·rw [if_pos c]
   exact W.lb rfl rfl k6
  rw [if_neg c]
  refine W.bs cU ?_
  ((with_reducible repeat refine W.a2 ?_))
  refine W.ite (λc=>?_) (λc=>?_)
  ·rw [if_pos c]
   exact W.lb rfl rfl k6
  rw [if_neg c]
  ((with_reducible repeat refine W.a1 d ?_))
  exact W.lb rfl rfl k6
 intro h6 d n6'
 ((try simp only [n1,n2,n3,n4,n5,n6] at d);(with_reducible repeat refine W.a2 ?_))
 refine W.ite (λc=>?_) (λc=>?_)
 ·((with_reducible repeat first|refine W.a1 d ?_|refine W.a5 d λhw d lw kw=>?_))
  refine W.ret ⟨_,by rw [c];rfl,?_,d.kb⟩
  unfold ni
  rw [if_pos c]
  exact lJ.of d (i:=1) (j:=2) (k:=3) (by decide) (by decide) (by decide) rfl YV rfl rfl
 ·have cn:pa (f+1) P i n=false:=by simpa using c
  obtain ⟨q1,q2,q3,q4⟩:=pI c
  obtain ⟨i,rfl⟩:=Gb q2
  obtain ⟨n,rfl⟩:=Gb (show 0<=n by omega)
  have er:ni (f+1) P (i:Int) (n:Int)=iG (f+1) (P.ai.getD (i % P.ai.length) a0).pid n P:=by unfold ni;rw [if_neg c,aM,aM]
  have ec:(ni (f+1) P (i:Int) (n:Int)).code=P.code:=yn hF
  skip
  have d:=((d.cJ (gJ.at (i:=3) rfl)).cJ (gJ.at (i:=3) rfl)).cJ (gJ.at (i:=3) rfl)
  have d1:=Hs.part (D1:=[_]) (R1:=[_,_,_]) d
  refine W.wb (Ea (base:=base) (i:=i) (n:=n) (λy x=>x.sl) hF (by omega) (GW.of q1) q4 d1) ?_
  rw [<- er]
  rintro ⟨u,h7⟩ ⟨y1,b',g',S',ja,d7⟩
  simp only at y1 d7
  subst y1
  have d:=Hs.back (D1:=[_]) (R1:=[_,_,_]) d d7 (λr hr hm=>by
   simp only [bn,kl,or_false] at hr
   rcases hr with rfl|rfl|rfl<;>cases hm)
  generalize ni (f+1) P (i:Int) (n:Int)=Q at d ec ⊢
  ((try simp only [n1,n2,n3,n4,n5,n6] at d);(with_reducible repeat first|refine W.a1 d ?_|refine W.a3 ?_|refine W.a5 d λhw d lw kw=>?_))
  refine W.ret ⟨_,by rw [cn];rfl,?_,d.kb⟩
  have G:=lJ.of (P:=Q) d (i:=0) (j:=1) (k:=2) (by decide) (by decide) (by decide) (by rw [ec];rfl) YV rfl rfl
  rw [ec] at G
  exact G
theorem mr{i:Int}(hF:6<=f+1)(hB:Nx (f+1) P)(x:tL h p (f+1) P cs)(hp:∀ b,p b->b<h.length)(hb:base<=h.length):
  Wp (run (Et base) 7 [.agg cs.toArray,.int .i64 i,.int .i64 n] h) λo=>∃ fy,o.1 = .tuple #[.agg fy.toArray,.bool (!pa (f+1) P i n)]/\lJ base (f+1) (iS h.length o.2.length) o.2 (ni (f+1) P i n) fy/\KB bp h o.2:=by
 have x0:=x
 obtain ⟨a,b,g,rfl,hc,BL,ha,ho⟩:=x0
 have d:=(Hs.start hb).IJ p (λy=>tL y p (f+1) P _) x (λU h h' k hs x=>tL.ax k hs x) hp (λx hx=>nomatch hx) rfl
 refine W.of (λr hx=>Am.r7 hx) ?_
 ((try simp only [n1,n2,n3,n4,n5,n6] at d);(refine W.nD d λh1 d _ vQ=>?_);(refine W.nD d λh2 d _ U'=>?_);(with_reducible repeat refine W.a1 d ?_))
 obtain ⟨U6,h4,e4,g4,k4⟩:=w_ (base:=base) hB (d.rs (i:=0) rfl) (d.fK (i:=0) rfl) d.ge
 have n4:=k4.1
 obtain ⟨a4,b4,c4,S1,S2,S3,rfl,o1,YV,o2,o3,s1,s2,s3,d12,d13,d23⟩:=g4
 have d:=d.call3 k4 S1 S2 S3 (λy=>bQ base 89 y a4 (cV P.code)) (λy=>a_ base 53 5 (b_ base (f+1)) S2 y P.ai b4) (λy=>a_ base 82 6 (gz (f+1)) S3 y P.out c4) o1 o2 o3 (λU h h' k hs x=>bQ.ax x k λb hb=>hs b (YV b hb)) (λU h h' k hs x=>a_.ax (b_.kp _ _) x k hs) (λU h h' k hs x=>a_.ax (gz.kp _) x k hs) s1 s2 s3 d12 d13 d23
 refine W.bs e4 ?_
 ((try simp only [n1,n2,n3,n4,n5,n6] at d);(with_reducible repeat refine W.a2 ?_);(refine W.nD d λh5 d _ kh5=>?_);(with_reducible repeat refine W.a5 d λhw d lw kw=>?_))
 apply W.jb (pa (f+1) P i n) d
 ·unfold pa
  ((try simp only [n1,n2,n3,n4,n5,n6] at d);(with_reducible repeat refine W.a1 d ?_))
  obtain ⟨h6,e6,k6⟩:=tQ (base:=base) hB.M (d.rs (i:=0) rfl) d.ge
  have d:=d.kN k6
  refine W.bs e6 ?_
  ((with_reducible repeat refine W.a2 ?_))
  refine W.ite (λc=>?_) (λc=>?_)
  ·rw [if_pos c]
   exact W.lb rfl rfl k6
  rw [if_neg c]
  refine W.ite (λc=>?_) (λc=>?_)
  ·rw [if_pos c]
   exact W.lb rfl rfl k6
  rw [if_neg c]
  refine W.bs eW ?_
  ((with_reducible repeat refine W.a2 ?_))
  refine W.ite (λc=>?_) (λc=>?_)
  ·rw [if_pos c]
   exact W.lb rfl rfl k6
  rw [if_neg c]
  ((with_reducible repeat refine W.a1 d ?_))
  exact W.lb rfl rfl k6
 intro h6 d n6'
 ((try simp only [n1,n2,n3,n4,n5,n6] at d);(with_reducible repeat refine W.a2 ?_))
 refine W.ite (λc=>?_) (λc=>?_)
 ·((with_reducible repeat first|refine W.a1 d ?_|refine W.a5 d λhw d lw kw=>?_))
  refine W.ret ⟨_,by rw [c];rfl,?_,d.kb⟩
  unfold ni
  rw [if_pos c]
  exact lJ.of d (i:=1) (j:=2) (k:=3) (by decide) (by decide) (by decide) rfl YV rfl rfl
 ·have cn:pa (f+1) P i n=false:=by simpa using c
  obtain ⟨q1,q2,q3,q4⟩:=pI c
  obtain ⟨i,rfl⟩:=Gb q2
  obtain ⟨n,rfl⟩:=Gb (show 0<=n by omega)
  have er:ni (f+1) P (i:Int) (n:Int)=iG (f+1) (P.ai.getD (i % P.ai.length) a0).pid n P:=by unfold ni;rw [if_neg c,aM,aM]
  have ec:(ni (f+1) P (i:Int) (n:Int)).code=P.code:=yn hF
  have hi:i % P.ai.length<P.ai.length:=AV _ q4
  rw [aD hi] at er
  ((with_reducible repeat refine W.a1 d ?_))
  refine W.aU (by dsimp only;omega) ?_
  have em:ga (i:Int) (P.ai.length:Int)=((i % P.ai.length:Nat):Int):=rfl
  show Wp (if 0<=ga (i:Int) (P.ai.length:Int)/\ga (i:Int) (P.ai.length:Int)<(P.ai.length:Int) then _ else _) _
  rw [em]
  refine W.aE ⟨by omega,by omega⟩ ?_
  have x6:tL h6 p (f+1) P (dK a P.code.length b P.ai.length P.next g P.out.length):=d.rs (i:=0) rfl
  obtain ⟨a',b',g',ev,_,_,Gi,_⟩:=x6
  have eb:b=b':=by
   injection ev with _ ev
   injection ev with ev _
   injection ev
  subst eb
  obtain ⟨ad,x1,x2,x3,rfl,eN,g0,_⟩:=js.get Gi hi
  refine W.bo ?_
  rw [aM]
  refine W.bI g0 ?_
  have d:=((d.cJ (gJ.at (i:=3) rfl)).cJ (gJ.at (i:=3) rfl)).cJ (gJ.at (i:=3) rfl)
  have d1:=Hs.part (D1:=[_]) (R1:=[_,_,_]) d
  refine W.wb (AT (base:=base) (n:=n) (code:=P.code) (λy x=>x.sl) hF (by omega) n 0 _ _ _ _ _ P (by omega) rfl (GW.of q1) (Ga hi) d1) ?_
  rw [<- er]
  rintro ⟨u,u2,h7⟩ ⟨y1,y2,b',g',S',ja,d7⟩
  simp only at y1 y2 d7
  subst y1;subst y2
  have d:=Hs.back (D1:=[_]) (R1:=[_,_,_]) d d7 (λr hr hm=>by
   simp only [bn,kl,or_false] at hr
   rcases hr with rfl|rfl|rfl<;>cases hm)
  generalize ni (f+1) P (i:Int) (n:Int)=Q at d ec ⊢
  refine W.aE rfl ?_
  ((try simp only [n1,n2,n3,n4,n5,n6] at d);(with_reducible repeat first|refine W.a1 d ?_|refine W.a2 ?_|refine W.a5 d λhw d lw kw=>?_))
  refine W.ret ⟨_,by rw [cn];rfl,?_,d.kb⟩
  have G:=lJ.of (P:=Q) d (i:=0) (j:=1) (k:=2) (by decide) (by decide) (by decide) (by rw [ec];rfl) YV rfl rfl
  rw [ec] at G
  exact G
set_option maxHeartbeats 8000000 in
theorem AW{p:Nat->Prop}{P0:Pl}{cs0:List Value}{v1:Int}{v2:Int}(hM0:IL P0)(x0:tL h p (f+1) P0 cs0)(hF:6<=f+1)(hp:∀ b,p b->b<h.length)(hb:base<=h.length):
  Wp (run (Et base) 3 [.agg cs0.toArray,.int .i64 v1,.int .i64 v2] h) λr=>r.1 = .bool true:=by
 have x0':=x0
 obtain ⟨a0,b0,g0,rfl,_⟩:=x0'
 have Gj:=hb
 have d:=Hs.start hb
 have d:=d.IJ p _ x0 (λU h h' k hs x=>tL.ax k hs x) hp (λx hx=>nomatch hx) rfl
 refine W.of (λr hx=>Am.r3 hx) ?_
 ((try simp only [n1,n2,n3,n4,n5,n6] at d);(refine W.nD d λp0 d _ kp0=>?_);(with_reducible repeat refine W.a1 d ?_))
 obtain ⟨z0,h2,e3,k4,q1⟩:=DH (base:=base) hM0 (d.rs (i:=0) rfl) d.ge (d.fK (i:=0) rfl)
 have n5:=k4.1
 have d:=d.kN k4
 refine W.bs e3 ?_
 ((with_reducible repeat refine W.a2 ?_))
 refine W.ite (λc=>W.ret rfl) (λc6=>?_)
 have c6':¬z0<0:=by simpa using c6
 obtain ⟨HE,hw0,hz0,alJ⟩:=q1 c6'
 have hL0:∀ A∈P0.ai,A.Le:=λA hA=>(HE.2.2.2.1 A hA).Le
 have hQ0:0<=El (f+1) P0/\El (f+1) P0<=20000000:=by
  have q1:=Hk (f+1) P0.ai;have q2:=pC (f+1) P0.ai;have q3:=HE.1
  unfold El rI;omega
 ((with_reducible repeat refine W.a1 d ?_))
 obtain ⟨rB,rM0,rM1⟩:=QV (i:=v1) (n:=v2) hF HE hQ0.2
 have ZA:=And.intro rM0 rM1
 generalize hR:ni (f+1) P0 v1 v2=R at rB ZA
 obtain ⟨cs7,h9,Qq,x8,mz⟩:=lv (base:=base) HE (d.rs (i:=0) rfl) d.ge (d.fK (i:=0) rfl)
 have fS:=mz.1
 obtain ⟨_,_,_,_,_,_,_,rfl⟩:=x8.form
 have d:=d.fb (lJ.kp _ _) mz x8
 refine W.bs Qq ?_
 ((try simp only [n1,n2,n3,n4,n5,n6] at d);(with_reducible repeat refine W.a2 ?_))
 have x17:lJ base (f+1) _ _ P0 _:=(d.rs (i:=1) rfl)
 refine W.wb (sP (i:=v1) (n:=v2) hF HE x17.FP (d.fK (i:=1) rfl) d.ge) ?_
 rw [hR]
 rintro ⟨u,Cn⟩ ⟨ak5,e,aeO,OI⟩
 simp only at e
 subst e
 obtain ⟨_,_,_,_,_,_,_,rfl⟩:=aeO.form
 have d:=d.fb (lJ.kp _ _) OI aeO
 have lE:_<=Cn.length:=OI.1
 ((try simp only [n1,n2,n3,n4,n5,n6] at d);(with_reducible repeat first|refine W.a2 ?_|refine W.a3 ?_))
 ((refine W.nD d λw0 d _ kw0=>?_);(with_reducible repeat first|refine W.a1 d ?_|refine W.a5 d λhw d lw kw=>?_))
 obtain ⟨alK,Y9,e22,x20,k23⟩:=lv (base:=base) HE (d.rs (i:=0) rfl) d.ge (d.fK (i:=0) rfl)
 have rD:=k23.1
 obtain ⟨_,_,_,_,_,_,_,rfl⟩:=x20.form
 have d:=d.fb (lJ.kp _ _) k23 x20
 refine W.bs e22 ?_
 ((try simp only [n1,n2,n3,n4,n5,n6] at d);(with_reducible repeat refine W.a2 ?_))
 ((refine W.nD d λx0 d _ kx0=>?_);(with_reducible repeat first|refine W.a1 d ?_|refine W.a5 d λhw d lw kw=>?_))
 have x29:lJ base (f+1) _ _ P0 _:=(d.rs (i:=3) rfl)
 refine W.wb (mr (i:=v1) (n:=v2) hF HE x29.FP (d.fK (i:=3) rfl) d.ge) ?_
 rw [hR]
 rintro ⟨u,PD⟩ ⟨alL,e,aeP,k27⟩
 simp only at e
 subst e
 obtain ⟨_,_,_,_,_,_,_,rfl⟩:=aeP.form
 have d:=d.fb (lJ.kp _ _) k27 aeP
 have xH:_<=PD.length:=k27.1
 ((try simp only [n1,n2,n3,n4,n5,n6] at d);(with_reducible repeat first|refine W.a2 ?_|refine W.a3 ?_))
 ((refine W.nD d λg0 d _ kg0=>?_);(with_reducible repeat refine W.a5 d λhw d lw kw=>?_))
 apply W.jb false d
 ·((try simp only [n1,n2,n3,n4,n5,n6] at d);(with_reducible repeat refine W.a1 d ?_))
  have x31:lJ base (f+1) _ _ R _:=(d.rs (i:=4) rfl)
  have x32:lJ base (f+1) _ _ R _:=(d.rs (i:=2) rfl)
  obtain ⟨B9,e34,U7⟩:=lu (base:=base) rB.M (λA hA=>(rB.2.2.2.1 A hA).Le) x31.FP x32.FP d.ge
  have xJ:=U7.1
  have d:=d.kN U7
  refine W.bs e34 ?_
  ((with_reducible repeat refine W.a2 ?_))
  refine W.aU (by decide) ?_
  skip
  exact W.lb rfl (by simp) U7
 intro h37 d Oi
 ((try simp only [n1,n2,n3,n4,n5,n6] at d);(with_reducible repeat refine W.a2 ?_))
 refine W.aU (by decide) ?_
 ((with_reducible repeat refine W.a1 d ?_))
 obtain ⟨alM,PI,e42,x40,k43⟩:=lv (base:=base) HE (d.rs (i:=0) rfl) d.ge (d.fK (i:=0) rfl)
 have UB:=k43.1
 obtain ⟨_,_,_,_,_,_,_,rfl⟩:=x40.form
 have d:=d.fb (lJ.kp _ _) k43 x40
 refine W.bs e42 ?_
 ((try simp only [n1,n2,n3,n4,n5,n6] at d);(with_reducible repeat first|refine W.a2 ?_|refine W.a6 d ?_))
 have x45:lJ base (f+1) _ _ P0 _:=(d.rs (i:=3) rfl)
 have x46:lJ base (f+1) _ _ P0 _:=(d.rs (i:=5) rfl)
 obtain ⟨P9,e48,k49⟩:=lu (base:=base) HE.M hL0 x45.FP x46.FP d.ge
 have Ot:=k49.1
 have d:=d.kN k49
 refine W.bs e48 ?_
 ((with_reducible repeat refine W.a2 ?_))
 refine W.aU (by decide) ?_
 ((with_reducible repeat refine W.a1 d ?_))
 have x51:lJ base (f+1) _ _ P0 _:=(d.rs (i:=3) rfl)
 obtain ⟨y52,h53,e54,_,_,_,k55⟩:=pS (base:=base) (k:=1) ⟨HE.1,HE.2.2.1,HE.2.2.2.2.1,hL0⟩ x51.plD (λb hb=>⟨gi Gj ((d.Ab (i:=3) rfl rfl b hb).resolve_left λh=>h),d.fK (i:=3) rfl b hb⟩) d.ge (by omega) (by omega)
 have On:=k55.1
 have d:=d.akS (i:=3) rfl rfl k55 (λb hb=>.inl hb)
 refine W.bs e54 ?_
 ((try simp only [n1,n2,n3,n4,n5,n6] at d);(with_reducible repeat refine W.a2 ?_))
 apply W.jb false d
 ·skip
  refine W.aU (by simp;omega) ?_
  ((with_reducible repeat refine W.a1 d ?_))
  have x57:lJ base (f+1) _ _ R _:=(d.rs (i:=4) rfl)
  have x58:lJ base (f+1) _ _ R _:=(d.rs (i:=2) rfl)
  obtain ⟨h59,e60,k61⟩:=lu (base:=base) rB.M (λA hA=>(rB.2.2.2.1 A hA).Le) x57.FP x58.FP d.ge
  have n62:=k61.1
  have d:=d.kN k61
  refine W.bs e60 ?_
  ((with_reducible repeat refine W.a2 ?_))
  refine W.aU (by decide) ?_
  skip
  exact W.lb rfl (by simp) k61
 intro Q5 d Ou
 ((with_reducible repeat refine W.a2 ?_))
 refine W.aU (by decide) ?_
 ((with_reducible repeat refine W.a1 d ?_))
 have x65:lJ base (f+1) _ _ R _:=(d.rs (i:=4) rfl)
 obtain ⟨P66,h70,e71,D69,M67,B68,k72⟩:=pS (base:=base) (k:=1) ⟨rB.1,rB.2.2.1,rB.2.2.2.2.1,(λA hA=>(rB.2.2.2.1 A hA).Le)⟩ x65.plD (λb hb=>⟨gi Gj ((d.Ab (i:=4) rfl rfl b hb).resolve_left λh=>h),d.fK (i:=4) rfl b hb⟩) d.ge (by omega) (by have:=ZA;omega)
 have Oy:=k72.1
 have d:=d.aek (Jg.kp _ _) (fz.at (i:=4) rfl) rfl k72 D69 (λb hb=>.inl hb) (λb hb=>.inl hb)
 refine W.bs e71 ?_
 ((try simp only [n1,n2,n3,n4,n5,n6] at d);(with_reducible repeat first|refine W.a1 d ?_|refine W.a2 ?_))
 have x74:Jg base (f+1) _ _ P66 _:=(d.rs (i:=4) rfl)
 obtain ⟨h75,e76,k77⟩:=pT (base:=base) B68 M67 (by omega) (by have:=ZA;omega) x74.FP d.ge
 have Y':=k77.1
 have d:=d.kN k77
 refine W.bs e76 ?_
 ((with_reducible repeat refine W.a2 ?_))
 refine W.aU (by simp;have:=ZA;omega) ?_
 skip
 refine W.aU (by simp) ?_
 ((with_reducible repeat refine W.a1 d ?_))
 obtain ⟨alN,h81,e82,x80,k83⟩:=lv (base:=base) HE (d.rs (i:=0) rfl) d.ge (d.fK (i:=0) rfl)
 have n84:=k83.1
 obtain ⟨_,_,_,_,_,_,_,rfl⟩:=x80.form
 have d:=d.fb (lJ.kp _ _) k83 x80
 refine W.bs e82 ?_
 ((try simp only [n1,n2,n3,n4,n5,n6] at d);(with_reducible repeat refine W.a2 ?_))
 have x89:lJ base (f+1) _ _ P0 _:=(d.rs (i:=6) rfl)
 refine W.wb (mr (i:=v1) (n:=v2) hF HE x89.FP (d.fK (i:=6) rfl) d.ge) ?_
 rw [hR]
 rintro ⟨u,h88⟩ ⟨alO,e,aeQ,k87⟩
 simp only at e
 subst e
 obtain ⟨_,_,_,_,_,_,_,rfl⟩:=aeQ.form
 have d:=d.fb (lJ.kp _ _) k87 aeQ
 have Jc:_<=h88.length:=k87.1
 ((try simp only [n1,n2,n3,n4,n5,n6] at d);(with_reducible repeat first|refine W.a2 ?_|refine W.a3 ?_))
 ((refine W.nD d λv0 d _ kv0=>?_);(with_reducible repeat refine W.a5 d λhw d lw kw=>?_))
 apply W.jb false d
 ·((try simp only [n1,n2,n3,n4,n5,n6] at d);(with_reducible repeat refine W.a1 d ?_))
  have x91:lJ base (f+1) _ _ R _:=(d.rs (i:=7) rfl)
  have x92:lJ base (f+1) _ _ R _:=(d.rs (i:=2) rfl)
  obtain ⟨h93,e94,k95⟩:=lu (base:=base) rB.M (λA hA=>(rB.2.2.2.1 A hA).Le) x91.FP x92.FP d.ge
  have UI:=k95.1
  have d:=d.kN k95
  refine W.bs e94 ?_
  ((with_reducible repeat refine W.a2 ?_))
  refine W.aU (by decide) ?_
  skip
  exact W.lb rfl (by simp) k95
 intro h97 d Zd
 ((try simp only [n1,n2,n3,n4,n5,n6] at d);(with_reducible repeat refine W.a2 ?_))
 refine W.aU (by decide) ?_
 ((with_reducible repeat refine W.a1 d ?_))
 have x99:Jg base (f+1) _ _ P66 _:=(d.rs (i:=4) rfl)
 obtain ⟨PL,aln,aeR⟩:=pT (base:=base) B68 M67 (by omega) (by have:=ZA;omega) x99.FP d.ge
 have uZ:=aeR.1
 have d:=d.kN aeR
 refine W.bs aln ?_
 ((with_reducible repeat refine W.a2 ?_))
 refine W.aU (by simp;have:=ZA;omega) ?_
 skip
 refine W.aU (by simp) ?_
 skip
 exact W.ret rfl
theorem vX{w:Int}(x:Rd Tryz.prog h f 26 cs)(hb:base<=h.length):∃ h',run (Et base) 3 [.agg cs.toArray,.int .i64 v,.int .i64 w] h=some (.bool true,h'):=by
 obtain ⟨g,P,hP,hM⟩:=ND x
 have hP:tL h (· < h.length) (g+9+1) P cs:=by
  obtain ⟨a,b,c,e,h1,h2,h3,h4⟩:=hP
  exact ⟨a,b,c,e,h1,h2,js.le (by omega) h3,mA.le (by omega) h4⟩
 obtain ⟨⟨v,h'⟩,e,q⟩:=AW (f:=g+9) (v1:=v) (v2:=w) hM hP (by omega) (λb hb=>hb) hb
 simp only at q
 exact ⟨h',by rw [e,q]⟩
end Go.Proofs.YtkdenmdijdmnjaaGreat.Am
