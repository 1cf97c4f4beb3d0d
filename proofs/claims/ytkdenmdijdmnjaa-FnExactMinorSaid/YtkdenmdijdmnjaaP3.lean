/- What the functions of this law compute, lemma by lemma, up to the law.
Conditions: none. -/
import Derived.Test.YtkdenmdijdmnjaaP2
import Derived.IntWalk
import Derived.Laws.BitsLemmas

set_option linter.unusedSimpArgs false
set_option linter.unusedVariables false
namespace Go.Proofs.Ytkdenmdijdmnjaa.Am
open Go Go.RowKit
structure Sw where
 old : List Int
 young : List Int
 wn : Int→Option Int
def Sw.len (σ : Sw) (o : Bool) : Nat:=if o = true then σ.old.length else σ.young.length
def Sw.app (σ : Sw) (o : Bool) (l : List Int) : Sw:=if o = true then ⟨σ.old ++ l,σ.young,σ.wn⟩ else ⟨σ.old,σ.young ++ l,σ.wn⟩
def Sw.set (σ : Sw) (o : Bool) (i : Nat) (x : Int) : Sw:=if o = true then ⟨σ.old.set i x,σ.young,σ.wn⟩ else ⟨σ.old,σ.young.set i x,σ.wn⟩
def Sw.put (σ : Sw) (p v : Int) : Sw:=⟨σ.old,σ.young,fun q=>if q = p then some v else σ.wn q⟩
def rawW (G : Gn) (w : Int) : List Int:=(List.range (wid G w).toNat).map fun (i : Nat)=>(gwd G (valW w + (i : Int))).getD 0
def isPt (w : Int) (i : Nat) : Bool:=tagW w == 5 || (tagW w == 4 && decide (0 < i))
def cpLoop (G : Gn) (w : Int) (o : Bool) (at_ : Nat) (go : Int→Sw→Int × Sw) : Nat→Nat→Sw→Sw
 | 0,_,σ=>σ
 | r + 1,i,σ=>
  if isPt w i = true then cpLoop G w o at_ go r (i + 1) ((go ((gwd G (valW w + (i : Int))).getD 0) σ).2.set o (at_ + i) (go ((gwd G (valW w + (i : Int))).getD 0) σ).1)
  else cpLoop G w o at_ go r (i + 1) (σ.set o (at_ + i) ((gwd G (valW w + (i : Int))).getD 0))
def plc (o : Bool) (n : Nat) : Int:=if o = true then (n : Int) else 100000 + (n : Int)
def toO (G : Gn) (all : Bool) (w : Int) : Bool:=all || prt G (valW w) == 1
def stay (G : Gn) (all : Bool) (w : Int) : Bool:=!leadW w || (prt G (valW w) == 0 && !all)
def cp (fill : Bool) (G : Gn) (all : Bool) : Nat→Int→Sw→Int × Sw
 | 0,w,σ=>(w,σ)
 | n + 1,w,σ=>if stay G all w = true then (w,σ) else
  match σ.wn (valW w) with
  | some v=>(mkW (tagW w) v,σ)
  | none=>(mkW (tagW w) (plc (toO G all w) (σ.len (toO G all w))),
    cpLoop G w (toO G all w) (σ.len (toO G all w)) (cp fill G all n) (wid G w).toNat 0
     ((σ.app (toO G all w) (if fill = true then rawW G w else List.replicate (wid G w).toNat 0)).put (valW w) (plc (toO G all w) (σ.len (toO G all w)))))
def cpAll (fill : Bool) (G : Gn) (all : Bool) (n : Nat) : List Int→Sw→List Int × Sw
 | [],σ=>([],σ)
 | w :: r,σ=>((cp fill G all n w σ).1 :: (cpAll fill G all n r (cp fill G all n w σ).2).1,(cpAll fill G all n r (cp fill G all n w σ).2).2)
def AgL (D : Nat→Prop) (l m : List Int) : Prop:=l.length = m.length∧∀ i,¬ D i→l[i]? = m[i]?
structure Ag (D : Bool→Nat→Prop) (σ τ : Sw) : Prop where
 o : AgL (D true) σ.old τ.old
 y : AgL (D false) σ.young τ.young
 w : σ.wn = τ.wn
theorem Ag.len {D : Bool→Nat→Prop} {σ τ : Sw} (x : Ag D σ τ) (o : Bool) : σ.len o = τ.len o:=by
 cases o
 ·exact x.y.1
 ·exact x.o.1
theorem AgL.mono {D E : Nat→Prop} {l m : List Int} (x : AgL D l m) (h : ∀ i,D i→E i) : AgL E l m:=⟨x.1,fun i hi=>x.2 i fun hd=>hi (h i hd)⟩
theorem Ag.mono {D E : Bool→Nat→Prop} {σ τ : Sw} (x : Ag D σ τ) (h : ∀ o i,D o i→E o i) : Ag E σ τ:=⟨x.o.mono (h true),x.y.mono (h false),x.w⟩
theorem AgL.set {D E : Nat→Prop} {l m : List Int} (x : AgL D l m) (j : Nat) (v : Int) (h : ∀ i,D i→i ≠ j→E i) : AgL E (l.set j v) (m.set j v):=by
 refine ⟨by simp [x.1],fun i hi=>?_⟩
 by_cases e : j = i
 ·subst e
  by_cases hj : j < l.length
  ·rw [List.getElem?_set_self hj,List.getElem?_set_self (by rw [← x.1]; exact hj)]
  ·rw [List.getElem?_eq_none (by simp; omega),List.getElem?_eq_none (by simp; rw [← x.1]; omega)]
 ·rw [List.getElem?_set_ne e,List.getElem?_set_ne e]
  exact x.2 i fun hd=>hi (h i hd (Ne.symm e))
theorem Ag.set {D E : Bool→Nat→Prop} {σ τ : Sw} (x : Ag D σ τ) (o : Bool) (j : Nat) (v : Int) (h : ∀ p i,D p i→¬ (p = o∧i = j)→E p i) : Ag E (σ.set o j v) (τ.set o j v):=by
 cases o
 ·exact ⟨x.o.mono fun i hi=>h true i hi (by simp),x.y.set j v fun i hi hne=>h false i hi (by simp; exact hne),x.w⟩
 ·exact ⟨x.o.set j v fun i hi hne=>h true i hi (by simp; exact hne),x.y.mono fun i hi=>h false i hi (by simp),x.w⟩
theorem AgL.app {D : Nat→Prop} {l m a b : List Int} (x : AgL D l m) (hl : a.length = b.length) : AgL (fun i=>D i ∨ (l.length≤i∧i < l.length + a.length)) (l ++ a) (m ++ b):=by
 refine ⟨by simp [x.1,hl],fun i hi=>?_⟩
 by_cases h1 : i < l.length
 ·rw [List.getElem?_append_left h1,List.getElem?_append_left (by rw [← x.1]; exact h1)]
  exact x.2 i fun hd=>hi (.inl hd)
 ·have h2 : ¬ i < l.length + a.length:=fun h2=>hi (.inr ⟨by omega,h2⟩)
  rw [List.getElem?_eq_none (by simp; omega),List.getElem?_eq_none (by simp; rw [← x.1,← hl]; omega)]
theorem Ag.app {D : Bool→Nat→Prop} {σ τ : Sw} (x : Ag D σ τ) (o : Bool) {a b : List Int} (hl : a.length = b.length) : Ag (fun p i=>D p i ∨ (p = o∧σ.len o≤i∧i < σ.len o + a.length)) (σ.app o a) (τ.app o b):=by
 cases o
 ·exact ⟨x.o.mono fun i hi=>.inl hi,(x.y.app hl).mono fun i hi=>hi.imp id fun h=>⟨rfl,h⟩,x.w⟩
 ·exact ⟨(x.o.app hl).mono fun i hi=>hi.imp id fun h=>⟨rfl,h⟩,x.y.mono fun i hi=>.inl hi,x.w⟩
theorem rawW_len (G : Gn) (w : Int) : (rawW G w).length = (wid G w).toNat:=by simp [rawW]
def CpAg (G : Gn) (all : Bool) (n : Nat) : Prop:=∀ (w : Int) (D : Bool→Nat→Prop) (σ τ : Sw),Ag D σ τ→(∀ o i,D o i→i < σ.len o)→(cp false G all n w σ).1 = (cp true G all n w τ).1∧Ag D (cp false G all n w σ).2 (cp true G all n w τ).2∧∀ o,σ.len o≤(cp false G all n w σ).2.len o
theorem Sw.len_set (σ : Sw) (o p : Bool) (i : Nat) (x : Int) : (σ.set o i x).len p = σ.len p:=by
 cases o <;> cases p <;> simp [Sw.set,Sw.len]
theorem Sw.len_app (σ : Sw) (o p : Bool) (l : List Int) : (σ.app o l).len p = σ.len p + if p = o then l.length else 0:=by
 cases o <;> cases p <;> simp [Sw.app,Sw.len]
theorem Sw.len_put (σ : Sw) (o : Bool) (p v : Int) : (σ.put p v).len o = σ.len o:=rfl
theorem cpLoop_ag {G : Gn} {all : Bool} {n : Nat} (ih : CpAg G all n) (w : Int) (o : Bool) (at_ : Nat) (E : Bool→Nat→Prop) : ∀ (r i : Nat) (σ τ : Sw),Ag (fun p j=>E p j ∨ (p = o∧at_ + i≤j∧j < at_ + i + r)) σ τ→(∀ p j,E p j→j < σ.len p)→at_ + i + r≤σ.len o →
  Ag E (cpLoop G w o at_ (cp false G all n) r i σ) (cpLoop G w o at_ (cp true G all n) r i τ)∧∀ p,σ.len p≤(cpLoop G w o at_ (cp false G all n) r i σ).len p
 | 0,i,σ,τ,x,hE,hl=>⟨x.mono fun p j h=>h.elim id fun h=>by omega,fun _=>Nat.le_refl _⟩
 | r + 1,i,σ,τ,x,hE,hl=>by
  rw [cpLoop,cpLoop]
  by_cases c : isPt w i = true
  ·rw [if_pos c,if_pos c]
   obtain ⟨e1,x1,l1⟩:=ih ((gwd G (valW w + (i : Int))).getD 0) _ σ τ x (fun p j h=>h.elim (hE p j) fun h=>by obtain ⟨rfl,_,h⟩:=h; omega)
   rw [← e1]
   have x2:=x1.set (E:=fun p j=>E p j ∨ (p = o∧at_ + (i + 1)≤j∧j < at_ + (i + 1) + r)) o (at_ + i) (cp false G all n ((gwd G (valW w + (i : Int))).getD 0) σ).1 (fun p j h hne=>h.imp id fun h=>⟨h.1,by have:=h.2.1; rcases Nat.lt_or_eq_of_le this with q|q; omega; exact absurd ⟨h.1,q.symm⟩ hne,by omega⟩)
   obtain ⟨y1,y2⟩:=cpLoop_ag ih w o at_ E r (i + 1) _ _ x2 (fun p j h=>by rw [Sw.len_set]; exact Nat.lt_of_lt_of_le (hE p j h) (l1 p)) (by rw [Sw.len_set]; have:=l1 o; omega)
   exact ⟨y1,fun p=>Nat.le_trans (l1 p) (by have:=y2 p; rw [Sw.len_set] at this; exact this)⟩
  ·rw [if_neg c,if_neg c]
   have x2:=x.set (E:=fun p j=>E p j ∨ (p = o∧at_ + (i + 1)≤j∧j < at_ + (i + 1) + r)) o (at_ + i) ((gwd G (valW w + (i : Int))).getD 0) (fun p j h hne=>h.imp id fun h=>⟨h.1,by have:=h.2.1; rcases Nat.lt_or_eq_of_le this with q|q; omega; exact absurd ⟨h.1,q.symm⟩ hne,by omega⟩)
   obtain ⟨y1,y2⟩:=cpLoop_ag ih w o at_ E r (i + 1) _ _ x2 (fun p j h=>by rw [Sw.len_set]; exact hE p j h) (by rw [Sw.len_set]; omega)
   exact ⟨y1,fun p=>by have:=y2 p; rw [Sw.len_set] at this; exact this⟩
theorem cp_ag {G : Gn} {all : Bool} : ∀ n,CpAg G all n
 | 0=>fun w D σ τ x _=>⟨rfl,x,fun _=>Nat.le_refl _⟩
 | n + 1=>by
  intro w D σ τ x hD
  rw [cp,cp]
  by_cases c : stay G all w = true
  ·rw [if_pos c,if_pos c]; exact ⟨rfl,x,fun _=>Nat.le_refl _⟩
  rw [if_neg c,if_neg c,← x.w]
  cases e : σ.wn (valW w) with
  | some v=>exact ⟨rfl,x,fun _=>Nat.le_refl _⟩
  | none=>
   simp only [if_true,if_neg (show ¬ (false = true) by decide)]
   rw [← x.len]
   refine ⟨rfl,?_⟩
   have x1:=x.app (toO G all w) (a:=List.replicate (wid G w).toNat 0) (b:=rawW G w) (by simp [rawW_len])
   have x2 : Ag (fun p i=>D p i ∨ (p = toO G all w∧σ.len (toO G all w) + 0≤i∧i < σ.len (toO G all w) + 0 + (wid G w).toNat)) ((σ.app (toO G all w) (List.replicate (wid G w).toNat 0)).put (valW w) (plc (toO G all w) (σ.len (toO G all w)))) ((τ.app (toO G all w) (rawW G w)).put (valW w) (plc (toO G all w) (σ.len (toO G all w)))):=by
    refine ⟨x1.o.mono fun i hi=>?_,x1.y.mono fun i hi=>?_,?_⟩
    ·simpa using hi
    ·simpa using hi
    ·have:=x1.w
     simp only [Sw.put,this]
   obtain ⟨y1,y2⟩:=cpLoop_ag (cp_ag n) w (toO G all w) (σ.len (toO G all w)) D (wid G w).toNat 0 _ _ x2 (fun p j h=>by rw [Sw.len_put,Sw.len_app]; have:=hD p j h; omega) (by rw [Sw.len_put,Sw.len_app]; simp)
   exact ⟨y1,fun p=>Nat.le_trans (by rw [Sw.len_put,Sw.len_app]; omega) (y2 p)⟩
theorem AgL.eq {l m : List Int} (x : AgL (fun _=>False) l m) : l = m:=List.ext_getElem? fun i=>x.2 i fun h=>h
theorem Ag.eq {σ τ : Sw} (x : Ag (fun _ _=>False) σ τ) : σ = τ:=by
 obtain ⟨o1,y1,w1⟩:=σ
 obtain ⟨o2,y2,w2⟩:=τ
 have e1:=x.o.eq
 have e2:=x.y.eq
 have e3:=x.w
 simp only at e1 e2 e3
 subst e1; subst e2; subst e3
 rfl
theorem cp_fill {G : Gn} {all : Bool} {n : Nat} {w : Int} {σ : Sw} : cp false G all n w σ = cp true G all n w σ:=by
 obtain ⟨h1,h2,_⟩:=cp_ag (G:=G) (all:=all) n w (fun _ _=>False) σ σ ⟨⟨rfl,fun _ _=>rfl⟩,⟨rfl,fun _ _=>rfl⟩,rfl⟩ (fun _ _ h=>h.elim)
 exact Prod.ext h1 h2.eq
theorem cpAll_fill {G : Gn} {all : Bool} {n : Nat} : ∀ (l : List Int) (σ : Sw),cpAll false G all n l σ = cpAll true G all n l σ
 | [],σ=>rfl
 | w :: r,σ=>by
  rw [cpAll,cpAll,cp_fill,cpAll_fill r]
def plI (i : Nat) : Int:=if i < 1000 then (i : Int) else 100000 + ((i : Int) - 1000)
def gone (σ : Sw) : Nat:=(List.range 2000).countP fun i=>(σ.wn (plI i)).isSome
def Sw.In (σ : Sw) : Prop:=σ.old.length + σ.young.length≤1000 + 50 * gone σ
theorem gone_le (σ : Sw) : gone σ≤2000:=Nat.le_trans List.countP_le_length (by simp)
theorem Sw.In.le {σ : Sw} (x : σ.In) (o : Bool) : σ.len o≤101000:=by
 have:=gone_le σ
 unfold Sw.In at x
 cases o
 ·show σ.young.length≤_; omega
 ·show σ.old.length≤_; omega
theorem countP_one {f g : Nat→Bool} : ∀ (l : List Nat) (j : Nat),l.Nodup→j ∈ l→f j = false→g j = true→(∀ i,i ≠ j→g i = f i)→l.countP g = l.countP f + 1
 | [],j,_,hj,_,_,_=>by cases hj
 | x :: r,j,nd,hj,hf,hg,h=>by
  rw [List.nodup_cons] at nd
  by_cases e : x = j
  ·subst e
   have hr : r.countP g = r.countP f:=List.countP_congr fun i hi=>by
    have : i ≠ x:=fun e=>nd.1 (e ▸ hi)
    rw [h i this]
   rw [List.countP_cons,List.countP_cons,hr,hf,hg]
   simp
  ·have hj' : j ∈ r:=by
    rcases List.mem_cons.1 hj with q|q
    ·exact absurd q.symm e
    ·exact q
   rw [List.countP_cons,List.countP_cons,countP_one r j nd.2 hj' hf hg h,h x e]
   omega
theorem gone_put {σ : Sw} {p v : Int} (hp : ∃ i,i < 2000∧plI i = p) (hn : σ.wn p = none) : gone (σ.put p v) = gone σ + 1:=by
 obtain ⟨j,hj,e⟩:=hp
 unfold gone
 refine countP_one _ j List.nodup_range (by simpa using hj) (by rw [e,hn]; rfl) (by simp [Sw.put,e]) fun i hi=>?_
 have hne : plI i ≠ p:=fun h=>hi (by rw [← e] at h; unfold plI at h; split at h <;> split at h <;> omega)
 simp [Sw.put,hne]
theorem wid_le {G : Gn} {w : Int} (hn : Nd G w) (hl : leadW w = true) : 1≤wid G w∧wid G w≤41:=by
 have h3 : tagW w = 4 ∨ tagW w = 5 ∨ tagW w = 6:=by
  unfold leadW inB at hl
  simp at hl
  omega
 unfold wid
 split
 ·omega
 ·rcases h3 with h|h|h
  ·obtain ⟨v,e,_⟩:=hn.2.1 h
   rw [e]; simp only [Option.getD_some]; omega
  ·omega
  ·obtain ⟨v,e,_⟩:=hn.1 h
   rw [e]; simp only [Option.getD_some]; omega
theorem Nd.some {G : Gn} {w : Int} (h : Nd G w) (hl : leadW w = true) : (gwd G (valW w)).isSome = true:=by
 have : tagW w = 4 ∨ tagW w = 5 ∨ tagW w = 6:=by
  unfold leadW inB at hl
  simp at hl
  omega
 rcases this with e|e|e
 ·obtain ⟨v,hv,_⟩:=h.2.1 e; rw [hv]; rfl
 ·exact (h.2.2 e).1
 ·obtain ⟨v,hv,_⟩:=h.1 e; rw [hv]; rfl
theorem Nd.pl {G : Gn} (ho : G.old.length≤1000) (hy : G.young.length≤1000) {w : Int} (h : Nd G w) (hl : leadW w = true) : ∃ i,i < 2000∧plI i = valW w:=by
 have hs:=h.some hl
 cases e : gwd G (valW w) with
 | none=>rw [e] at hs; cases hs
 | some v=>
  unfold gwd at e
  split at e
  ·rename_i c
   obtain ⟨_,a,b⟩:=ati_ok e
   refine ⟨(valW w - 100000).toNat + 1000,by omega,?_⟩
   unfold plI
   rw [if_neg (by omega)]; omega
  ·obtain ⟨_,a,b⟩:=ati_ok e
   refine ⟨(valW w).toNat,by omega,?_⟩
   unfold plI
   rw [if_pos (by omega)]; omega
theorem chW_at {G : Gn} {w : Int} {i : Nat} (hi : (i : Int) < wid G w) (c : isPt w i = true) : (gwd G (valW w + (i : Int))).getD 0 ∈ chW G w:=by
 unfold isPt at c
 unfold wid at hi
 unfold chW
 by_cases h5 : tagW w = 5
 ·rw [if_pos h5]
  rw [if_pos h5] at hi
  have : i = 0 ∨ i = 1:=by omega
  rcases this with rfl|rfl
  ·simp
  ·simp
 ·rw [if_neg h5] at hi ⊢
  simp [h5] at c
  rw [if_pos c.1,List.mem_map]
  refine ⟨i - 1,?_,?_⟩
  ·rw [List.mem_range]; omega
  ·rw [show valW w + 1 + ((i - 1 : Nat) : Int) = valW w + (i : Int) from by omega]
theorem Sw.In.set {σ : Sw} (x : σ.In) (o : Bool) (i : Nat) (v : Int) : (σ.set o i v).In:=by
 unfold Sw.In gone at x ⊢
 cases o <;> simpa [Sw.set] using x
theorem cpLoop_in {G : Gn} {w : Int} {o : Bool} {at_ : Nat} {go : Int→Sw→Int × Sw} (hgo : ∀ x ∈ chW G w,∀ σ : Sw,σ.In→(go x σ).2.In) : ∀ (r i : Nat) (σ : Sw),(i : Int) + r≤wid G w→σ.In→(cpLoop G w o at_ go r i σ).In
 | 0,i,σ,_,x=>x
 | r + 1,i,σ,hi,x=>by
  rw [cpLoop]
  split
  ·rename_i c
   exact cpLoop_in hgo r (i + 1) _ (by omega) ((hgo _ (chW_at (by omega) c) σ x).set _ _ _)
  ·exact cpLoop_in hgo r (i + 1) _ (by omega) (x.set _ _ _)
theorem Sw.In.grow {σ : Sw} (x : σ.In) {o : Bool} {l : List Int} (hl : l.length≤41) {p v : Int} (hp : ∃ i,i < 2000∧plI i = p) (hn : σ.wn p = none) : ((σ.app o l).put p v).In:=by
 have e : (σ.app o l).wn = σ.wn:=by cases o <;> rfl
 have hn' : (σ.app o l).wn p = none:=by rw [e]; exact hn
 have g:=gone_put (v:=v) hp hn'
 have g2 : gone (σ.app o l) = gone σ:=by unfold gone; rw [e]
 unfold Sw.In at x ⊢
 rw [g,g2]
 cases o <;> simp [Sw.app,Sw.put] <;> omega
theorem cp_in {G : Gn} {all : Bool} (ho : G.old.length≤1000) (hy : G.young.length≤1000) : ∀ (n : Nat) (w : Int) (σ : Sw),Fue G n w→σ.In→(cp false G all n w σ).2.In
 | 0,w,σ,h,_=>h.elim
 | n + 1,w,σ,h,x=>by
  rw [cp]
  split
  ·exact x
  ·rename_i c
   have hl : leadW w = true:=by
    unfold stay at c
    cases e : leadW w with
    | true=>rfl
    | false=>rw [e] at c; exact absurd rfl c
   split
   ·exact x
   ·rename_i e
    obtain ⟨w1,w2⟩:=wid_le h.1 hl
    exact cpLoop_in (fun y hy' σ' x'=>cp_in ho hy n y σ' (h.2 y hy') x') _ 0 _ (by omega) (x.grow (by simp; omega) (h.1.pl ho hy hl) e)
theorem cp_len {G : Gn} {all : Bool} {n : Nat} {w : Int} {σ : Sw} (o : Bool) : σ.len o≤(cp false G all n w σ).2.len o:=
 (cp_ag (G:=G) (all:=all) n w (fun _ _=>False) σ σ ⟨⟨rfl,fun _ _=>rfl⟩,⟨rfl,fun _ _=>rfl⟩,rfl⟩ (fun _ _ h=>h.elim)).2.2 o
def stepX (fill : Bool) (G : Gn) (all : Bool) (n : Nat) (w : Int) (i : Nat) (σ : Sw) : Int × Sw:=if isPt w i = true then cp fill G all n ((gwd G (valW w + (i : Int))).getD 0) σ else ((gwd G (valW w + (i : Int))).getD 0,σ)
theorem cpLoop_step {fill : Bool} {G : Gn} {all : Bool} {n : Nat} {w : Int} {o : Bool} {at_ r i : Nat} {σ : Sw} : cpLoop G w o at_ (cp fill G all n) (r + 1) i σ = cpLoop G w o at_ (cp fill G all n) r (i + 1) ((stepX fill G all n w i σ).2.set o (at_ + i) (stepX fill G all n w i σ).1):=by
 rw [cpLoop]
 unfold stepX
 split <;> rfl
end Go.Proofs.Ytkdenmdijdmnjaa.Am
set_option linter.unusedSimpArgs false
set_option linter.unusedVariables false
namespace Go.Proofs.Ytkdenmdijdmnjaa.Am
open Go Go.RowKit
theorem toStringS_loop {base : Nat} {a0 : Option Addr} {zs : List ByteArray} (hn : zs.length≤140737488355328) {a : Option Addr} : ∀ (d i : Nat) (h : AH),i + d = zs.length→Sl h a0 (stV zs)→(∀ b,blk a0 b→¬ blk a b)→∀ rest : List ByteArray,rest.length = d→Own base 9 h a (stV (zs.take i ++ rest)) →
  ∃ h',loopL (B32_0 base) [some (.slice a0 zs.length zs.length),some (.slice a zs.length zs.length),some (.int .i64 (i : Int))] h = some (2,[some (.slice a zs.length zs.length)],h')∧Own base 9 h' a (stV zs)∧KB (blk a) h h':=by
 intro d
 induction d with
 | zero=>
  intro i h hi hs hb rest hr ho
  have e : zs.take i ++ rest = zs:=by
   rw [List.eq_nil_of_length_eq_zero hr,List.append_nil,List.take_of_length_le (by omega)]
  rw [e] at ho
  refine ⟨h,?_,ho,KB.refl _ _⟩
  rw [loopL_eq,B32_0_eq]
  have : ¬ ((i : Int) < (zs.length : Int)):=by omega
  simp [this]
 | succ d ih=>
  intro i h hi hs hb rest hr ho
  have hlt : i < zs.length:=by omega
  obtain ⟨ad,h1,h2⟩:=str_at hs hlt
  match rest,hr with
  | z :: rest,hr=>
   obtain ⟨ad2,h',g1,g2,g3,g4,g5⟩:=ho.wr (i:=i) (new:=[.string zs[i]]) (by rw [stV_len]; simp; omega) (by simp)
   have e : setAt (stV (zs.take i ++ z :: rest)) i [.string zs[i]] = stV (zs.take (i + 1) ++ rest):=by
    have e1 : (stV (zs.take i)).length = i:=by rw [stV_len]; simp; omega
    have ea : ∀ x y : List ByteArray,stV (x ++ y) = stV x ++ stV y:=fun x y=>List.map_append
    rw [ea]
    simp only [setAt,List.length_singleton]
    have e2 : (stV (zs.take i) ++ stV (z :: rest)).take i = stV (zs.take i):=by
     rw [List.take_append_of_le_length (by omega),List.take_of_length_le (by omega)]
    have e3 : (stV (zs.take i) ++ stV (z :: rest)).drop (i + 1) = stV rest:=by
     rw [List.drop_append,e1]
     have : i + 1 - i = 1:=by omega
     rw [this,List.drop_of_length_le (by omega)]
     rfl
    rw [e2,e3,List.take_succ_eq_append_getElem hlt,ea,ea]
    rfl
   rw [e] at g3
   obtain ⟨h'',k1,k2,k3⟩:=ih (i + 1) h' (by omega) (hs.keep g4 hb) hb rest (by simpa using hr) g3
   refine ⟨h'',?_,k2,KB.trans g4 k3 (fun _ _ h=>h) (fun _ _ h=>h)⟩
   rw [loopL_eq,B32_0_eq]
   have c1 : ((i : Int) < (zs.length : Int)):=by omega
   subst h1; subst g1
   rw [w64i (by omega) (by omega)]
   have hc : (((i : Int) + 1 : Int)) = ((i + 1 : Nat) : Int):=by omega
   have h2' : (Am.cell h ad.block (ad.off + i)).bind getStr = some zs[i]:=by rw [h2]; rfl
   simp only [c1,decide_true,if_true,Option.bind_some,Int.toNat_natCast,Nat.mul_one,h2',g2,hc]
   rw [if_pos ⟨by omega,trivial⟩,if_pos ⟨by omega,trivial⟩]
   simp only [Option.bind_some,if_true]
   exact k1
theorem toStringS_run {base : Nat} {h : AH} {a0 : Option Addr} {zs : List ByteArray} (hs : Sl h a0 (stV zs)) (hn : zs.length≤1048576) (hb : base≤h.length) :
  ∃ a h',run (Et base) 32 [.slice a0 zs.length zs.length] h = some (.slice a zs.length zs.length,h')∧Own base 9 h' a (stV zs)∧KB NoB h h'∧∀ b,blk a b→h.length≤b∧b < h'.length:=by
 have hrep : ∀ n,rep [Value.string ⟨#[]⟩] n = stV (List.replicate n ⟨#[]⟩):=by
  intro n
  induction n with
  | zero=>rfl
  | succ n ih=>simp only [rep,ih]; rfl
 have hown:=Own.new base 9 h (rep [Value.string ⟨#[]⟩] zs.length) hb
 rw [hrep] at hown
 have hk : KB NoB h (h ++ [some ⟨rep [Value.string ⟨#[]⟩] zs.length,9⟩]):=KB.push _ _ _
 have hsep : ∀ b,blk a0 b→zs = [] ∨ ¬ blk (some (⟨h.length,0,none⟩ : Addr)) b:=by
  intro b hb'
  rcases hs with e|⟨ad,k,h1,h2,_⟩
  ·left
   have:=congrArg List.length e
   rw [stV_len] at this
   exact List.eq_nil_of_length_eq_zero (by simpa using this)
  ·right
   rw [blk_new]
   obtain ⟨ad',e1,e2⟩:=hb'
   rw [h1] at e1
   injection e1 with e1
   subst e1; subst e2
   have:=hget_lt h2
   omega
 have main : ∃ h',loopL (B32_0 base) [some (.slice a0 zs.length zs.length),some (.slice (some ⟨h.length,0,none⟩) zs.length zs.length),some (.int .i64 ((0 : Nat) : Int))] (h ++ [some ⟨rep [Value.string ⟨#[]⟩] zs.length,9⟩]) = some (2,[some (.slice (some ⟨h.length,0,none⟩) zs.length zs.length)],h')∧Own base 9 h' (some ⟨h.length,0,none⟩) (stV zs)∧KB (blk (some (⟨h.length,0,none⟩ : Addr))) (h ++ [some ⟨rep [Value.string ⟨#[]⟩] zs.length,9⟩]) h':=by
  by_cases hz : zs = []
  ·subst hz
   refine ⟨_,?_,by simpa [hrep] using hown,KB.refl _ _⟩
   rw [loopL_eq,B32_0_eq]
   simp
  ·exact toStringS_loop (by omega) zs.length 0 _ (by omega) (hs.keep hk fun _ _ h=>h.elim) (fun b hb'=>(hsep b hb').resolve_left hz) (List.replicate zs.length ⟨#[]⟩) (by simp) (by simpa [hrep] using hown)
 obtain ⟨h',m1,m2,m3⟩:=main
 have hlen : h.length + 1≤h'.length:=by have:=m3.1; simp at this; omega
 refine ⟨some ⟨h.length,0,none⟩,h',Am.r32 ?_,m2,KB.trans hk m3 (fun _ _ h=>h) (fun i hi h=>by rw [blk_new] at h; omega),fun b hb'=>by rw [blk_new] at hb'; omega⟩
 rw [if_pos ⟨rfl,by omega,by omega,by omega⟩]
 simp only [Int.toNat_natCast,Option.bind_some]
 rw [show ((0 : Nat) : Int) = 0 from rfl] at m1
 rw [m1]
 simp [sget,getS]
theorem eqStringS_run {base : Nat} {h : AH} {a b : Option Addr} {l : List ByteArray} (hl : l.length≤9223372036854775807) (hx : Sl h a (stV l)) (hy : Sl h b (stV l)) : run (Et base) 36 [.slice a l.length l.length,.slice b l.length l.length] h = some (.bool true,h):=by
 have loop : ∀ (r i : Nat),i + r = l.length→loopL (B36_0 base) [some (.slice a l.length l.length),some (.slice b l.length l.length),some (.int .i64 (i : Int))] h = some (2,[],h):=by
  intro r
  induction r with
  | zero=>
   intro i hi
   refine loop_off (by decide) ?_
   rw [B36_0_eq]
   exact ifF (by simp; omega) rfl
  | succ r ih=>
   intro i hi
   have hlt : i < l.length:=by omega
   obtain ⟨ad,rfl,g⟩:=str_at hx hlt
   obtain ⟨ad2,rfl,g2⟩:=str_at hy hlt
   refine loop_on ?_ (ih (i + 1) (by omega))
   rw [B36_0_eq]
   refine ifT (decide_eq_true (by omega)) (ifT (by omega) (bs rfl (bT (by rw [show Int.toNat (i : Int) * 1 = i from by simp]; exact g) (ifT (by omega) (bs rfl (bT (by rw [show Int.toNat (i : Int) * 1 = i from by simp]; exact g2) (ifF (by simp) ?_)))))))
   rw [w64i (by omega) (by omega)]
   rfl
 have e:=loop l.length 0 (by omega)
 rw [show ((0 : Nat) : Int) = 0 from rfl] at e
 exact Am.r36 (ifF (by simp) (bs e (ifF (show ¬ (2 : Nat) = 1 by decide) (ifT rfl rfl))))
theorem szStringS_run {base : Nat} {h : AH} {a : Option Addr} {l : List ByteArray} {left : Int} (hl : l.length≤9223372036854775807) (hz : ∀ s ∈ l,s.size≤maxLen) (hs : Sl h a (stV l)) (h0 : 0≤left) (h1 : left≤1048576) : ∃ z,run (Et base) 29 [.slice a l.length l.length,.int .i64 left] h = some (.int .i64 z,h)∧z≤left∧-1≤z∧(¬ z < 0→z + (l.length : Int)≤left):=by
 by_cases hn : left - (l.length : Int) < 0
 ·refine ⟨-1,Am.r29 ?_,by omega,by omega,fun h=>absurd (by decide) h⟩
  rw [w64i (by omega) (by omega)]
  exact ifT (decide_eq_true hn) rfl
 ·have loop : ∀ (r i : Nat) (z : Int),i + r = l.length→0≤z→z≤left - (l.length : Int)→∃ z',z'≤left - (l.length : Int)∧-1≤z'∧(loopL (B29_0 base) [some (.slice a l.length l.length),some (.int .i64 z),some (.int .i64 (i : Int))] h = some (1,[some (.int .i64 (-1))],h)∧z' = -1 ∨ loopL (B29_0 base) [some (.slice a l.length l.length),some (.int .i64 z),some (.int .i64 (i : Int))] h = some (2,[some (.int .i64 z')],h)):=by
   intro r
   induction r with
   | zero=>
    intro i z hi z0 z1
    refine ⟨z,z1,by omega,.inr (loop_off (by decide) ?_)⟩
    rw [B29_0_eq]
    exact ifF (by simp; omega) rfl
   | succ r ih=>
    intro i z hi z0 z1
    have hlt : i < l.length:=by omega
    have hsz:=hz l[i] (List.getElem_mem _)
    unfold maxLen at hsz
    obtain ⟨ad,rfl,g⟩:=str_at hs hlt
    by_cases hc : z - (l[i].size : Int) < 0
    ·refine ⟨-1,by omega,by omega,.inl ⟨loop_off (by decide) ?_,rfl⟩⟩
     rw [B29_0_eq]
     refine ifT (decide_eq_true (by omega)) (ifT (by omega) (bs rfl (bT (by rw [show Int.toNat (i : Int) * 1 = i from by simp]; exact g) ?_)))
     rw [w64i (by omega) (by omega)]
     exact ifT (decide_eq_true hc) rfl
    ·obtain ⟨z',q1,q2,q3⟩:=ih (i + 1) (z - (l[i].size : Int)) (by omega) (by omega) (by omega)
     have step : B29_0 base [some (.slice (some ad) l.length l.length),some (.int .i64 z),some (.int .i64 (i : Int))] h = some (0,[some (.slice (some ad) l.length l.length),some (.int .i64 (z - (l[i].size : Int))),some (.int .i64 ((i + 1 : Nat) : Int))],h):=by
      rw [B29_0_eq]
      refine ifT (decide_eq_true (by omega)) (ifT (by omega) (bs rfl (bT (by rw [show Int.toNat (i : Int) * 1 = i from by simp]; exact g) ?_)))
      rw [w64i (n:=z - (l[i].size : Int)) (by omega) (by omega)]
      refine ifF (by simpa using hc) ?_
      rw [w64i (n:=(i : Int) + 1) (by omega) (by omega)]
      rfl
     refine ⟨z',q1,q2,?_⟩
     rcases q3 with ⟨q3,q4⟩|q3
     ·exact .inl ⟨loop_on step q3,q4⟩
     ·exact .inr (loop_on step q3)
  obtain ⟨z',q1,q2,q3⟩:=loop l.length 0 (left - (l.length : Int)) (by omega) (by omega) (by omega)
  rw [show ((0 : Nat) : Int) = 0 from rfl] at q3
  refine ⟨z',Am.r29 ?_,by omega,q2,fun _=>by omega⟩
  rw [w64i (by omega) (by omega)]
  refine ifF (by simpa using hn) ?_
  rcases q3 with ⟨q3,rfl⟩|q3
  ·exact bs q3 (ifT rfl (bI rfl rfl))
  ·exact bs q3 (ifF (show ¬ (2 : Nat) = 1 by decide) (ifT rfl (bI rfl rfl)))
theorem szGens_run {base : Nat} {h : AH} {oa ya : Option Addr} {G : Gn} {left : Int} (h1 : G.old.length≤9223372036854775807) (h2 : G.young.length≤9223372036854775807) (hb : base≤h.length) (l0 : 0≤left) (l1 : left≤1048576) :
  ∃ z h',run (Et base) 28 [.agg (gensV oa ya G).toArray,.int .i64 left] h = some (.int .i64 z,h')∧KB NoB h h'∧z≤left∧-1≤z∧(¬ z < 0→z + (G.old.length : Int) + (G.young.length : Int)≤left):=by
 have d:=Hs.start hb
 suffices W : Wp (run (Et base) 28 [.agg (gensV oa ya G).toArray,.int .i64 left] h) fun o=>∃ z,o.1 = .int .i64 z∧KB NoB h o.2∧z≤left∧-1≤z∧(¬ z < 0→z + (G.old.length : Int) + (G.young.length : Int)≤left) by
  obtain ⟨⟨o1,o2⟩,e,z,y1,y2⟩:=W
  simp only at y1 y2
  subst y1
  exact ⟨z,o2,e,y2⟩
 refine W.of (fun r hx=>Am.r28 hx) ?_
 ((try simp only [n1,n2,n3,n4,n5,n6] at d); (with_reducible repeat first|refine W.a1 d ?_|refine W.a2 ?_|refine W.a3 ?_|refine W.bo ?_|refine W.a5 d fun hw d lw kw=>?_|refine W.a6 d ?_|refine W.a7 ?_|refine W.a8 ?_); (refine W.nD d fun p1 d _ kp1=>?_); (with_reducible repeat first|refine W.a1 d ?_|refine W.a2 ?_|refine W.a3 ?_|refine W.bo ?_|refine W.a5 d fun hw d lw kw=>?_|refine W.a6 d ?_|refine W.a7 ?_|refine W.a8 ?_))
 obtain ⟨z1,e1,a1,a2,a3⟩:=szIntS_run (base:=base) (h:=p1) (a:=oa) (n:=G.old.length) (left:=left) h1 l0 l1
 refine W.bs e1 ?_
 ((try simp only [n1,n2,n3,n4,n5,n6] at d); (with_reducible repeat first|refine W.a1 d ?_|refine W.a2 ?_|refine W.a3 ?_|refine W.bo ?_|refine W.a5 d fun hw d lw kw=>?_|refine W.a6 d ?_|refine W.a7 ?_|refine W.a8 ?_))
 refine W.ite (fun c=>W.ret ⟨-1,rfl,d.kb,by omega,by omega,fun h=>absurd (by decide) h⟩) (fun c=>?_)
 have c : ¬ z1 < 0:=by simpa using c
 ((try simp only [n1,n2,n3,n4,n5,n6] at d); (with_reducible repeat first|refine W.a1 d ?_|refine W.a2 ?_|refine W.a3 ?_|refine W.bo ?_|refine W.a5 d fun hw d lw kw=>?_|refine W.a6 d ?_|refine W.a7 ?_|refine W.a8 ?_))
 obtain ⟨z2,e2,b1,b2,b3⟩:=szIntS_run (base:=base) (h:=p1) (a:=ya) (n:=G.young.length) (left:=z1) h2 (by omega) (by omega)
 refine W.bs e2 ?_
 ((try simp only [n1,n2,n3,n4,n5,n6] at d); (with_reducible repeat first|refine W.a1 d ?_|refine W.a2 ?_|refine W.a3 ?_|refine W.bo ?_|refine W.a5 d fun hw d lw kw=>?_|refine W.a6 d ?_|refine W.a7 ?_|refine W.a8 ?_))
 refine W.ite (fun c=>W.ret ⟨-1,rfl,d.kb,by omega,by omega,fun h=>absurd (by decide) h⟩) (fun c=>?_)
 have c : ¬ z2 < 0:=by simpa using c
 have:=a3 (by omega)
 have:=b3 c
 exact W.ret ⟨z2,rfl,d.kb,by omega,by omega,fun _=>by omega⟩
theorem toGens_run {base : Nat} {h : AH} {oa ya : Option Addr} {G : Gn} (h1 : G.old.length≤1048576) (h2 : G.young.length≤1048576) (x : GnS h oa ya G) (hb : base≤h.length) :
  ∃ a b h',run (Et base) 31 [.agg (gensV oa ya G).toArray] h = some (.agg (gensV a b G).toArray,h')∧Own base 3 h' a (iv .i64 G.old)∧Own base 3 h' b (iv .i64 G.young)∧KB NoB h h'∧(∀ i,blk a i ∨ blk b i→h.length≤i∧i < h'.length)∧(∀ i,blk a i→¬ blk b i):=by
 have d:=Hs.start hb
 suffices W : Wp (run (Et base) 31 [.agg (gensV oa ya G).toArray] h) fun o=>∃ a b,o.1 = .agg (gensV a b G).toArray∧Own base 3 o.2 a (iv .i64 G.old)∧Own base 3 o.2 b (iv .i64 G.young)∧KB NoB h o.2∧(∀ i,blk a i ∨ blk b i→h.length≤i∧i < o.2.length)∧(∀ i,blk a i→¬ blk b i) by
  obtain ⟨⟨o1,o2⟩,e,a,b,y1,y2⟩:=W
  simp only at y1 y2
  subst y1
  exact ⟨a,b,o2,e,y2⟩
 refine W.of (fun r hx=>Am.r31 hx) ?_
 ((try simp only [n1,n2,n3,n4,n5,n6] at d); (with_reducible repeat first|refine W.a1 d ?_|refine W.a2 ?_|refine W.a3 ?_|refine W.bo ?_|refine W.a5 d fun hw d lw kw=>?_|refine W.a6 d ?_|refine W.a7 ?_|refine W.a8 ?_); (refine W.nD d fun p1 d _ kp1=>?_); (with_reducible repeat first|refine W.a1 d ?_|refine W.a2 ?_|refine W.a3 ?_|refine W.bo ?_|refine W.a5 d fun hw d lw kw=>?_|refine W.a6 d ?_|refine W.a7 ?_|refine W.a8 ?_); (refine W.nD d fun p2 d _ kp2=>?_); (with_reducible repeat first|refine W.a1 d ?_|refine W.a2 ?_|refine W.a3 ?_|refine W.bo ?_|refine W.a5 d fun hw d lw kw=>?_|refine W.a6 d ?_|refine W.a7 ?_|refine W.a8 ?_); (refine W.nD d fun p3 d _ kp3=>?_); (with_reducible repeat first|refine W.a1 d ?_|refine W.a2 ?_|refine W.a3 ?_|refine W.bo ?_|refine W.a5 d fun hw d lw kw=>?_|refine W.a6 d ?_|refine W.a7 ?_|refine W.a8 ?_))
 obtain ⟨a,h4,e4,o4,k4,q4⟩:=toIntS_run (base:=base) (x.1.keepN d.kb) h1 d.ge
 refine W.bs e4 ?_
 have n3 : h.length≤p3.length:=d.kb.1
 have d:=d.call k4 (blk a) (fun y=>Own base 3 y a (iv .i64 G.old)) o4 (fun U y y' k hs x=>x.keep k hs) (fun b hb=>⟨q4 b hb,(o4.lt hb).2⟩)
 ((try simp only [n1,n2,n3,n4,n5,n6] at d); (with_reducible repeat first|refine W.a1 d ?_|refine W.a2 ?_|refine W.a3 ?_|refine W.bo ?_|refine W.a5 d fun hw d lw kw=>?_|refine W.a6 d ?_|refine W.a7 ?_|refine W.a8 ?_))
 have n4 : h4.length = List.length hw:=by omega
 obtain ⟨b,h6,e6,o6,k6,q6⟩:=toIntS_run (base:=base) (x.2.keepN d.kb) h2 d.ge
 refine W.bs e6 ?_
 have d:=d.call k6 (blk b) (fun y=>Own base 3 y b (iv .i64 G.young)) o6 (fun U y y' k hs x=>x.keep k hs) (fun i hi=>⟨q6 i hi,(o6.lt hi).2⟩)
 have hal:=d.rlt (i:=0) rfl
 have hbl:=d.rlt (i:=1) rfl
 have hf:=d.rfr (i:=0) rfl rfl
 have hf2:=d.rfr (i:=1) rfl rfl
 have hle:=d.kb.1
 ((try simp only [n1,n2,n3,n4,n5,n6] at d); (with_reducible repeat first|refine W.a1 d ?_|refine W.a2 ?_|refine W.a3 ?_|refine W.bo ?_|refine W.a5 d fun hw d lw kw=>?_|refine W.a6 d ?_|refine W.a7 ?_|refine W.a8 ?_))
 have hh : ∀ i,blk a i→i < List.length hw:=fun i hi=>d.rlt (i:=0) rfl i hi
 have hh2 : ∀ i,blk b i→i < List.length hw:=fun i hi=>d.rlt (i:=1) rfl i hi
 refine W.ret ⟨a,b,rfl,d.rs (i:=0) rfl,d.rs (i:=1) rfl,d.kb,fun i hi=>?_,fun i hi hi2=>?_⟩
 ·rcases hi with hi|hi
  ·exact ⟨(hf i hi).resolve_left fun h=>h,hh i hi⟩
  ·exact ⟨(hf2 i hi).resolve_left fun h=>h,hh2 i hi⟩
 ·have dj:=d.dj
  rw [List.pairwise_cons] at dj
  exact dj.1 _ (.head _) rfl i hi hi2
theorem eqGens_run {base : Nat} {h : AH} {oa ya oa2 ya2 : Option Addr} {G : Gn} (h1 : G.old.length≤1048576) (h2 : G.young.length≤1048576) (x : GnS h oa ya G) (y : GnS h oa2 ya2 G) (hb : base≤h.length) :
  ∃ h',run (Et base) 35 [.agg (gensV oa ya G).toArray,.agg (gensV oa2 ya2 G).toArray] h = some (.bool true,h')∧KB NoB h h':=by
 have d:=Hs.start hb
 suffices W : Wp (run (Et base) 35 [.agg (gensV oa ya G).toArray,.agg (gensV oa2 ya2 G).toArray] h) fun o=>o.1 = .bool true∧KB NoB h o.2 by
  obtain ⟨⟨o1,o2⟩,e,y1,y2⟩:=W
  simp only at y1 y2
  subst y1
  exact ⟨o2,e,y2⟩
 refine W.of (fun r hx=>Am.r35 hx) ?_
 ((try simp only [n1,n2,n3,n4,n5,n6] at d); (with_reducible repeat first|refine W.a1 d ?_|refine W.a2 ?_|refine W.a3 ?_|refine W.bo ?_|refine W.a5 d fun hw d lw kw=>?_|refine W.a6 d ?_|refine W.a7 ?_|refine W.a8 ?_); (refine W.nD d fun p1 d _ kp1=>?_); (with_reducible repeat first|refine W.a1 d ?_|refine W.a2 ?_|refine W.a3 ?_|refine W.bo ?_|refine W.a5 d fun hw d lw kw=>?_|refine W.a6 d ?_|refine W.a7 ?_|refine W.a8 ?_); (refine W.nD d fun p2 d _ kp2=>?_); (with_reducible repeat first|refine W.a1 d ?_|refine W.a2 ?_|refine W.a3 ?_|refine W.bo ?_|refine W.a5 d fun hw d lw kw=>?_|refine W.a6 d ?_|refine W.a7 ?_|refine W.a8 ?_))
 refine W.bs (eqIntS_run (base:=base) (x.1.keepN d.kb) (y.1.keepN d.kb) (by omega)) ?_
 ((try simp only [n1,n2,n3,n4,n5,n6] at d); (with_reducible repeat first|refine W.a1 d ?_|refine W.a2 ?_|refine W.a3 ?_|refine W.bo ?_|refine W.a5 d fun hw d lw kw=>?_|refine W.a6 d ?_|refine W.a7 ?_|refine W.a8 ?_))
 refine W.ifF (by simp) ?_
 ((try simp only [n1,n2,n3,n4,n5,n6] at d); (with_reducible repeat first|refine W.a1 d ?_|refine W.a2 ?_|refine W.a3 ?_|refine W.bo ?_|refine W.a5 d fun hw d lw kw=>?_|refine W.a6 d ?_|refine W.a7 ?_|refine W.a8 ?_))
 refine W.bs (eqIntS_run (base:=base) (x.2.keepN d.kb) (y.2.keepN d.kb) (by omega)) ?_
 ((try simp only [n1,n2,n3,n4,n5,n6] at d); (with_reducible repeat first|refine W.a1 d ?_|refine W.a2 ?_|refine W.a3 ?_|refine W.bo ?_|refine W.a5 d fun hw d lw kw=>?_|refine W.a6 d ?_|refine W.a7 ?_|refine W.a8 ?_))
 refine W.ifF (by simp) ?_
 ((try simp only [n1,n2,n3,n4,n5,n6] at d); (with_reducible repeat first|refine W.a1 d ?_|refine W.a2 ?_|refine W.a3 ?_|refine W.bo ?_|refine W.a5 d fun hw d lw kw=>?_|refine W.a6 d ?_|refine W.a7 ?_|refine W.a8 ?_))
 refine W.ifF (by simp) ?_
 exact W.ret ⟨rfl,d.kb⟩
end Go.Proofs.Ytkdenmdijdmnjaa.Am
set_option linter.unusedSimpArgs false
set_option linter.unusedVariables false
namespace Go.Proofs.Ytkdenmdijdmnjaa.Am
open Go Go.RowKit
def AtO (base : Nat) (a : Option Addr) (ats : List ByteArray) (y : AH) : Prop:=TyOk base y a 9∧Sl y a (stV ats)
def InO (base : Nat) (a : Option Addr) (l : List Int) (y : AH) : Prop:=TyOk base y a 3∧Sl y a (iv .i64 l)
theorem AtO.keep {base : Nat} {a : Option Addr} {ats : List ByteArray} (U : Fp) (h h' : AH) (k : KB U h h') (hS : ∀ b,blk a b→¬ U b) (x : AtO base a ats h) : AtO base a ats h':=⟨x.1.keep k hS,x.2.keep k hS⟩
theorem InO.keep {base : Nat} {a : Option Addr} {l : List Int} (U : Fp) (h h' : AH) (k : KB U h h') (hS : ∀ b,blk a b→¬ U b) (x : InO base a l h) : InO base a l h':=⟨x.1.keep k hS,x.2.keep k hS⟩
theorem rd_ints {h : AH} {f : Nat} {v : Value} (x : Rd Try.prog h f 52 [v]) : ∃ a l,v = .slice a (List.length l) (List.length l)∧l.length≤maxLen∧Sl h a (iv .i64 l)∧∀ n ∈ l,wOk n:=by
 obtain ⟨a,zs,e,h1,h2,h3⟩:=x.ints Try.underlying52 Try.underlying3 (by kernel_rfl)
 injection e with e _
 refine ⟨a,zs,e,h1,h2,fun n hn=>?_⟩
 have:=h3 n hn
 simp only [Lit.wf,Bool.and_eq_true,decide_eq_true_eq] at this
 exact ⟨this.1,this.2⟩
theorem strs_of : ∀ (vs : List Value),(∀ i,i < vs.length→∃ s,vs[i]? = some (.string s)∧s.size≤maxLen)→∃ l,vs = stV l∧∀ s ∈ l,s.size≤maxLen
 | [],_=>⟨[],rfl,fun s hs=>by cases hs⟩
 | v :: vs,h=>by
  obtain ⟨s,e,hs⟩:=h 0 (by simp)
  obtain ⟨l,e2,h2⟩:=strs_of vs fun i hi=>by
   have:=h (i + 1) (by simp; omega)
   simpa using this
  simp only [List.getElem?_cons_zero] at e
  injection e with e
  refine ⟨s :: l,by rw [e,e2]; rfl,fun t ht=>?_⟩
  rcases List.mem_cons.1 ht with rfl|ht
  ·exact hs
  ·exact h2 t ht
theorem rd_strs {h : AH} {f : Nat} {v : Value} (x : Rd Try.prog h f 59 [v]) : ∃ a l,v = .slice a (List.length l) (List.length l)∧l.length≤maxLen∧Sl h a (stV l)∧∀ s ∈ l,s.size≤maxLen:=by
 have c9 : Try.prog.cellsOf 9 = 1:=by kernel_rfl
 obtain ⟨g,a,n,vs,e,h1,h2,h3,h4⟩:=x.slice Try.underlying59
 rw [c9] at h3 h4
 simp only [Nat.mul_one] at h3 h4
 obtain ⟨l,e2,hl⟩:=strs_of vs fun i hi=>by
  obtain ⟨s,e,hs⟩:=(h4 i (by omega)).str Try.underlying9
  refine ⟨s,?_,hs⟩
  have:=congrArg (·[0]?) e
  simp only [List.getElem?_take_of_lt (show 0 < 1 by decide),List.getElem?_drop,Nat.add_zero,List.getElem?_cons_zero] at this
  exact this
 injection e with e _
 have hn : l.length = n:=by rw [← h3,e2,stV_len]
 subst e2
 exact ⟨a,l,by rw [hn]; exact e,by omega,h2,hl⟩
set_option maxRecDepth 100000 in
theorem rd_gens {h : AH} {f : Nat} {cs : List Value} (x : Rd Try.prog h f 58 cs) : ∃ a b G,cs = gensV a b G∧G.old.length≤maxLen∧G.young.length≤maxLen∧GnS h a b G∧(∀ n ∈ G.old,wOk n)∧∀ n ∈ G.young,wOk n:=by
 have cT : Try.prog.cellsOf 58 = 3:=by kernel_rfl
 have c3 : Try.prog.cellsOf 3 = 1:=by kernel_rfl
 have cL : Try.prog.cellsOf 52 = 1:=by kernel_rfl
 match f,x with
 | 0,x=>exact x.elim
 | f + 1,x=>
  simp only [Rd,Try.underlying58] at x
  obtain ⟨hl,hf⟩:=x
  rw [cT] at hl
  match cs,hl with
  | [v0,v1,v2],_=>
   simp only [List.forall_mem_cons,c3,cL,List.drop_zero,List.drop_succ_cons,List.take_succ_cons,List.take_zero] at hf
   obtain ⟨f0,f1,f2,_⟩:=hf
   obtain ⟨a,l,rfl,h1,h2,h3⟩:=rd_ints f0
   obtain ⟨b,y,rfl,h4,h5,h6⟩:=rd_ints f1
   obtain ⟨n2,e2,_⟩:=f2.int Try.underlying3
   injection e2 with e2 _
   subst e2
   exact ⟨a,b,⟨l,y,n2⟩,rfl,h1,h4,⟨h2,h5⟩,h3,h6⟩
end Go.Proofs.Ytkdenmdijdmnjaa.Am
set_option linter.unusedSimpArgs false
set_option linter.unusedVariables false
namespace Go.Proofs.Ytkdenmdijdmnjaa.Am
open Go Go.RowKit
structure Cx where
 pid : Int
 pc : Int
 regs : List Int
 box : List Int
 links : List Int
 home : Int
def CxS (h : AH) (r b l : Option Addr) (C : Cx) : Prop:=Sl h r (iv .i64 C.regs)∧Sl h b (iv .i64 C.box)∧Sl h l (iv .i64 C.links)
def CxO (base : Nat) (r b l : Option Addr) (C : Cx) (h : AH) : Prop:=InO base r C.regs h∧InO base b C.box h∧InO base l C.links h
theorem CxS.keepN {h h' : AH} {r b l : Option Addr} {C : Cx} (x : CxS h r b l C) (k : KB NoB h h') : CxS h' r b l C:=⟨x.1.keepN k,x.2.1.keepN k,x.2.2.keepN k⟩
theorem CxO.keep {base : Nat} {r b l : Option Addr} {C : Cx} (U : Fp) (h h' : AH) (k : KB U h h') (hS : ∀ i,blk r i ∨ blk b i ∨ blk l i→¬ U i) (x : CxO base r b l C h) : CxO base r b l C h':=
 ⟨x.1.keep U _ _ k fun i hi=>hS i (.inl hi),x.2.1.keep U _ _ k fun i hi=>hS i (.inr (.inl hi)),x.2.2.keep U _ _ k fun i hi=>hS i (.inr (.inr hi))⟩
def Cx.Le (C : Cx) : Prop:=C.regs.length≤1048576∧C.box.length≤1048576∧C.links.length≤1048576
theorem Hs.appN {base t sz bytes i n m : Nat} {V S : Fp} {h0 h : AH} {D : Ds} {R : List Rs} {a : Option Addr} {olds new : List Value} {src : Option (List Value)} (d : Hs base V h0 h D R) (ei : R[i]? = some ⟨S,true,fun x=>Own base t x a olds⟩) (hS : ∀ b,blk a b→S b) (hn : olds.length = n * sz) (hsz : 0 < sz) (hs : src = some new) (h1 : (n + m) * bytes≤140737488355328) (h2 : n + m≤9223372036854775807) (hm : new.length = m * sz) :
  ∃ a' h',Am.app base h t sz bytes a n src m = some (.slice a' (n + m) (n + m),h')∧Hs base V h0 h' D (R.set i ⟨blk a',true,fun y=>Own base t y a' (olds ++ new)⟩)∧KB (blk a) h h':=by
 obtain ⟨a',h',e,o,k,q⟩:=Own.app (x:=d.rs ei) (bytes:=bytes) (m:=m) hn hsz hs d.ge h1 h2 hm
 refine ⟨a',h',e,d.upd (Upd.at ei) rfl rfl k (fun b hb=>.inl (hS b hb)) o (fun U y y' ky hs x=>x.keep ky hs) (fun b hb=>?_),k⟩
 rcases q with ⟨_,e,_⟩|q
 ·have hb : blk a' b:=hb
  rw [e] at hb
  exact .inl (hS b hb)
 ·have e:=q b hb
  have:=(o.lt hb).2
  exact .inr ⟨by omega,this⟩
end Go.Proofs.Ytkdenmdijdmnjaa.Am
set_option linter.unusedSimpArgs false
set_option linter.unusedVariables false
namespace Go.Proofs.Ytkdenmdijdmnjaa.Am
open Go Go.RowKit
abbrev rSt (base : Nat) (a : Option Addr) (l : List ByteArray) : Rs:=⟨blk a,true,fun y=>Own base 9 y a (stV l)⟩
end Go.Proofs.Ytkdenmdijdmnjaa.Am
set_option linter.unusedSimpArgs false
set_option linter.unusedVariables false
namespace Go.Proofs.Ytkdenmdijdmnjaa.Am
open Go Go.RowKit
def Wf (f : Nat) (t : Tm) : Prop:=∃ d x,x≤100∧0≤lk f t d x
theorem lkS_mem2 {g : Tm→Int→Int→Int} (hg : ∀ t d x,0≤x→-1≤g t d x∧g t d x≤x) : ∀ (l : List Tm) (d x : Int),x≤100→0≤lkS g l d x→∀ t ∈ l,∃ d' x',x'≤100∧0≤g t d' x'
 | [],d,x,_,_,t,ht=>by cases ht
 | u :: r,d,x,hx,h,t,ht=>by
  rw [lkS] at h
  by_cases h0 : x ≥ 0
  ·rw [if_pos h0] at h
   have hu:=hg u d x h0
   rcases List.mem_cons.1 ht with rfl|ht
   ·refine ⟨d,x,hx,?_⟩
    by_cases hc : 0≤g t d x
    ·exact hc
    ·rw [lkS_neg _ _ _ _ (by omega)] at h; omega
   ·exact lkS_mem2 hg r _ _ (by omega) h t ht
  ·rw [if_neg h0] at h; omega
theorem Wf.open {f : Nat} {k n : Int} {s : ByteArray} {l : List Tm} (h : Wf (f + 1) (.mk k n s l)) : shB k n s l.length = true∧∀ t ∈ l,Wf f t:=by
 obtain ⟨d,x,hx,h⟩:=h
 rw [lk] at h
 split at h
 ·omega
 ·rename_i hn
  refine ⟨?_,fun t ht=>?_⟩
  ·cases hs : shB k n s l.length with
   | true=>rfl
   | false=>exact absurd (.inr (.inr hs)) hn
  ·obtain ⟨d',x',a,b⟩:=lkS_mem2 (lk_le f) l _ _ (by omega) h t ht
   exact ⟨d',x',a,b⟩
theorem Wf.of {f : Nat} {t : Tm} (h : tOk f t = true) : Wf f t:=⟨6,100,by omega,of_decide_eq_true h⟩
end Go.Proofs.Ytkdenmdijdmnjaa.Am
set_option linter.unusedSimpArgs false
set_option linter.unusedVariables false
namespace Go.Proofs.Ytkdenmdijdmnjaa.Am
open Go Go.RowKit
abbrev rW (base : Nat) (a : Option Addr) (l : List Int) : Rs:=⟨blk a,true,fun y=>Own base 3 y a (iv .i64 l)⟩
theorem setAt_ivs {l : List Int} {j : Nat} {v : Int} (hj : j < l.length) : setAt (iv .i64 l) j [.int .i64 v] = iv .i64 (l.set j v):=by
 unfold setAt iv
 rw [List.set_eq_take_append_cons_drop,if_pos hj]
 simp
theorem rep_ivs : ∀ n,rep [Value.int .i64 0] n = iv .i64 (List.replicate n 0)
 | 0=>rfl
 | n + 1=>by simp only [rep,rep_ivs n]; rfl
theorem Hs.setW {base i j : Nat} {V : Fp} {h0 h : AH} {D : Ds} {R : List Rs} {a : Option Addr} {l : List Int} {v : Int} (d : Hs base V h0 h D R) (ei : R[i]? = some (rW base a l)) (hj : j < l.length) :
  ∃ ad h',a = some ad∧Am.wr base h ad.block (ad.off + j) [.int .i64 v] = some h'∧Hs base V h0 h' D (R.set i (rW base a (l.set j v)))∧KB (blk a) h h':=by
 obtain ⟨ad,h',ea,ew,ow,kw,_⟩:=Own.wrA (d.rs ei : Own base 3 h a (iv .i64 l)) (i:=j) (new:=[.int .i64 v]) (by simp; omega) (by simp)
 rw [setAt_ivs hj] at ow
 exact ⟨ad,h',ea,ew,d.upd (r:=rW base a l) (r':=rW base a (l.set j v)) (Upd.at ei) rfl rfl kw (fun b hb=>.inl hb) ow (fun U y y' k hs z=>z.keep k hs) (fun b hb=>.inl hb),kw⟩
theorem Hs.extW {base i m : Nat} {V : Fp} {h0 h : AH} {D : Ds} {R : List Rs} {a : Option Addr} {l new : List Int} {src : Option (List Value)} (d : Hs base V h0 h D R) (ei : R[i]? = some (rW base a l)) (hs : src = some (iv .i64 new)) (hm : new.length = m) (hl : l.length + m≤1000000) :
  ∃ a' h',Am.app base h 3 1 8 a l.length src m = some (.slice a' (l.length + m) (l.length + m),h')∧Hs base V h0 h' D (R.set i (rW base a' (l ++ new)))∧KB (blk a) h h':=by
 obtain ⟨a',h',e,d,k⟩:=d.appN (i:=i) (n:=l.length) (m:=m) (sz:=1) (bytes:=8) ei (fun b hb=>hb) (by simp) (by decide) hs (by omega) (by omega) (by simp [hm])
 rw [iv_append] at d
 exact ⟨a',h',e,d,k⟩
end Go.Proofs.Ytkdenmdijdmnjaa.Am
set_option linter.unusedSimpArgs false
set_option linter.unusedVariables false
namespace Go.Proofs.Ytkdenmdijdmnjaa.Am
open Go Go.RowKit
theorem mget_some' {h : AH} {b : Nat} {m : List (Int × Int)} (e : mget h b = some m) : ∃ k,hget h b = some k∧k.m = some m:=by
 unfold mget at e
 cases hk : hget h b with
 | none=>rw [hk] at e; cases e
 | some k=>rw [hk] at e; exact ⟨k,rfl,e⟩
theorem mget_keep {U : Fp} {h h' : AH} {b : Nat} {m : List (Int × Int)} (k : KB U h h') (hU : ¬ U b) (e : mget h b = some m) : mget h' b = some m:=by
 obtain ⟨kk,hk,hm⟩:=mget_some' e
 unfold mget at e ⊢
 rw [k.2 _ (hget_lt hk) hU]
 exact e
abbrev rMp (mb : Nat) (m : List (Int × Int)) : Rs:=⟨(· = mb),true,fun y=>mget y mb = some m⟩
theorem rMp_ok (mb : Nat) (m : List (Int × Int)) : (rMp mb m).Ok:=fun U h h' k hs e=>mget_keep k (hs mb rfl) e
theorem Hs.setM {base i mb : Nat} {V : Fp} {h0 h : AH} {D : Ds} {R : List Rs} {m : List (Int × Int)} (d : Hs base V h0 h D R) (ei : R[i]? = some (rMp mb m)) (m' : List (Int × Int)) : Hs base V h0 (h.set mb (some (mblk m'))) D (R.set i (rMp mb m')):=by
 obtain ⟨k,hk,_⟩:=mget_some' (d.rs ei : mget h mb = some m)
 exact d.upd (r:=rMp mb m) (r':=rMp mb m') (Upd.at ei) rfl rfl (KB.set (S:=(· = mb)) _ rfl) (fun b hb=>.inl hb) (by
  show mget _ mb = _
  unfold mget
  rw [hget_set_self (hget_lt hk)]; rfl) (rMp_ok mb m') (fun b hb=>.inl hb)
theorem Hs.newM {base : Nat} {V : Fp} {h0 h : AH} {D : Ds} {R : List Rs} (d : Hs base V h0 h D R) : Hs base V h0 (h ++ [some (mblk [])]) D (R ++ [rMp h.length []]):=
 d.call (KB.push _ _ _) (· = h.length) (fun y=>mget y h.length = some []) (by unfold mget; rw [hget_append_new]; rfl) (rMp_ok h.length []) (fun b hb=>by subst hb; simp)
abbrev swV (oa ya : Option Addr) (G : Gn) (all : Bool) (a b : Option Addr) (σ : Sw) (mb : Nat) : List Value:=[.slice oa G.old.length G.old.length,.slice ya G.young.length G.young.length,.int .i64 G.mark,.bool all,.slice a σ.old.length σ.old.length,.slice b σ.young.length σ.young.length,.map (some mb)]
def WR (m : List (Int × Int)) (σ : Sw) : Prop:=∀ p,mfind m p = σ.wn p
theorem mfind_put (p v : Int) : ∀ (m : List (Int × Int)) (q : Int),mfind (mput m p v) q = if q = p then some v else mfind m q
 | [],q=>by simp [mput,mfind]
 | (a,b) :: r,q=>by
  simp only [mput]
  by_cases e : p = a
  ·subst e
   rw [if_pos rfl,mfind,mfind]
   split <;> rfl
  ·rw [if_neg e,mfind,mfind,mfind_put p v r q]
   by_cases e2 : q = a
   ·subst e2
    rw [if_pos rfl,if_pos rfl,if_neg (Ne.symm e)]
   ·rw [if_neg e2,if_neg e2]
theorem WR.put {m : List (Int × Int)} {σ : Sw} (x : WR m σ) (p v : Int) : WR (mput m p v) (σ.put p v):=fun q=>by
 rw [mfind_put]
 show _ = if q = p then some v else σ.wn q
 rw [x q]
abbrev swD (sb : Nat) (oa ya : Option Addr) (G : Gn) (all : Bool) (a b : Option Addr) (σ : Sw) (mb : Nat) : Ds:=[(sb,119,swV oa ya G all a b σ mb)]
abbrev swR (base : Nat) (S : Fp) (mu : Bool) (A : AH→Prop) (a b : Option Addr) (σ : Sw) (mb : Nat) (m : List (Int × Int)) : List Rs:=[⟨S,mu,A⟩,rW base a σ.old,rW base b σ.young,rMp mb m]
def CwR (base sb mb : Nat) (oa ya : Option Addr) (G : Gn) (all : Bool) (n : Nat) : Prop:=∀ (w : Int) (σ : Sw) (m : List (Int × Int)) (a b : Option Addr) (S V : Fp) (mu : Bool) (A : AH→Prop) (h0 h : AH),wOk w→Fue G n w→WR m σ→σ.In→(∀ y,A y→GnO base y oa ya G) →
 Hs base V h0 h (swD sb oa ya G all a b σ mb) (swR base S mu A a b σ mb m) →
 Wp (run (Et base) 97 [.pointer (at0 sb),.int .i64 w] h) fun o=>o.1 = .int .i64 (cp false G all n w σ).1∧∃ m' a' b',WR m' (cp false G all n w σ).2∧Hs base V h0 o.2 (swD sb oa ya G all a' b' (cp false G all n w σ).2 mb) (swR base S mu A a' b' (cp false G all n w σ).2 mb m')
theorem gmB {base sb mb : Nat} {oa ya a b : Option Addr} {G : Gn} {all : Bool} {σ : Sw} {S V : Fp} {mu : Bool} {A : AH→Prop} {h0 h : AH} {D : Ds} {R : List Rs} (hA : ∀ y,A y→GnO base y oa ya G) (d : Hs base V h0 h ((sb,119,swV oa ya G all a b σ mb) :: D) (⟨S,mu,A⟩ :: R)) : GmB base sb oa ya G h:=
 ⟨d.getI (o:=0) (.head _) rfl,d.getI (o:=1) (.head _) rfl,d.getI (o:=2) (.head _) rfl,hA _ (d.rs (i:=0) rfl)⟩
theorem cw_loop {base sb mb n k at_ : Nat} {oa ya : Option Addr} {G : Gn} {all o : Bool} {w W0 : Int} {S V : Fp} {mu : Bool} {A : AH→Prop} {h0 : AH} (hG : G.Ok) (ho : G.old.length≤1000) (hy : G.young.length≤1000) (hw : wOk w) (hk : wid G w = (k : Int)) (hk41 : k≤41) (hat : at_≤101000) (hf : ∀ x ∈ chW G w,Fue G n x) (hA : ∀ y,A y→GnO base y oa ya G) (ih : CwR base sb mb oa ya G all n) :
  ∀ (r i : Nat) (h : AH) (σ : Sw) (m : List (Int × Int)) (a b : Option Addr),i + r = k→at_ + k≤σ.len o→WR m σ→σ.In→Hs base V h0 h (swD sb oa ya G all a b σ mb) (swR base S mu A a b σ mb m) →
  Wp (loopL (B97_0 base) [some (.pointer (at0 sb)),some (.int .i64 w),some (.int .i64 (at_ : Int)),some (.bool o),some (.int .i64 W0),some (.int .i64 (k : Int)),some (.int .i64 (i : Int))] h) fun q=>q.1 = 2∧q.2.1 = [some (.int .i64 W0)]∧∃ m' a' b',WR m' (cpLoop G w o at_ (cp false G all n) r i σ)∧Hs base V h0 q.2.2 (swD sb oa ya G all a' b' (cpLoop G w o at_ (cp false G all n) r i σ) mb) (swR base S mu A a' b' (cpLoop G w o at_ (cp false G all n) r i σ) mb m'):=by
 have vnn:=valW_nn w
 have vle:=valW_le hw
 intro r
 induction r with
 | zero=>
  intro i h σ m a b hi hl hWR hin d
  suffices w1 : Wp (B97_0 base [some (.pointer (at0 sb)),some (.int .i64 w),some (.int .i64 (at_ : Int)),some (.bool o),some (.int .i64 W0),some (.int .i64 (k : Int)),some (.int .i64 (i : Int))] h) fun q=>q = (2,[some (.int .i64 W0)],h) by
   obtain ⟨q,e,rfl⟩:=w1
   exact ⟨_,loop_off (by decide) e,rfl,rfl,m,a,b,hWR,d⟩
  rw [B97_0_eq]
  exact W.ifF (by simp; omega) (W.ret rfl)
 | succ r ihr=>
  intro i h σ m a b hi hl hWR hin d
  rw [cpLoop_step]
  suffices w1 : Wp (B97_0 base [some (.pointer (at0 sb)),some (.int .i64 w),some (.int .i64 (at_ : Int)),some (.bool o),some (.int .i64 W0),some (.int .i64 (k : Int)),some (.int .i64 (i : Int))] h) fun q=>q.1 = 0∧q.2.1 = [some (.pointer (at0 sb)),some (.int .i64 w),some (.int .i64 (at_ : Int)),some (.bool o),some (.int .i64 W0),some (.int .i64 (k : Int)),some (.int .i64 ((i : Int) + 1))]∧∃ m' a' b',WR m' ((stepX false G all n w i σ).2.set o (at_ + i) (stepX false G all n w i σ).1)∧Hs base V h0 q.2.2 (swD sb oa ya G all a' b' ((stepX false G all n w i σ).2.set o (at_ + i) (stepX false G all n w i σ).1) mb) (swR base S mu A a' b' ((stepX false G all n w i σ).2.set o (at_ + i) (stepX false G all n w i σ).1) mb m') by
   obtain ⟨⟨o1,o2,h'⟩,e,y1,y2,m',a',b',y3,d'⟩:=w1
   simp only at y1 y2 d'
   subst y1; subst y2
   have hX : (stepX false G all n w i σ).2.In∧∀ p,σ.len p≤(stepX false G all n w i σ).2.len p:=by
    unfold stepX
    split
    ·rename_i c
     exact ⟨cp_in ho hy n _ σ (hf _ (chW_at (by omega) c)) hin,fun p=>cp_len p⟩
    ·exact ⟨hin,fun _=>Nat.le_refl _⟩
   obtain ⟨q,eq,z⟩:=ihr (i + 1) h' _ m' a' b' (by omega) (by rw [Sw.len_set]; have:=hX.2 o; omega) y3 (hX.1.set _ _ _) d'
   exact ⟨q,loop_on e eq,z⟩
  rw [B97_0_eq]
  refine W.ifT (decide_eq_true (by omega)) ?_
  ((try simp only [n1,n2,n3,n4,n5,n6] at d); (with_reducible repeat first|refine W.a1 d ?_|refine W.a2 ?_|refine W.a3 ?_|refine W.bo ?_|refine W.a5 d fun hw d lw kw=>?_|refine W.a6 d ?_|refine W.a7 ?_|refine W.a8 ?_))
  refine W.bs (implVal_run hw.2) ?_
  ((try simp only [n1,n2,n3,n4,n5,n6] at d); (with_reducible repeat first|refine W.a1 d ?_|refine W.a2 ?_|refine W.a3 ?_|refine W.bo ?_|refine W.a5 d fun hw d lw kw=>?_|refine W.a6 d ?_|refine W.a7 ?_|refine W.a8 ?_))
  rw [w64i (n:=valW w + (i : Int)) (by omega) (by omega)]
  refine W.bs (wordAt_run hG (by omega) (gmB hA d)) ?_
  ((try simp only [n1,n2,n3,n4,n5,n6] at d); (with_reducible repeat first|refine W.a1 d ?_|refine W.a2 ?_|refine W.a3 ?_|refine W.bo ?_|refine W.a5 d fun hw d lw kw=>?_|refine W.a6 d ?_|refine W.a7 ?_|refine W.a8 ?_))
  generalize hX : stepX false G all n w i σ = X
  refine W.jP (L:=[some (.pointer (at0 sb)),some (.int .i64 w),some (.int .i64 (at_ : Int)),some (.bool o),some (.int .i64 W0),some (.int .i64 (i : Int)),some (.int .i64 X.1),some (.int .i64 (k : Int)),some (.int .i64 (i : Int))]) (fun y=>∃ m' a' b',WR m' X.2∧Hs base V h0 y (swD sb oa ya G all a' b' X.2 mb) (swR base S mu A a' b' X.2 mb m')) ?_ ?_
  ·apply W.jb (isPt w i) d
   ·refine W.bs implTag_run ?_
    ((try simp only [n1,n2,n3,n4,n5,n6] at d); (with_reducible repeat first|refine W.a1 d ?_|refine W.a2 ?_|refine W.a3 ?_|refine W.bo ?_|refine W.a5 d fun hw d lw kw=>?_|refine W.a6 d ?_|refine W.a7 ?_|refine W.a8 ?_))
    unfold isPt
    refine W.ite (fun c=>?_) (fun c=>?_)
    ·exact W.lb rfl (by rw [c]; rfl) (KB.refl _ _)
    refine W.bs implTag_run ?_
    ((try simp only [n1,n2,n3,n4,n5,n6] at d); (with_reducible repeat first|refine W.a1 d ?_|refine W.a2 ?_|refine W.a3 ?_|refine W.bo ?_|refine W.a5 d fun hw d lw kw=>?_|refine W.a6 d ?_|refine W.a7 ?_|refine W.a8 ?_))
    have c : (tagW w == 5) = false:=by simpa using c
    refine W.ite (fun c2=>?_) (fun c2=>?_)
    ·exact W.lb rfl (by rw [c,c2]; simp) (KB.refl _ _)
    ·have c2 : (tagW w == 4) = false:=by simpa using c2
     exact W.lb rfl (by rw [c,c2]; rfl) (KB.refl _ _)
   intro h1 d n1
   ((try simp only [n1,n2,n3,n4,n5,n6] at d); (with_reducible repeat first|refine W.a1 d ?_|refine W.a2 ?_|refine W.a3 ?_|refine W.bo ?_|refine W.a5 d fun hw d lw kw=>?_|refine W.a6 d ?_|refine W.a7 ?_|refine W.a8 ?_))
   unfold stepX at hX
   refine W.ite (fun c=>?_) (fun c=>?_)
   ·rw [if_pos c] at hX
    subst hX
    have hm:=chW_at (G:=G) (w:=w) (i:=i) (by omega) c
    refine W.wb (ih _ σ m a b S V mu A h0 h1 (chW_ok hG hm) (hf _ hm) hWR hin hA d) ?_
    rintro ⟨u,h2⟩ ⟨y1,m',a',b',y2,d2⟩
    simp only at y1 d2
    subst y1
    ((try simp only [n1,n2,n3,n4,n5,n6] at d); (with_reducible repeat first|refine W.a1 d ?_|refine W.a2 ?_|refine W.a3 ?_|refine W.bo ?_|refine W.a5 d fun hw d lw kw=>?_|refine W.a6 d ?_|refine W.a7 ?_|refine W.a8 ?_))
    exact W.inl ⟨rfl,m',a',b',y2,d2⟩
   ·rw [if_neg c] at hX
    subst hX
    exact W.inl ⟨rfl,m,a,b,hWR,d⟩
  rintro h2 ⟨m',a',b',hWR',d⟩
  have hle : at_ + i < X.2.len o:=by
   have : σ.len o≤X.2.len o:=by
    rw [← hX]
    unfold stepX
    split
    ·exact cp_len o
    ·exact Nat.le_refl _
   omega
  ((try simp only [n1,n2,n3,n4,n5,n6] at d); (with_reducible repeat first|refine W.a1 d ?_|refine W.a2 ?_|refine W.a3 ?_|refine W.bo ?_|refine W.a5 d fun hw d lw kw=>?_|refine W.a6 d ?_|refine W.a7 ?_|refine W.a8 ?_))
  cases o with
  | true=>
   refine W.ifT rfl ?_
   ((try simp only [n1,n2,n3,n4,n5,n6] at d); (with_reducible repeat first|refine W.a1 d ?_|refine W.a2 ?_|refine W.a3 ?_|refine W.bo ?_|refine W.a5 d fun hw d lw kw=>?_|refine W.a6 d ?_|refine W.a7 ?_|refine W.a8 ?_))
   dsimp only
   rw [w64i (n:=(at_ : Int) + (i : Int)) (by omega) (by omega),w64i (n:=(i : Int) + 1) (by omega) (by omega)]
   rw [show (at_ : Int) + (i : Int) = ((at_ + i : Nat) : Int) from by omega,Int.toNat_natCast]
   refine W.ifT ⟨by omega,by have : at_ + i < X.2.old.length:=hle; omega⟩ ?_
   obtain ⟨ad,h3,rfl,e3,d,_⟩:=d.setW (i:=1) (j:=at_ + i) (v:=X.1) rfl hle
   refine W.bs rfl ?_
   rw [Nat.mul_one]
   refine W.bs e3 (W.ret ⟨rfl,rfl,m',some ad,b',hWR',?_⟩)
   have el : X.2.old.length = (X.2.old.set (at_ + i) X.1).length:=by simp
   dsimp only [swD,swV] at d
   rw [el] at d
   exact d
  | false=>
   refine W.ifF (by decide) ?_
   ((try simp only [n1,n2,n3,n4,n5,n6] at d); (with_reducible repeat first|refine W.a1 d ?_|refine W.a2 ?_|refine W.a3 ?_|refine W.bo ?_|refine W.a5 d fun hw d lw kw=>?_|refine W.a6 d ?_|refine W.a7 ?_|refine W.a8 ?_))
   dsimp only
   rw [w64i (n:=(at_ : Int) + (i : Int)) (by omega) (by omega),w64i (n:=(i : Int) + 1) (by omega) (by omega)]
   rw [show (at_ : Int) + (i : Int) = ((at_ + i : Nat) : Int) from by omega,Int.toNat_natCast]
   refine W.ifT ⟨by omega,by have : at_ + i < X.2.young.length:=hle; omega⟩ ?_
   obtain ⟨ad,h3,rfl,e3,d,_⟩:=d.setW (i:=2) (j:=at_ + i) (v:=X.1) rfl hle
   refine W.bs rfl ?_
   rw [Nat.mul_one]
   refine W.bs e3 (W.ret ⟨rfl,rfl,m',a',some ad,hWR',?_⟩)
   have el : X.2.young.length = (X.2.young.set (at_ + i) X.1).length:=by simp
   dsimp only [swD,swV] at d
   rw [el] at d
   exact d
theorem cw_succ {base sb mb n : Nat} {oa ya : Option Addr} {G : Gn} {all : Bool} (hG : G.Ok) (ho : G.old.length≤1000) (hy : G.young.length≤1000) (ih : CwR base sb mb oa ya G all n) : CwR base sb mb oa ya G all (n + 1):=by
 intro w σ m a b S V mu A h0 h hw hf hWR hin hA d
 have vnn:=valW_nn w
 have vle:=valW_le hw
 have hv : wOk (valW w):=⟨by omega,by omega⟩
 refine W.of (fun r hx=>Am.r97 hx) ?_
 ((try simp only [n1,n2,n3,n4,n5,n6] at d); (with_reducible repeat first|refine W.a1 d ?_|refine W.a2 ?_|refine W.a3 ?_|refine W.bo ?_|refine W.a5 d fun hw d lw kw=>?_|refine W.a6 d ?_|refine W.a7 ?_|refine W.a8 ?_))
 refine W.bs (implVal_run hw.2) ?_
 ((try simp only [n1,n2,n3,n4,n5,n6] at d); (with_reducible repeat first|refine W.a1 d ?_|refine W.a2 ?_|refine W.a3 ?_|refine W.bo ?_|refine W.a5 d fun hw d lw kw=>?_|refine W.a6 d ?_|refine W.a7 ?_|refine W.a8 ?_))
 refine W.bs (part_run hv (gmB hA d)) ?_
 ((try simp only [n1,n2,n3,n4,n5,n6] at d); (with_reducible repeat first|refine W.a1 d ?_|refine W.a2 ?_|refine W.a3 ?_|refine W.bo ?_|refine W.a5 d fun hw d lw kw=>?_|refine W.a6 d ?_|refine W.a7 ?_|refine W.a8 ?_))
 apply W.jb (stay G all w) d
 ·refine W.bs leads_run ?_
  ((try simp only [n1,n2,n3,n4,n5,n6] at d); (with_reducible repeat first|refine W.a1 d ?_|refine W.a2 ?_|refine W.a3 ?_|refine W.bo ?_|refine W.a5 d fun hw d lw kw=>?_|refine W.a6 d ?_|refine W.a7 ?_|refine W.a8 ?_))
  unfold stay
  refine W.ite (fun c=>?_) (fun c=>?_)
  ·exact W.lb rfl (by simp at c; simp [c]) (KB.refl _ _)
  have c : leadW w = true:=by simpa using c
  refine W.ite (fun c2=>?_) (fun c2=>?_)
  ·((try simp only [n1,n2,n3,n4,n5,n6] at d); (with_reducible repeat first|refine W.a1 d ?_|refine W.a2 ?_|refine W.a3 ?_|refine W.bo ?_|refine W.a5 d fun hw d lw kw=>?_|refine W.a6 d ?_|refine W.a7 ?_|refine W.a8 ?_))
   exact W.lb rfl (by simp [c,c2]) (KB.refl _ _)
  ·exact W.lb rfl (by simp at c2; simp [c,c2]) (KB.refl _ _)
 intro h1 d n1
 ((try simp only [n1,n2,n3,n4,n5,n6] at d); (with_reducible repeat first|refine W.a1 d ?_|refine W.a2 ?_|refine W.a3 ?_|refine W.bo ?_|refine W.a5 d fun hw d lw kw=>?_|refine W.a6 d ?_|refine W.a7 ?_|refine W.a8 ?_))
 rw [cp]
 refine W.ite (fun c=>?_) (fun c=>?_)
 ·rw [if_pos c]
  exact W.ret ⟨rfl,m,a,b,hWR,d⟩
 rw [if_neg c]
 have hl : leadW w = true:=by
  unfold stay at c
  cases e : leadW w with
  | true=>rfl
  | false=>rw [e] at c; exact absurd rfl c
 obtain ⟨wd1,wd2⟩:=wid_le hf.1 hl
 ((try simp only [n1,n2,n3,n4,n5,n6] at d); (with_reducible repeat first|refine W.a1 d ?_|refine W.a2 ?_|refine W.a3 ?_|refine W.bo ?_|refine W.a5 d fun hw d lw kw=>?_|refine W.a6 d ?_|refine W.a7 ?_|refine W.a8 ?_))
 refine W.bs (implVal_run hw.2) ?_
 ((try simp only [n1,n2,n3,n4,n5,n6] at d); (with_reducible repeat first|refine W.a1 d ?_|refine W.a2 ?_|refine W.a3 ?_|refine W.bo ?_|refine W.a5 d fun hw d lw kw=>?_|refine W.a6 d ?_|refine W.a7 ?_|refine W.a8 ?_))
 refine W.bs (d.rs (i:=3) rfl : mget h1 mb = some m) ?_
 rw [hWR]
 cases e : σ.wn (valW w) with
 | some v=>
  refine W.ifT rfl ?_
  refine W.bs implTag_run ?_
  ((try simp only [n1,n2,n3,n4,n5,n6] at d); (with_reducible repeat first|refine W.a1 d ?_|refine W.a2 ?_|refine W.a3 ?_|refine W.bo ?_|refine W.a5 d fun hw d lw kw=>?_|refine W.a6 d ?_|refine W.a7 ?_|refine W.a8 ?_))
  refine W.bs implMk_run ?_
  ((try simp only [n1,n2,n3,n4,n5,n6] at d); (with_reducible repeat first|refine W.a1 d ?_|refine W.a2 ?_|refine W.a3 ?_|refine W.bo ?_|refine W.a5 d fun hw d lw kw=>?_|refine W.a6 d ?_|refine W.a7 ?_|refine W.a8 ?_))
  exact W.ret ⟨rfl,m,a,b,hWR,d⟩
 | none=>
 refine W.ifF (by decide) ?_
 ((try simp only [n1,n2,n3,n4,n5,n6] at d); (with_reducible repeat first|refine W.a1 d ?_|refine W.a2 ?_|refine W.a3 ?_|refine W.bo ?_|refine W.a5 d fun hw d lw kw=>?_|refine W.a6 d ?_|refine W.a7 ?_|refine W.a8 ?_))
 refine W.bs (widthOf_run hG hw (fun h5=>?_) (gmB hA d)) ?_
 ·have:=wd1; have:=wd2
  unfold wid at wd1 wd2
  rw [if_neg h5] at wd1 wd2
  omega
 ((try simp only [n1,n2,n3,n4,n5,n6] at d); (with_reducible repeat first|refine W.a1 d ?_|refine W.a2 ?_|refine W.a3 ?_|refine W.bo ?_|refine W.a5 d fun hw d lw kw=>?_|refine W.a6 d ?_|refine W.a7 ?_|refine W.a8 ?_))
 apply W.jb (toO G all w) d
 ·((try simp only [n1,n2,n3,n4,n5,n6] at d); (with_reducible repeat first|refine W.a1 d ?_|refine W.a2 ?_|refine W.a3 ?_|refine W.bo ?_|refine W.a5 d fun hw d lw kw=>?_|refine W.a6 d ?_|refine W.a7 ?_|refine W.a8 ?_))
  unfold toO
  refine W.ite (fun c=>?_) (fun c=>?_)
  ·exact W.lb rfl (by rw [c]; rfl) (KB.refl _ _)
  ·exact W.lb rfl (by simp at c; simp [c]) (KB.refl _ _)
 intro h2 d n2
 ((try simp only [n1,n2,n3,n4,n5,n6] at d); (with_reducible repeat first|refine W.a1 d ?_|refine W.a2 ?_|refine W.a3 ?_|refine W.bo ?_|refine W.a5 d fun hw d lw kw=>?_|refine W.a6 d ?_|refine W.a7 ?_|refine W.a8 ?_))
 obtain ⟨k,hk⟩ : ∃ k : Nat,wid G w = (k : Int):=⟨(wid G w).toNat,by omega⟩
 rw [hk]
 generalize hO : toO G all w = o
 have hlen:=hin.le o
 refine W.jP (L:=[some (.pointer (at0 sb)),some (.int .i64 w),some (.int .i64 (k : Int)),some (.int .i64 (σ.len o : Int)),some (.bool o)]) (fun y=>∃ a' b',Hs base V h0 y (swD sb oa ya G all a' b' (σ.app o (List.replicate k 0)) mb) (swR base S mu A a' b' (σ.app o (List.replicate k 0)) mb m)) ?_ ?_
 ·cases o with
  | true=>
   refine W.ifT rfl ?_
   ((try simp only [n1,n2,n3,n4,n5,n6] at d); (with_reducible repeat first|refine W.a1 d ?_|refine W.a2 ?_|refine W.a3 ?_|refine W.bo ?_|refine W.a5 d fun hw d lw kw=>?_|refine W.a6 d ?_|refine W.a7 ?_|refine W.a8 ?_))
   refine W.ifT ⟨by omega,by omega⟩ ?_
   obtain ⟨a',h3,e3,d,k3⟩:=d.extW (i:=1) (m:=k) (new:=List.replicate k 0) (src:=some (rep [Value.int .i64 0] k)) rfl (by rw [rep_ivs]) (by simp) (by have : σ.old.length≤101000:=hlen; omega)
   simp only [Int.toNat_natCast]
   refine W.bs e3 ?_
   ((try simp only [n1,n2,n3,n4,n5,n6] at d); (with_reducible repeat first|refine W.a1 d ?_|refine W.a2 ?_|refine W.a3 ?_|refine W.bo ?_|refine W.a5 d fun hw d lw kw=>?_|refine W.a6 d ?_|refine W.a7 ?_|refine W.a8 ?_))
   have el : σ.old.length + k = (σ.old ++ List.replicate k 0).length:=by simp
   rw [el] at d
   exact W.inl ⟨rfl,a',b,d⟩
  | false=>
   refine W.ifF (by decide) ?_
   ((try simp only [n1,n2,n3,n4,n5,n6] at d); (with_reducible repeat first|refine W.a1 d ?_|refine W.a2 ?_|refine W.a3 ?_|refine W.bo ?_|refine W.a5 d fun hw d lw kw=>?_|refine W.a6 d ?_|refine W.a7 ?_|refine W.a8 ?_))
   refine W.ifT ⟨by omega,by omega⟩ ?_
   obtain ⟨b',h3,e3,d,k3⟩:=d.extW (i:=2) (m:=k) (new:=List.replicate k 0) (src:=some (rep [Value.int .i64 0] k)) rfl (by rw [rep_ivs]) (by simp) (by have : σ.young.length≤101000:=hlen; omega)
   simp only [Int.toNat_natCast]
   refine W.bs e3 ?_
   ((try simp only [n1,n2,n3,n4,n5,n6] at d); (with_reducible repeat first|refine W.a1 d ?_|refine W.a2 ?_|refine W.a3 ?_|refine W.bo ?_|refine W.a5 d fun hw d lw kw=>?_|refine W.a6 d ?_|refine W.a7 ?_|refine W.a8 ?_))
   have el : σ.young.length + k = (σ.young ++ List.replicate k 0).length:=by simp
   rw [el] at d
   exact W.inl ⟨rfl,a,b',d⟩
 rintro h3 ⟨a1,b1,d⟩
 ((try simp only [n1,n2,n3,n4,n5,n6] at d); (with_reducible repeat first|refine W.a1 d ?_|refine W.a2 ?_|refine W.a3 ?_|refine W.bo ?_|refine W.a5 d fun hw d lw kw=>?_|refine W.a6 d ?_|refine W.a7 ?_|refine W.a8 ?_))
 refine W.jP (L:=[some (.pointer (at0 sb)),some (.int .i64 w),some (.int .i64 (k : Int)),some (.int .i64 (σ.len o : Int)),some (.bool o),some (.int .i64 (plc o (σ.len o)))]) (· = h3) ?_ ?_
 ·cases o with
  | true=>exact W.ifF (by decide) (W.inl ⟨rfl,rfl⟩)
  | false=>
   refine W.ifT rfl ?_
   rw [w64i (n:=(σ.len false : Int) + 100000) (by omega) (by omega)]
   rw [show (σ.len false : Int) + 100000 = plc false (σ.len false) from by unfold plc; rw [if_neg (by decide)]; omega]
   exact W.inl ⟨rfl,rfl⟩
 rintro h4 rfl
 ((try simp only [n1,n2,n3,n4,n5,n6] at d); (with_reducible repeat first|refine W.a1 d ?_|refine W.a2 ?_|refine W.a3 ?_|refine W.bo ?_|refine W.a5 d fun hw d lw kw=>?_|refine W.a6 d ?_|refine W.a7 ?_|refine W.a8 ?_))
 refine W.bs implTag_run ?_
 ((try simp only [n1,n2,n3,n4,n5,n6] at d); (with_reducible repeat first|refine W.a1 d ?_|refine W.a2 ?_|refine W.a3 ?_|refine W.bo ?_|refine W.a5 d fun hw d lw kw=>?_|refine W.a6 d ?_|refine W.a7 ?_|refine W.a8 ?_))
 refine W.bs implMk_run ?_
 ((try simp only [n1,n2,n3,n4,n5,n6] at d); (with_reducible repeat first|refine W.a1 d ?_|refine W.a2 ?_|refine W.a3 ?_|refine W.bo ?_|refine W.a5 d fun hw d lw kw=>?_|refine W.a6 d ?_|refine W.a7 ?_|refine W.a8 ?_))
 refine W.bs (implVal_run hw.2) ?_
 ((try simp only [n1,n2,n3,n4,n5,n6] at d); (with_reducible repeat first|refine W.a1 d ?_|refine W.a2 ?_|refine W.a3 ?_|refine W.bo ?_|refine W.a5 d fun hw d lw kw=>?_|refine W.a6 d ?_|refine W.a7 ?_|refine W.a8 ?_))
 refine W.bs (d.rs (i:=3) rfl : mget h4 mb = some m) ?_
 have d:=d.setM (i:=3) rfl (mput m (valW w) (plc o (σ.len o)))
 refine W.bs rfl ?_
 have hkn : (wid G w).toNat = k:=by omega
 have hkk : ((k : Int)).toNat = k:=by omega
 simp only [hkk,if_neg (show ¬ (false = true) by decide)]
 have hgrow : ((σ.app o (List.replicate k 0)).put (valW w) (plc o (σ.len o))).In:=hin.grow (by simp; omega) (hf.1.pl ho hy hl) e
 refine W.wb (cw_loop (W0:=mkW (tagW w) (plc o (σ.len o))) hG ho hy hw hk (by omega) hlen hf.2 hA ih k 0 _ ((σ.app o (List.replicate k 0)).put (valW w) (plc o (σ.len o))) (mput m (valW w) (plc o (σ.len o))) a1 b1 (by omega) (by rw [Sw.len_put,Sw.len_app]; simp) (WR.put (fun p=>by rw [hWR]; cases o <;> rfl) _ _) hgrow d) ?_
 rintro ⟨q1,q2,h5⟩ ⟨y1,y2,m',a',b',y3,d5⟩
 simp only at y1 y2 d5
 subst y1; subst y2
 refine W.ifT rfl ?_
 ((try simp only [n1,n2,n3,n4,n5,n6] at d); (with_reducible repeat first|refine W.a1 d ?_|refine W.a2 ?_|refine W.a3 ?_|refine W.bo ?_|refine W.a5 d fun hw d lw kw=>?_|refine W.a6 d ?_|refine W.a7 ?_|refine W.a8 ?_))
 exact W.ret ⟨rfl,m',a',b',y3,d5⟩
theorem cw_all {base sb mb : Nat} {oa ya : Option Addr} {G : Gn} {all : Bool} (hG : G.Ok) (ho : G.old.length≤1000) (hy : G.young.length≤1000) : ∀ n,CwR base sb mb oa ya G all n
 | 0=>fun w σ m a b S V mu A h0 h _ hf=>hf.elim
 | n + 1=>cw_succ hG ho hy (cw_all hG ho hy n)
end Go.Proofs.Ytkdenmdijdmnjaa.Am
set_option linter.unusedSimpArgs false
set_option linter.unusedVariables false
namespace Go.Proofs.Ytkdenmdijdmnjaa.Am
open Go Go.RowKit
end Go.Proofs.Ytkdenmdijdmnjaa.Am
set_option linter.unusedSimpArgs false
set_option linter.unusedVariables false
namespace Go.Proofs.Ytkdenmdijdmnjaa.Am
open Go Go.RowKit
end Go.Proofs.Ytkdenmdijdmnjaa.Am
set_option linter.unusedSimpArgs false
set_option linter.unusedVariables false
namespace Go.Proofs.Ytkdenmdijdmnjaa.Am
open Go Go.RowKit
end Go.Proofs.Ytkdenmdijdmnjaa.Am
set_option linter.unusedSimpArgs false
set_option linter.unusedVariables false
namespace Go.Proofs.Ytkdenmdijdmnjaa.Am
open Go Go.RowKit
end Go.Proofs.Ytkdenmdijdmnjaa.Am
set_option linter.unusedSimpArgs false
set_option linter.unusedVariables false
namespace Go.Proofs.Ytkdenmdijdmnjaa.Am
open Go Go.RowKit
end Go.Proofs.Ytkdenmdijdmnjaa.Am
set_option linter.unusedSimpArgs false
set_option linter.unusedVariables false
namespace Go.Proofs.Ytkdenmdijdmnjaa.Am
open Go Go.RowKit
end Go.Proofs.Ytkdenmdijdmnjaa.Am
set_option linter.unusedSimpArgs false
set_option linter.unusedVariables false
namespace Go.Proofs.Ytkdenmdijdmnjaa.Am
open Go Go.RowKit
theorem Hs.copyG {base b t bytes m : Nat} {V : Fp} {h0 h : AH} {D : Ds} {R : List Rs} {vs : List Value} {src : Option (List Value)} (d : Hs base V h0 h ((b,t,[]) :: D) R) (hs : src = some vs) (hm : vs.length = m) (h1 : m≤1048576 * 4) (hby : bytes≤16) :
  ∃ a' h',Am.app base h t 1 bytes (at0 b) 0 src m = some (.slice a' m m,h')∧Hs base V h0 h' D (R ++ [⟨blk a',true,fun y=>Own base t y a' vs⟩]):=by
 have d:=d.unbox (Del.at (i:=0) rfl)
 simp only [n5,n6] at d
 have hbm : (0 + m) * bytes≤140737488355328:=by
  have : (0 + m) * bytes≤(1048576 * 4) * 16:=Nat.mul_le_mul (by omega) hby
  omega
 obtain ⟨a2,h2,e2,d,k2⟩:=d.appN (i:=R.length) (n:=0) (m:=m) (sz:=1) (bytes:=bytes) (a:=at0 b) (t:=t) (olds:=[]) (S:=(· = b)) (by simp) (fun b hb=>(blk_at0.1 hb)) (by simp) (by decide) hs hbm (by omega) (by omega)
 simp only [List.nil_append,Nat.zero_add] at e2 d
 refine ⟨a2,h2,e2,?_⟩
 have e : ∀ (x y : Rs),(R ++ [x]).set R.length y = R ++ [y]:=by intro x y; simp
 rw [e] at d
 exact d
theorem raw_ivs {h : AH} {a : Option Addr} {l : List Int} (x : Sl h a (iv .i64 l)) : rawAt h a (l.length * 1) = some (iv .i64 l):=by
 have:=x.raw (iv_leaf _ _)
 simpa using this
end Go.Proofs.Ytkdenmdijdmnjaa.Am
set_option linter.unusedSimpArgs false
set_option linter.unusedVariables false
namespace Go.Proofs.Ytkdenmdijdmnjaa.Am
open Go Go.RowKit
end Go.Proofs.Ytkdenmdijdmnjaa.Am
set_option linter.unusedSimpArgs false
set_option linter.unusedVariables false
namespace Go.Proofs.Ytkdenmdijdmnjaa.Am
open Go Go.RowKit
def Has (W : List Int) (p : Nat) (s : List Int) : Prop:=∀ k (hk : k < s.length),W[p + k]? = some s[k]
theorem Has.app {W s t : List Int} {p : Nat} (h : Has W p (s ++ t)) : Has W p s∧Has W (p + s.length) t:=by
 refine ⟨fun k hk=>?_,fun k hk=>?_⟩
 ·rw [h k (by rw [List.length_append]; omega),List.getElem_append_left hk]
 ·rw [Nat.add_assoc,h (s.length + k) (by rw [List.length_append]; omega),List.getElem_append_right (by omega)]
  simp
theorem Has.cons {W s : List Int} {x : Int} {p : Nat} (h : Has W p (x :: s)) : W[p]? = some x∧Has W (p + 1) s:=by
 obtain ⟨a,b⟩:=Has.app (s:=[x]) (t:=s) h
 exact ⟨a 0 (by simp),b⟩
theorem Has.lt {W s : List Int} {p : Nat} (h : Has W p s) (hs : s ≠ []) : p + s.length≤W.length:=by
 have hp : 0 < s.length:=List.length_pos_iff.2 hs
 have:=h (s.length - 1) (by omega)
 have:=(List.getElem?_eq_some_iff.1 this).1
 omega
end Go.Proofs.Ytkdenmdijdmnjaa.Am
set_option linter.unusedSimpArgs false
set_option linter.unusedVariables false
namespace Go.Proofs.Ytkdenmdijdmnjaa.Am
open Go Go.RowKit
end Go.Proofs.Ytkdenmdijdmnjaa.Am
set_option linter.unusedSimpArgs false
set_option linter.unusedVariables false
namespace Go.Proofs.Ytkdenmdijdmnjaa.Am
open Go Go.RowKit
end Go.Proofs.Ytkdenmdijdmnjaa.Am
set_option linter.unusedSimpArgs false
set_option linter.unusedVariables false
namespace Go.Proofs.Ytkdenmdijdmnjaa.Am
open Go Go.RowKit
end Go.Proofs.Ytkdenmdijdmnjaa.Am
set_option linter.unusedSimpArgs false
set_option linter.unusedVariables false
namespace Go.Proofs.Ytkdenmdijdmnjaa.Am
open Go Go.RowKit
theorem Del.last {α : Type} {x : α} : ∀ (l : List α),Del (l ++ [x]) x l
 | []=>.here
 | y :: l=>.there (Del.last l)
theorem Hs.asW {base b : Nat} {V : Fp} {h0 h : AH} {D D' : Ds} {R : List Rs} {l : List Int} (d : Hs base V h0 h D R) (u : Del D (b,3,iv .i64 l) D') : Hs base V h0 h D' (rW base (at0 b) l :: R):=by
 have d:=(d.unbox u).frontR (Del.last R)
 refine ⟨d.ge,d.kb,d.own,d.nd,fun s hs=>?_,?_⟩
 ·rcases List.mem_cons.1 hs with rfl|hs
  ·obtain ⟨x,_,c,m,e⟩:=d.res _ (.head _)
   exact ⟨x,fun U y y' k hs z=>z.keep k hs,fun i hi=>c i (blk_at0.1 hi),fun _ i hi=>m rfl i (blk_at0.1 hi),fun y hy hi=>e y hy (blk_at0.1 hi)⟩
  ·exact d.res s (.tail _ hs)
 ·have dj:=d.dj
  rw [List.pairwise_cons] at dj ⊢
  exact ⟨fun s hs e i hi=>dj.1 s hs e i (blk_at0.1 hi),dj.2⟩
end Go.Proofs.Ytkdenmdijdmnjaa.Am
set_option linter.unusedSimpArgs false
set_option linter.unusedVariables false
namespace Go.Proofs.Ytkdenmdijdmnjaa.Am
open Go Go.RowKit
def CopyGR (base F : Nat) : Prop:=∀ (h : AH) (oa ya : Option Addr) (G : Gn),G.old.length≤1048576→G.young.length≤1048576→GnS h oa ya G→base≤h.length →
  ∃ a b h',run (Et base) F [.agg (gensV oa ya G).toArray] h = some (.agg (gensV a b G).toArray,h')∧Hs base NoB h h' [] [rW base a G.old,rW base b G.young]
theorem copyGens_run {base : Nat} : CopyGR base 103:=by
 intro h oa ya G h1 h2 x hb
 have d:=Hs.start hb
 suffices W : Wp (run (Et base) 103 [.agg (gensV oa ya G).toArray] h) fun o=>∃ a b,o.1 = .agg (gensV a b G).toArray∧Hs base NoB h o.2 [] [rW base a G.old,rW base b G.young] by
  obtain ⟨⟨o1,o2⟩,e,a,b,y1,y2⟩:=W
  simp only at y1 y2
  subst y1
  exact ⟨a,b,o2,e,y2⟩
 refine W.of (fun r hx=>Am.r103 hx) ?_
 ((try simp only [n1,n2,n3,n4,n5,n6] at d); (with_reducible repeat first|refine W.a1 d ?_|refine W.a2 ?_|refine W.a3 ?_|refine W.bo ?_|refine W.a5 d fun hw d lw kw=>?_|refine W.a6 d ?_|refine W.a7 ?_|refine W.a8 ?_); (refine W.nD d fun p1 d _ kp1=>?_); (with_reducible repeat first|refine W.a1 d ?_|refine W.a2 ?_|refine W.a3 ?_|refine W.bo ?_|refine W.a5 d fun hw d lw kw=>?_|refine W.a6 d ?_|refine W.a7 ?_|refine W.a8 ?_); (refine W.nD d fun p2 d _ kp2=>?_); (with_reducible repeat first|refine W.a1 d ?_|refine W.a2 ?_|refine W.a3 ?_|refine W.bo ?_|refine W.a5 d fun hw d lw kw=>?_|refine W.a6 d ?_|refine W.a7 ?_|refine W.a8 ?_))
 obtain ⟨a4,h4,e4,o4,k4,f4⟩:=copyIntsO_run (base:=base) (x.1.keepN d.kb) (by omega) d.ge
 refine W.bs e4 ?_
 have d:=d.call k4 (blk a4) (fun y=>Own base 3 y a4 (iv .i64 G.old)) o4 (fun U y y' k hs x=>x.keep k hs) (fun i hi=>⟨f4 i hi,(o4.lt hi).2⟩)
 ((try simp only [n1,n2,n3,n4,n5,n6] at d); (with_reducible repeat first|refine W.a1 d ?_|refine W.a2 ?_|refine W.a3 ?_|refine W.bo ?_|refine W.a5 d fun hw d lw kw=>?_|refine W.a6 d ?_|refine W.a7 ?_|refine W.a8 ?_))
 obtain ⟨a5,h5,e5,o5,k5,f5⟩:=copyIntsO_run (base:=base) (x.2.keepN d.kb) (by omega) d.ge
 refine W.bs e5 ?_
 have d:=d.call k5 (blk a5) (fun y=>Own base 3 y a5 (iv .i64 G.young)) o5 (fun U y y' k hs x=>x.keep k hs) (fun i hi=>⟨f5 i hi,(o5.lt hi).2⟩)
 ((try simp only [n1,n2,n3,n4,n5,n6] at d); (with_reducible repeat first|refine W.a1 d ?_|refine W.a2 ?_|refine W.a3 ?_|refine W.bo ?_|refine W.a5 d fun hw d lw kw=>?_|refine W.a6 d ?_|refine W.a7 ?_|refine W.a8 ?_))
 exact W.ret ⟨a4,a5,rfl,d.takeD 0⟩
theorem l6Copy_run {base : Nat} : CopyGR base 101:=by
 intro h oa ya G h1 h2 x hb
 have d:=Hs.start hb
 suffices W : Wp (run (Et base) 101 [.agg (gensV oa ya G).toArray] h) fun o=>∃ a b,o.1 = .agg (gensV a b G).toArray∧Hs base NoB h o.2 [] [rW base a G.old,rW base b G.young] by
  obtain ⟨⟨o1,o2⟩,e,a,b,y1,y2⟩:=W
  simp only at y1 y2
  subst y1
  exact ⟨a,b,o2,e,y2⟩
 refine W.of (fun r hx=>Am.r101 hx) ?_
 ((try simp only [n1,n2,n3,n4,n5,n6] at d); (with_reducible repeat first|refine W.a1 d ?_|refine W.a2 ?_|refine W.a3 ?_|refine W.bo ?_|refine W.a5 d fun hw d lw kw=>?_|refine W.a6 d ?_|refine W.a7 ?_|refine W.a8 ?_); (refine W.nD d fun p1 d _ kp1=>?_); (with_reducible repeat first|refine W.a1 d ?_|refine W.a2 ?_|refine W.a3 ?_|refine W.bo ?_|refine W.a5 d fun hw d lw kw=>?_|refine W.a6 d ?_|refine W.a7 ?_|refine W.a8 ?_); (refine W.nD d fun p2 d _ kp2=>?_); (with_reducible repeat first|refine W.a1 d ?_|refine W.a2 ?_|refine W.a3 ?_|refine W.bo ?_|refine W.a5 d fun hw d lw kw=>?_|refine W.a6 d ?_|refine W.a7 ?_|refine W.a8 ?_); (refine W.nD d fun p3 d _ kp3=>?_); (with_reducible repeat first|refine W.a1 d ?_|refine W.a2 ?_|refine W.a3 ?_|refine W.bo ?_|refine W.a5 d fun hw d lw kw=>?_|refine W.a6 d ?_|refine W.a7 ?_|refine W.a8 ?_))
 obtain ⟨a4,h4,e4,d⟩:=d.copyG (t:=3) (bytes:=8) (m:=G.old.length) (raw_ivs (x.1.keepN d.kb)) (by simp) (by omega) (by omega)
 refine W.bs e4 ?_
 ((try simp only [n1,n2,n3,n4,n5,n6] at d); (with_reducible repeat first|refine W.a1 d ?_|refine W.a2 ?_|refine W.a3 ?_|refine W.bo ?_|refine W.a5 d fun hw d lw kw=>?_|refine W.a6 d ?_|refine W.a7 ?_|refine W.a8 ?_); (refine W.nD d fun p5 d _ kp5=>?_); (with_reducible repeat first|refine W.a1 d ?_|refine W.a2 ?_|refine W.a3 ?_|refine W.bo ?_|refine W.a5 d fun hw d lw kw=>?_|refine W.a6 d ?_|refine W.a7 ?_|refine W.a8 ?_))
 obtain ⟨a6,h6,e6,d⟩:=d.copyG (t:=3) (bytes:=8) (m:=G.young.length) (raw_ivs (x.2.keepN d.kb)) (by simp) (by omega) (by omega)
 refine W.bs e6 ?_
 ((try simp only [n1,n2,n3,n4,n5,n6] at d); (with_reducible repeat first|refine W.a1 d ?_|refine W.a2 ?_|refine W.a3 ?_|refine W.bo ?_|refine W.a5 d fun hw d lw kw=>?_|refine W.a6 d ?_|refine W.a7 ?_|refine W.a8 ?_))
 exact W.ret ⟨a4,a6,rfl,d.takeD 0⟩
end Go.Proofs.Ytkdenmdijdmnjaa.Am
set_option linter.unusedSimpArgs false
set_option linter.unusedVariables false
namespace Go.Proofs.Ytkdenmdijdmnjaa.Am
open Go Go.RowKit
end Go.Proofs.Ytkdenmdijdmnjaa.Am
set_option linter.unusedSimpArgs false
set_option linter.unusedVariables false
namespace Go.Proofs.Ytkdenmdijdmnjaa.Am
open Go Go.RowKit
def marksS (k n : Nat) : List ByteArray:=(List.range n).map fun i=>mt ((k + i : Nat) : Int)
theorem marksS_length (k n : Nat) : (marksS k n).length = n:=by simp [marksS]
theorem markStringS_loop {base : Nat} {a : Option Addr} {n k : Nat} (hn : n≤1000000000) (hk : k≤1000000000) : ∀ (d i : Nat) (h : AH),i + d = n→∀ rest : List ByteArray,rest.length = d→Own base 9 h a (stV (marksS k i ++ rest)) →
  ∃ h',loopL (B41_0 base) [some (.slice a n n),some (.int .i64 ((k + i : Nat) : Int)),some (.int .i64 (i : Int))] h = some (2,[some (.int .i64 ((k + n : Nat) : Int))],h')∧Own base 9 h' a (stV (marksS k n))∧KB (blk a) h h':=by
 intro d
 induction d with
 | zero=>
  intro i h hi rest hr ho
  have e : i = n:=by omega
  subst e
  rw [List.eq_nil_of_length_eq_zero hr,List.append_nil] at ho
  refine ⟨h,loop_off (by decide) ?_,ho,KB.refl _ _⟩
  rw [B41_0_eq]
  exact ifF (by simp) rfl
 | succ d ih=>
  intro i h hi rest hr ho
  match rest,hr with
  | z :: rest,hr=>
   have hl : (stV (marksS k i ++ z :: rest)).length = n:=by
    rw [stV_len,List.length_append,marksS_length]; simp only [List.length_cons] at hr ⊢; omega
   obtain ⟨h1,e1,k1⟩:=markText_run (base:=base) (h:=h) (k:=((k + i : Nat) : Int)) (by omega)
   obtain ⟨ad2,h',g1,g2,g3,g4,g5⟩:=(ho.keepN k1).wr (i:=i) (new:=[.string (mt ((k + i : Nat) : Int))]) (by rw [hl]; simp; omega) (by simp)
   have e : setAt (stV (marksS k i ++ z :: rest)) i [.string (mt ((k + i : Nat) : Int))] = stV (marksS k (i + 1) ++ rest):=by
    have ea : ∀ x y : List ByteArray,stV (x ++ y) = stV x ++ stV y:=fun x y=>List.map_append
    have el : (stV (marksS k i)).length = i:=by rw [stV_len,marksS_length]
    rw [ea]
    simp only [setAt,List.length_singleton]
    have e2 : (stV (marksS k i) ++ stV (z :: rest)).take i = stV (marksS k i):=by
     rw [List.take_append_of_le_length (by omega),List.take_of_length_le (by omega)]
    have e3 : (stV (marksS k i) ++ stV (z :: rest)).drop (i + 1) = stV rest:=by
     rw [List.drop_append,el]
     have : i + 1 - i = 1:=by omega
     rw [this,List.drop_of_length_le (by omega)]
     rfl
    rw [e2,e3,ea]
    simp [stV,marksS,List.range_succ]
   rw [e] at g3
   obtain ⟨h'',k2,k3,k4⟩:=ih (i + 1) h' (by omega) rest (by simpa using hr) g3
   refine ⟨h'',loop_on ?_ k2,k3,KB.trans (k1.mono fun _ _ h=>h.elim) (KB.trans g4 k4 (fun _ _ h=>h) (fun _ _ h=>h)) (fun _ _ h=>h) (fun _ _ h=>h)⟩
   rw [B41_0_eq]
   subst g1
   refine ifT (decide_eq_true (by omega)) (bs e1 (bT rfl (ifT (by omega) (bs rfl (bs (by rw [show Int.toNat (i : Int) * 1 = i from by simp]; exact g2) ?_)))))
   rw [w64i (n:=((k + i : Nat) : Int) + 1) (by omega) (by omega),w64i (n:=(i : Int) + 1) (by omega) (by omega)]
   rfl
theorem markStringS_run {base : Nat} {h : AH} {a : Option Addr} {l : List ByteArray} {k : Nat} (ho : Own base 9 h a (stV l)) (hn : l.length≤1000000000) (hk : k≤1000000000) :
  ∃ h',run (Et base) 41 [.slice a l.length l.length,.int .i64 (k : Int)] h = some (.int .i64 ((k + l.length : Nat) : Int),h')∧Own base 9 h' a (stV (marksS k l.length))∧KB (blk a) h h':=by
 obtain ⟨h',m1,m2,m3⟩:=markStringS_loop (base:=base) (a:=a) (k:=k) hn hk l.length 0 h (by omega) l rfl (by simpa [marksS] using ho)
 refine ⟨h',Am.r41 (bs m1 (ifT rfl (bI rfl rfl))),m2,m3⟩
end Go.Proofs.Ytkdenmdijdmnjaa.Am
set_option linter.unusedSimpArgs false
set_option linter.unusedVariables false
namespace Go.Proofs.Ytkdenmdijdmnjaa.Am
open Go Go.RowKit
theorem Hs.callR {base : Nat} {V : Fp} {h0 h h' : AH} {D D' : Ds} {R R' : List Rs} (d : Hs base V h0 h D R) (z : Hs base NoB h h' D' R') (hm : ∀ r ∈ R',r.mu = true) : Hs base V h0 h' D (R ++ R'):=by
 have d':=d.kN z.kb
 have hz : ∀ r ∈ R',∀ b,r.S b→h.length≤b∧b < h'.length:=fun r hr b hb=>by
  obtain ⟨_,_,x3,x4,_⟩:=z.res r hr
  exact ⟨(x4 (hm r hr) b hb).resolve_left fun h=>h,x3 b hb⟩
 refine ⟨d'.ge,d'.kb,d'.own,d'.nd,fun r hr=>?_,?_⟩
 ·rcases List.mem_append.1 hr with hr|hr
  ·exact d'.res r hr
  ·obtain ⟨x1,x2,x3,x4,_⟩:=z.res r hr
   refine ⟨x1,x2,x3,fun _ b hb=>.inr ?_,fun x hx hS=>?_⟩
   ·have:=(hz r hr b hb).1
    have:=d.kb.1
    omega
   ·have:=((d.own x hx).1.lt (blk_at0.2 rfl)).2
    have:=(hz r hr _ hS).1
    omega
 ·rw [List.pairwise_append]
  refine ⟨d'.dj,z.dj,fun r hr s hs e b h1 h2=>?_⟩
  have:=(d.res r hr).2.2.1 b h1
  have:=(hz s hs b h2).1
  omega
theorem Hs.toGn {base : Nat} {V : Fp} {h0 h : AH} {D : Ds} {R : List Rs} {oa ya : Option Addr} {G : Gn} (d : Hs base V h0 h D R) (h1 : G.old.length≤1048576) (h2 : G.young.length≤1048576) (x : GnS h oa ya G) :
  ∃ a b h',run (Et base) 31 [.agg (gensV oa ya G).toArray] h = some (.agg (gensV a b G).toArray,h')∧Hs base V h0 h' D (R ++ [rW base a G.old,rW base b G.young])∧KB NoB h h':=by
 obtain ⟨a,b,h',e,o1,o2,k,q,dj⟩:=toGens_run (base:=base) h1 h2 x d.ge
 have d:=d.call2 k (blk a) (blk b) (fun y=>Own base 3 y a (iv .i64 G.old)) (fun y=>Own base 3 y b (iv .i64 G.young)) o1 o2 (fun U y y' ky hs x=>x.keep ky hs) (fun U y y' ky hs x=>x.keep ky hs) (fun i hi=>q i (.inl hi)) (fun i hi=>q i (.inr hi)) dj
 rw [List.append_assoc] at d
 exact ⟨a,b,h',e,d,k⟩
theorem Hs.markW {base i k : Nat} {V : Fp} {h0 h : AH} {D : Ds} {R : List Rs} {a : Option Addr} {l : List Int} (d : Hs base V h0 h D R) (ei : R[i]? = some (rW base a l)) (hn : l.length≤1000000000) (hk : k≤1000000000) :
  ∃ h',run (Et base) 42 [.slice a l.length l.length,.int .i64 (k : Int)] h = some (.int .i64 ((k + l.length : Nat) : Int),h')∧Hs base V h0 h' D (R.set i (rW base a (marksI k l.length))):=by
 obtain ⟨h',e,o,kk⟩:=markIntS_run (base:=base) (k:=k) (d.rs ei : Own base 3 h a (iv .i64 l)) (by omega) (by omega)
 exact ⟨h',e,d.upd (r:=rW base a l) (r':=rW base a (marksI k l.length)) (Upd.at ei) rfl rfl kk (fun b hb=>.inl hb) o (fun U y y' ky hs x=>x.keep ky hs) (fun b hb=>.inl hb)⟩
theorem Hs.markS {base i k : Nat} {V : Fp} {h0 h : AH} {D : Ds} {R : List Rs} {a : Option Addr} {l : List ByteArray} (d : Hs base V h0 h D R) (ei : R[i]? = some (rSt base a l)) (hn : l.length≤1000000000) (hk : k≤1000000000) :
  ∃ h',run (Et base) 41 [.slice a l.length l.length,.int .i64 (k : Int)] h = some (.int .i64 ((k + l.length : Nat) : Int),h')∧Hs base V h0 h' D (R.set i (rSt base a (marksS k l.length))):=by
 obtain ⟨h',e,o,kk⟩:=markStringS_run (base:=base) (k:=k) (d.rs ei : Own base 9 h a (stV l)) (by omega) (by omega)
 exact ⟨h',e,d.upd (r:=rSt base a l) (r':=rSt base a (marksS k l.length)) (Upd.at ei) rfl rfl kk (fun b hb=>.inl hb) o (fun U y y' ky hs x=>x.keep ky hs) (fun b hb=>.inl hb)⟩
theorem Hs.markGn {base i j k : Nat} {V : Fp} {h0 h : AH} {D : Ds} {R : List Rs} {a b : Option Addr} {G : Gn} (d : Hs base V h0 h D R) (ei : R[i]? = some (rW base a G.old)) (ej : (R.set i (rW base a (marksI k G.old.length)))[j]? = some (rW base b G.young)) (h1 : G.old.length≤100000000) (h2 : G.young.length≤100000000) (hk : k≤100000000) :
  ∃ h',run (Et base) 40 [.agg (gensV a b G).toArray,.int .i64 (k : Int)] h = some (.int .i64 ((k + G.old.length + G.young.length : Nat) : Int),h')∧Hs base V h0 h' D ((R.set i (rW base a (marksI k G.old.length))).set j (rW base b (marksI (k + G.old.length) G.young.length))):=by
 suffices W : Wp (run (Et base) 40 [.agg (gensV a b G).toArray,.int .i64 (k : Int)] h) fun o=>o.1 = .int .i64 ((k + G.old.length + G.young.length : Nat) : Int)∧Hs base V h0 o.2 D ((R.set i (rW base a (marksI k G.old.length))).set j (rW base b (marksI (k + G.old.length) G.young.length))) by
  obtain ⟨⟨o1,o2⟩,e,y1,y2⟩:=W
  simp only at y1 y2
  subst y1
  exact ⟨o2,e,y2⟩
 refine W.of (fun r hx=>Am.r40 hx) ?_
 ((try simp only [n1,n2,n3,n4,n5,n6] at d); (with_reducible repeat first|refine W.a1 d ?_|refine W.a2 ?_|refine W.a3 ?_|refine W.bo ?_|refine W.a5 d fun hw d lw kw=>?_|refine W.a6 d ?_|refine W.a7 ?_|refine W.a8 ?_); (refine W.nD d fun p1 d _ kp1=>?_); (with_reducible repeat first|refine W.a1 d ?_|refine W.a2 ?_|refine W.a3 ?_|refine W.bo ?_|refine W.a5 d fun hw d lw kw=>?_|refine W.a6 d ?_|refine W.a7 ?_|refine W.a8 ?_))
 obtain ⟨h2,e2,d⟩:=d.markW ei (k:=k) (by omega) (by omega)
 refine W.bs e2 ?_
 ((try simp only [n1,n2,n3,n4,n5,n6] at d); (with_reducible repeat first|refine W.a1 d ?_|refine W.a2 ?_|refine W.a3 ?_|refine W.bo ?_|refine W.a5 d fun hw d lw kw=>?_|refine W.a6 d ?_|refine W.a7 ?_|refine W.a8 ?_))
 obtain ⟨h3,e3,d⟩:=d.markW ej (k:=k + G.old.length) (by omega) (by omega)
 refine W.bs e3 ?_
 ((try simp only [n1,n2,n3,n4,n5,n6] at d); (with_reducible repeat first|refine W.a1 d ?_|refine W.a2 ?_|refine W.a3 ?_|refine W.bo ?_|refine W.a5 d fun hw d lw kw=>?_|refine W.a6 d ?_|refine W.a7 ?_|refine W.a8 ?_))
 exact W.ret ⟨rfl,d.tl⟩
theorem heldGens_run {base k : Nat} {h : AH} {a b : Option Addr} {G : Gn} (hx : Sl h a (iv .i64 (marksI k G.old.length))) (hy : Sl h b (iv .i64 (marksI (k + G.old.length) G.young.length))) (h1 : G.old.length≤100000000) (h2 : G.young.length≤100000000) (hk : k≤100000000) (hb : base≤h.length) :
  ∃ h',run (Et base) 43 [.agg (gensV a b G).toArray,.int .i64 (k : Int)] h = some (.int .i64 ((k + G.old.length + G.young.length : Nat) : Int),h')∧KB NoB h h':=by
 have d:=Hs.start hb
 suffices W : Wp (run (Et base) 43 [.agg (gensV a b G).toArray,.int .i64 (k : Int)] h) fun o=>o.1 = .int .i64 ((k + G.old.length + G.young.length : Nat) : Int)∧KB NoB h o.2 by
  obtain ⟨⟨o1,o2⟩,e,y1,y2⟩:=W
  simp only at y1 y2
  subst y1
  exact ⟨o2,e,y2⟩
 refine W.of (fun r hx=>Am.r43 hx) ?_
 ((try simp only [n1,n2,n3,n4,n5,n6] at d); (with_reducible repeat first|refine W.a1 d ?_|refine W.a2 ?_|refine W.a3 ?_|refine W.bo ?_|refine W.a5 d fun hw d lw kw=>?_|refine W.a6 d ?_|refine W.a7 ?_|refine W.a8 ?_); (refine W.nD d fun p1 d _ kp1=>?_); (with_reducible repeat first|refine W.a1 d ?_|refine W.a2 ?_|refine W.a3 ?_|refine W.bo ?_|refine W.a5 d fun hw d lw kw=>?_|refine W.a6 d ?_|refine W.a7 ?_|refine W.a8 ?_))
 refine W.bs (heldIntS_run (base:=base) (hx.keepN d.kb) (by omega) (by omega)) ?_
 ((try simp only [n1,n2,n3,n4,n5,n6] at d); (with_reducible repeat first|refine W.a1 d ?_|refine W.a2 ?_|refine W.a3 ?_|refine W.bo ?_|refine W.a5 d fun hw d lw kw=>?_|refine W.a6 d ?_|refine W.a7 ?_|refine W.a8 ?_))
 refine W.ifF (by simp; omega) ?_
 ((try simp only [n1,n2,n3,n4,n5,n6] at d); (with_reducible repeat first|refine W.a1 d ?_|refine W.a2 ?_|refine W.a3 ?_|refine W.bo ?_|refine W.a5 d fun hw d lw kw=>?_|refine W.a6 d ?_|refine W.a7 ?_|refine W.a8 ?_))
 refine W.bs (heldIntS_run (base:=base) (hy.keepN d.kb) (by omega) (by omega)) ?_
 ((try simp only [n1,n2,n3,n4,n5,n6] at d); (with_reducible repeat first|refine W.a1 d ?_|refine W.a2 ?_|refine W.a3 ?_|refine W.bo ?_|refine W.a5 d fun hw d lw kw=>?_|refine W.a6 d ?_|refine W.a7 ?_|refine W.a8 ?_))
 refine W.ifF (by simp; omega) ?_
 exact W.ret ⟨rfl,d.kb⟩
end Go.Proofs.Ytkdenmdijdmnjaa.Am
set_option linter.unusedSimpArgs false
set_option linter.unusedVariables false
namespace Go.Proofs.Ytkdenmdijdmnjaa.Am
open Go Go.RowKit
def sw0 (G : Gn) (all : Bool) : Sw:=⟨if all = true then [] else G.old,[],fun _=>none⟩
def swp (G : Gn) (ats : List ByteArray) (roots : List Int) (all : Bool) : (Gn × List Int) × Bool:=
 if gOk G ats roots = true then
  (if decide (((cpAll false G all 133 roots (sw0 G all)).2.old.length : Int) > 1000) = true then ((G,roots),false)
  else ((⟨(cpAll false G all 133 roots (sw0 G all)).2.old,(cpAll false G all 133 roots (sw0 G all)).2.young,(cpAll false G all 133 roots (sw0 G all)).2.young.length⟩,(cpAll false G all 133 roots (sw0 G all)).1),true))
 else ((G,roots),false)
theorem gOk_parts {G : Gn} {ats : List ByteArray} {roots : List Int} (h : gOk G ats roots = true) : G.old.length≤1000∧G.young.length≤1000∧(0≤G.mark∧G.mark≤G.young.length)∧∀ w ∈ roots,Fue G 133 w:=by
 unfold gOk at h
 simp only [Bool.and_eq_true,Bool.not_eq_true',List.all_eq_true] at h
 obtain ⟨h1,h2,h3,_⟩:=gHead_ok h.1
 refine ⟨h1,h2,h3,fun w hw=>?_⟩
 have:=h.2 w hw
 unfold rootOk at this
 simp only [Bool.and_eq_true] at this
 exact gRd_fue this.1
theorem sw0_in {G : Gn} {all : Bool} (ho : G.old.length≤1000) : (sw0 G all).In:=by
 unfold Sw.In sw0
 split <;> simp <;> omega
theorem cpAll_in {G : Gn} {all : Bool} (ho : G.old.length≤1000) (hy : G.young.length≤1000) {n : Nat} : ∀ (l : List Int) (σ : Sw),(∀ w ∈ l,Fue G n w)→σ.In→(cpAll false G all n l σ).2.In
 | [],σ,_,x=>x
 | w :: r,σ,h,x=>by
  rw [cpAll]
  exact cpAll_in ho hy r _ (fun y hy'=>h y (.tail _ hy')) (cp_in ho hy n w σ (h w (.head _)) x)
theorem cpAll_len {fill : Bool} {G : Gn} {all : Bool} {n : Nat} : ∀ (l : List Int) (σ : Sw),(cpAll fill G all n l σ).1.length = l.length
 | [],σ=>rfl
 | w :: r,σ=>by rw [cpAll,List.length_cons,List.length_cons,cpAll_len r]
theorem W.nM {β : Type} {Q : β→Prop} {base : Nat} {V : Fp} {h0 h : AH} {D : Ds} {R : List Rs} (d : Hs base V h0 h D R) {f : AH→Option β} (w : ∀ h1,Hs base V h0 h1 D (R ++ [rMp h.length []])→h1.length = h.length + 1→KB NoB h h1→Wp (f h1) Q) : Wp ((some (h ++ [some (mblk [])])).bind f) Q:=w _ d.newM (by simp) (KB.push _ _ _)
theorem Hs.subR {base : Nat} {V : Fp} {h0 h : AH} {D : Ds} {R R' : List Rs} (d : Hs base V h0 h D R) (u : R'.Sublist R) : Hs base V h0 h D R':=
 ⟨d.ge,d.kb,d.own,d.nd,fun r hr=>d.res r (u.subset hr),d.dj.sublist u⟩
theorem Hs.nilW2 {base : Nat} {V : Fp} {h0 h : AH} {D : Ds} {R : List Rs} (d : Hs base V h0 h D R) : Hs base V h0 h D (R ++ [rW base none []]):=
 d.call (KB.refl _ _) (blk none) (fun y=>Own base 3 y none (iv .i64 [])) (.inl ⟨rfl,rfl⟩) (fun U y y' ky hs x=>x.keep ky hs) (fun b ⟨ad,e,_⟩=>by cases e)
def SwA (base : Nat) (oa ya : Option Addr) (G : Gn) (aa : Option Addr) (ats : List ByteArray) (ra : Option Addr) (roots : List Int) (h : AH) : Prop:=RdA base oa ya G aa ats h∧Sl h ra (iv .i64 roots)∧TyOk base h ra 3
theorem SwA.lt {base : Nat} {oa ya : Option Addr} {G : Gn} {aa : Option Addr} {ats : List ByteArray} {ra : Option Addr} {roots : List Int} {h : AH} (x : SwA base oa ya G aa ats ra roots h) : ∀ b,(blk oa b ∨ blk ya b ∨ blk aa b) ∨ blk ra b→b < h.length:=fun b hb=>hb.elim (x.1.lt b) (x.2.2.lt b)
theorem SwA.keep {base : Nat} {oa ya : Option Addr} {G : Gn} {aa : Option Addr} {ats : List ByteArray} {ra : Option Addr} {roots : List Int} {U : Fp} {h h' : AH} (x : SwA base oa ya G aa ats ra roots h) (k : KB U h h') (hU : ∀ b,b < h.length→¬ U b) : SwA base oa ya G aa ats ra roots h':=
 ⟨x.1.keep k fun i hi=>hU i (x.1.lt i hi),x.2.1.keep k fun i hi=>hU i (x.2.2.lt i hi),x.2.2.keep k fun i hi=>hU i (x.2.2.lt i hi)⟩
theorem SwA.start {base : Nat} {oa ya : Option Addr} {G : Gn} {aa : Option Addr} {ats : List ByteArray} {ra : Option Addr} {roots : List Int} {h : AH} (x : SwA base oa ya G aa ats ra roots h) (hb : base≤h.length) : Hs base NoB h h [] [⟨fun b=>b < h.length,false,SwA base oa ya G aa ats ra roots⟩]:=by
 have xl:=x.lt
 refine (Hs.start hb).inp (fun b=>b < h.length) (SwA base oa ya G aa ats ra roots) x (fun U y y' k hS q=>?_) (fun b hb=>hb) (fun x hx=>nomatch hx) rfl
 exact ⟨q.1.keep k fun i hi=>hS i (xl i (.inl hi)),q.2.1.keep k fun i hi=>hS i (xl i (.inr hi)),q.2.2.keep k fun i hi=>hS i (xl i (.inr hi))⟩
theorem W.rj {β : Type} {Q : β→Prop} {h : AH} {zs : List Int} {a : Option Addr} (hs : Sl h a (iv .i64 zs)) {i : Nat} (hi : i < zs.length) {f : Int→Option β} (w : Wp (f zs[i]) Q) : Wp (a.bind fun ad=>((Am.cell h ad.block (ad.off + i * 1)).bind (getI .i64)).bind f) Q:=by
 obtain ⟨ad,rfl,g⟩:=int_get hs hi
 exact W.bs rfl (W.bI g w)
theorem sweep_loop {base sb mb gb zb : Nat} {oa ya aa ra : Option Addr} {G : Gn} {ats : List ByteArray} {roots : List Int} {all : Bool} {S V : Fp} {mu : Bool} {h0 : AH} (hG : G.Ok) (ho : G.old.length≤1000) (hy : G.young.length≤1000) (hr : ∀ w ∈ roots,wOk w∧Fue G 133 w) (hrl : roots.length≤1048576) :
  ∀ (r i : Nat) (h : AH) (σ : Sw) (m : List (Int × Int)) (a b c : Option Addr) (out : List Int),i + r = roots.length→out.length = i→WR m σ→σ.In→Hs base V h0 h (swD sb oa ya G all a b σ mb) (swR base S mu (SwA base oa ya G aa ats ra roots) a b σ mb m ++ [rW base c out]) →
  Wp (loopL (B99_0 base) [some (.slice ra roots.length roots.length),some (.pointer (at0 gb)),some (.pointer (at0 zb)),some (.pointer (at0 sb)),some (.slice c out.length out.length),some (.slice ra roots.length roots.length),some (.int .i64 (roots.length : Int)),some (.int .i64 (i : Int))] h) fun q=>q.1 = 2∧∃ m' a' b' c',q.2.1 = [some (.slice ra roots.length roots.length),some (.pointer (at0 gb)),some (.pointer (at0 zb)),some (.pointer (at0 sb)),some (.slice c' (out ++ (cpAll false G all 133 (roots.drop i) σ).1).length (out ++ (cpAll false G all 133 (roots.drop i) σ).1).length)]∧Hs base V h0 q.2.2 (swD sb oa ya G all a' b' (cpAll false G all 133 (roots.drop i) σ).2 mb) (swR base S mu (SwA base oa ya G aa ats ra roots) a' b' (cpAll false G all 133 (roots.drop i) σ).2 mb m' ++ [rW base c' (out ++ (cpAll false G all 133 (roots.drop i) σ).1)]):=by
 intro r
 induction r with
 | zero=>
  intro i h σ m a b c out hi ho' hWR hin d
  suffices w1 : Wp (B99_0 base [some (.slice ra roots.length roots.length),some (.pointer (at0 gb)),some (.pointer (at0 zb)),some (.pointer (at0 sb)),some (.slice c out.length out.length),some (.slice ra roots.length roots.length),some (.int .i64 (roots.length : Int)),some (.int .i64 (i : Int))] h) fun q=>q = (2,[some (.slice ra roots.length roots.length),some (.pointer (at0 gb)),some (.pointer (at0 zb)),some (.pointer (at0 sb)),some (.slice c out.length out.length)],h) by
   obtain ⟨q,e,rfl⟩:=w1
   rw [List.drop_of_length_le (by omega),cpAll,List.append_nil]
   exact ⟨_,loop_off (by decide) e,rfl,m,a,b,c,rfl,d⟩
  rw [B99_0_eq]
  exact W.ifF (by simp; omega) (W.ret rfl)
 | succ r ihr=>
  intro i h σ m a b c out hi ho' hWR hin d
  have hlt : i < roots.length:=by omega
  obtain ⟨hw,hf⟩:=hr _ (List.getElem_mem hlt)
  rw [List.drop_eq_getElem_cons hlt,cpAll]
  suffices w1 : Wp (B99_0 base [some (.slice ra roots.length roots.length),some (.pointer (at0 gb)),some (.pointer (at0 zb)),some (.pointer (at0 sb)),some (.slice c out.length out.length),some (.slice ra roots.length roots.length),some (.int .i64 (roots.length : Int)),some (.int .i64 (i : Int))] h) fun q=>q.1 = 0∧∃ m' a' b' c',q.2.1 = [some (.slice ra roots.length roots.length),some (.pointer (at0 gb)),some (.pointer (at0 zb)),some (.pointer (at0 sb)),some (.slice c' (out ++ [(cp false G all 133 roots[i] σ).1]).length (out ++ [(cp false G all 133 roots[i] σ).1]).length),some (.slice ra roots.length roots.length),some (.int .i64 (roots.length : Int)),some (.int .i64 ((i : Int) + 1))]∧WR m' (cp false G all 133 roots[i] σ).2∧Hs base V h0 q.2.2 (swD sb oa ya G all a' b' (cp false G all 133 roots[i] σ).2 mb) (swR base S mu (SwA base oa ya G aa ats ra roots) a' b' (cp false G all 133 roots[i] σ).2 mb m' ++ [rW base c' (out ++ [(cp false G all 133 roots[i] σ).1])]) by
   obtain ⟨⟨o1,o2,h'⟩,e,y1,m',a',b',c',y2,y3,d'⟩:=w1
   simp only at y1 y2 d'
   subst y1; subst y2
   obtain ⟨q,eq,z1,m2,a2,b2,c2,z2,z3⟩:=ihr (i + 1) h' _ m' a' b' c' _ (by omega) (by simp; omega) y3 (cp_in ho hy 133 _ σ hf hin) d'
   refine ⟨q,loop_on e eq,z1,m2,a2,b2,c2,?_,?_⟩
   ·rw [z2,List.append_assoc]; rfl
   ·rw [List.append_assoc] at z3; exact z3
  rw [B99_0_eq]
  refine W.ifT (decide_eq_true (by omega)) (W.ifT ⟨by omega,by omega⟩ ?_)
  rw [Int.toNat_natCast]
  refine W.rj (d.rs (i:=0) rfl : SwA base oa ya G aa ats ra roots h).2.1 hlt ?_
  have d1:=Hs.part (D1:=[_]) (D2:=[]) (R1:=[_,_,_,_]) (R2:=[_]) d
  refine W.wb (cw_all (all:=all) hG ho hy 133 _ σ m a b S _ mu _ _ h hw hf hWR hin (fun y hy=>hy.1.gnO) d1) ?_
  rintro ⟨u,h2⟩ ⟨y1,m',a',b',y2,d2⟩
  simp only at y1 d2
  subst y1
  have d:=Hs.back (D1:=[_]) (D2:=[]) (R1:=[_,_,_,_]) (R2:=[_]) d d2 (fun r hr hm=>by
   simp only [List.mem_cons,List.not_mem_nil,or_false] at hr
   rcases hr with rfl|rfl|rfl|rfl
   ·exact ⟨_,.head _,hm,rfl⟩
   ·cases hm
   ·cases hm
   ·cases hm)
  ((try simp only [n1,n2,n3,n4,n5,n6] at d); (with_reducible repeat first|refine W.a1 d ?_|refine W.a2 ?_|refine W.a3 ?_|refine W.bo ?_|refine W.a5 d fun hw d lw kw=>?_|refine W.a6 d ?_|refine W.a7 ?_|refine W.a8 ?_); (refine W.nD d fun h3 d _ kh3=>?_); (with_reducible repeat first|refine W.a1 d ?_|refine W.a2 ?_|refine W.a3 ?_|refine W.bo ?_|refine W.a5 d fun hw d lw kw=>?_|refine W.a6 d ?_|refine W.a7 ?_|refine W.a8 ?_))
  obtain ⟨c5,h5,e5,d,q5,k5,_⟩:=d.app1O (w:=1) (i:=4) (n:=out.length) (bytes:=8) rfl (fun b hb=>hb) (.head _) rfl (by decide) (by simp) rfl (by omega) (by omega)
  refine W.bs e5 ?_
  ((try simp only [n1,n2,n3,n4,n5,n6] at d); (with_reducible repeat first|refine W.a1 d ?_|refine W.a2 ?_|refine W.a3 ?_|refine W.bo ?_|refine W.a5 d fun hw d lw kw=>?_|refine W.a6 d ?_|refine W.a7 ?_|refine W.a8 ?_))
  rw [w64i (n:=(i : Int) + 1) (by omega) (by omega)]
  have d:=d.tl
  rw [show iv .i64 out ++ [Value.int .i64 (cp false G all 133 roots[i] σ).1] = iv .i64 (out ++ [(cp false G all 133 roots[i] σ).1]) from by rw [← iv_append]; rfl] at d
  exact W.ret ⟨rfl,m',a',b',c5,by simp,y2,d⟩
def SwpO (base F : Nat) (all : Bool) (xs : List Value) : Prop:=∀ (h : AH) (G : Gn) (ats : List ByteArray) (roots : List Int) (oa ya aa ra : Option Addr),G.Ok→ats.length≤1048576→(∀ s ∈ ats,s.size≤maxLen)→(∀ w ∈ roots,wOk w)→roots.length≤1048576→SwA base oa ya G aa ats ra roots h→base≤h.length →
  ∃ a b c h',run (Et base) F ([.agg (gensV oa ya G).toArray,.slice aa ats.length ats.length,.slice ra roots.length roots.length] ++ xs) h = some (.tuple #[.agg (gensV a b (swp G ats roots all).1.1).toArray,.slice c (swp G ats roots all).1.2.length (swp G ats roots all).1.2.length,.bool (swp G ats roots all).2],h')∧Hs base NoB h h' [] [rW base a (swp G ats roots all).1.1.old,rW base b (swp G ats roots all).1.1.young,rW base c (swp G ats roots all).1.2]
theorem implSweep_run {base : Nat} {all : Bool} : SwpO base 99 all [.bool all]:=by
 intro h G ats roots oa ya aa ra hG ha hz hr hrl x hb
 have d:=x.start hb
 suffices W : Wp (run (Et base) 99 [.agg (gensV oa ya G).toArray,.slice aa ats.length ats.length,.slice ra roots.length roots.length,.bool all] h) fun o=>∃ a b c,o.1 = .tuple #[.agg (gensV a b (swp G ats roots all).1.1).toArray,.slice c (swp G ats roots all).1.2.length (swp G ats roots all).1.2.length,.bool (swp G ats roots all).2]∧Hs base NoB h o.2 [] [rW base a (swp G ats roots all).1.1.old,rW base b (swp G ats roots all).1.1.young,rW base c (swp G ats roots all).1.2] by
  obtain ⟨⟨o1,o2⟩,e,a,b,c,y1,y2⟩:=W
  simp only at y1 y2
  subst y1
  exact ⟨a,b,c,o2,e,y2⟩
 refine W.of (fun r hx=>Am.r99 hx) ?_
 ((try simp only [n1,n2,n3,n4,n5,n6] at d); (with_reducible repeat first|refine W.a1 d ?_|refine W.a2 ?_|refine W.a3 ?_|refine W.bo ?_|refine W.a5 d fun hw d lw kw=>?_|refine W.a6 d ?_|refine W.a7 ?_|refine W.a8 ?_); (refine W.nD d fun h1 d _ kh1=>?_); (with_reducible repeat first|refine W.a1 d ?_|refine W.a2 ?_|refine W.a3 ?_|refine W.bo ?_|refine W.a5 d fun hw d lw kw=>?_|refine W.a6 d ?_|refine W.a7 ?_|refine W.a8 ?_); (refine W.nD d fun h2 d _ kh2=>?_); (with_reducible repeat first|refine W.a1 d ?_|refine W.a2 ?_|refine W.a3 ?_|refine W.bo ?_|refine W.a5 d fun hw d lw kw=>?_|refine W.a6 d ?_|refine W.a7 ?_|refine W.a8 ?_))
 have x2 : SwA base oa ya G aa ats ra roots h2:=d.rs (i:=0) rfl
 obtain ⟨h3,e3,k3⟩:=implGensOk_run (base:=base) hG ha hz hr (by omega) x2.1 x2.2.1 x2.2.2 d.ge
 have d:=d.kN k3
 refine W.bs e3 ?_
 ((try simp only [n1,n2,n3,n4,n5,n6] at d); (with_reducible repeat first|refine W.a1 d ?_|refine W.a2 ?_|refine W.a3 ?_|refine W.bo ?_|refine W.a5 d fun hw d lw kw=>?_|refine W.a6 d ?_|refine W.a7 ?_|refine W.a8 ?_))
 unfold swp
 refine W.ite (fun c=>?_) (fun c=>?_)
 ·have c : ¬ gOk G ats roots = true:=by simpa using c
  rw [if_neg c]
  ((try simp only [n1,n2,n3,n4,n5,n6] at d); (with_reducible repeat first|refine W.a1 d ?_|refine W.a2 ?_|refine W.a3 ?_|refine W.bo ?_|refine W.a5 d fun hw d lw kw=>?_|refine W.a6 d ?_|refine W.a7 ?_|refine W.a8 ?_))
  have x3 : SwA base oa ya G aa ats ra roots h3:=d.rs (i:=0) rfl
  obtain ⟨a4,b4,h4,e4,dq⟩:=copyGens_run (base:=base) h3 oa ya G (by have:=hG.1; omega) (by have:=hG.2.1; omega) x3.1.2.2.2.1 d.ge
  have d:=d.callR dq (by simp)
  refine W.bs e4 ?_
  ((try simp only [n1,n2,n3,n4,n5,n6] at d); (with_reducible repeat first|refine W.a1 d ?_|refine W.a2 ?_|refine W.a3 ?_|refine W.bo ?_|refine W.a5 d fun hw d lw kw=>?_|refine W.a6 d ?_|refine W.a7 ?_|refine W.a8 ?_))
  have x4 : SwA base oa ya G aa ats ra roots h4:=d.rs (i:=0) rfl
  obtain ⟨a7,h7,e7,o7,k7,f7⟩:=copyIntsO_run (base:=base) x4.2.1 (by omega) d.ge
  refine W.bs e7 ?_
  have d:=d.call k7 (blk a7) (fun y=>Own base 3 y a7 (iv .i64 roots)) o7 (fun U y y' k hs x=>x.keep k hs) (fun i hi=>⟨f7 i hi,(o7.lt hi).2⟩)
  ((try simp only [n1,n2,n3,n4,n5,n6] at d); (with_reducible repeat first|refine W.a1 d ?_|refine W.a2 ?_|refine W.a3 ?_|refine W.bo ?_|refine W.a5 d fun hw d lw kw=>?_|refine W.a6 d ?_|refine W.a7 ?_|refine W.a8 ?_))
  exact W.ret ⟨a4,b4,a7,rfl,(d.takeD 0).subR (List.sublist_cons_self _ _)⟩
 have c : gOk G ats roots = true:=by simpa using c
 rw [if_pos c]
 obtain ⟨g1,g2,g3,g4⟩:=gOk_parts c
 ((try simp only [n1,n2,n3,n4,n5,n6] at d); (with_reducible repeat first|refine W.a1 d ?_|refine W.a2 ?_|refine W.a3 ?_|refine W.bo ?_|refine W.a5 d fun hw d lw kw=>?_|refine W.a6 d ?_|refine W.a7 ?_|refine W.a8 ?_))
 refine W.nM d fun h4 d qn k4=>?_
 ((try simp only [n1,n2,n3,n4,n5,n6] at d); (with_reducible repeat first|refine W.a1 d ?_|refine W.a2 ?_|refine W.a3 ?_|refine W.bo ?_|refine W.a5 d fun hw d lw kw=>?_|refine W.a6 d ?_|refine W.a7 ?_|refine W.a8 ?_); (refine W.nD d fun h5 d _ kh5=>?_); (with_reducible repeat first|refine W.a1 d ?_|refine W.a2 ?_|refine W.a3 ?_|refine W.bo ?_|refine W.a5 d fun hw d lw kw=>?_|refine W.a6 d ?_|refine W.a7 ?_|refine W.a8 ?_))
 have d:=(d.nilW2).nilW2
 have d:=d.frontR (Del.at (i:=3) rfl)
 have d:=d.frontR (Del.at (i:=3) rfl)
 have d:=d.frontR (Del.at (i:=2) rfl)
 have d : Hs base NoB h h5 [(h4.length,119,swV oa ya G all none none ⟨[],[],fun _=>none⟩ h3.length),(h1.length,63,[.slice none 0 0,.slice none 0 0,.int .i64 0]),(h.length,63,gensV oa ya G)] (swR base _ false (SwA base oa ya G aa ats ra roots) none none ⟨[],[],fun _=>none⟩ h3.length []):=d
 refine W.jP (L:=[some (.slice ra roots.length roots.length),some (.pointer (at0 h.length)),some (.pointer (at0 h1.length)),some (.pointer (at0 h4.length))]) (fun y=>∃ a',Hs base NoB h y [(h4.length,119,swV oa ya G all a' none (sw0 G all) h3.length),(h1.length,63,[.slice none 0 0,.slice none 0 0,.int .i64 0]),(h.length,63,gensV oa ya G)] (swR base (fun b=>b < h.length) false (SwA base oa ya G aa ats ra roots) a' none (sw0 G all) h3.length [])) ?_ ?_
 ·cases all with
  | true=>exact W.ifF (by decide) (W.inl ⟨rfl,none,d⟩)
  | false=>
   refine W.ifT rfl ?_
   ((try simp only [n1,n2,n3,n4,n5,n6] at d); (with_reducible repeat first|refine W.a1 d ?_|refine W.a2 ?_|refine W.a3 ?_|refine W.bo ?_|refine W.a5 d fun hw d lw kw=>?_|refine W.a6 d ?_|refine W.a7 ?_|refine W.a8 ?_))
   have x5 : SwA base oa ya G aa ats ra roots h5:=d.rs (i:=0) rfl
   obtain ⟨a7,h7,e7,o7,k7,f7⟩:=copyIntsO_run (base:=base) x5.1.2.2.2.1.1 (by omega) d.ge
   refine W.bs e7 ?_
   have d:=d.call k7 (blk a7) (fun y=>Own base 3 y a7 (iv .i64 G.old)) o7 (fun U y y' k hs x=>x.keep k hs) (fun i hi=>⟨f7 i hi,(o7.lt hi).2⟩)
   ((try simp only [n1,n2,n3,n4,n5,n6] at d); (with_reducible repeat first|refine W.a1 d ?_|refine W.a2 ?_|refine W.a3 ?_|refine W.bo ?_|refine W.a5 d fun hw d lw kw=>?_|refine W.a6 d ?_|refine W.a7 ?_|refine W.a8 ?_))
   have d:=d.frontR (Del.at (i:=4) rfl)
   have d:=d.frontR (Del.at (i:=1) rfl)
   have d:=d.subR (R':=[_,_,_,_]) ((List.Sublist.refl [_,_]).append (List.sublist_cons_self _ [_,_]))
   exact W.inl ⟨rfl,a7,d⟩
 rintro h6 ⟨a6,d⟩
 ((try simp only [n1,n2,n3,n4,n5,n6] at d); (with_reducible repeat first|refine W.a1 d ?_|refine W.a2 ?_|refine W.a3 ?_|refine W.bo ?_|refine W.a5 d fun hw d lw kw=>?_|refine W.a6 d ?_|refine W.a7 ?_|refine W.a8 ?_))
 have d:=d.nilW2
 have d1:=Hs.part (D1:=[_]) (D2:=[_,_]) (R1:=[_,_,_,_,_]) (R2:=[]) d
 refine W.wb (sweep_loop (base:=base) (roots:=roots) (gb:=h.length) (zb:=h1.length) hG g1 g2 (fun w hw=>⟨hr w hw,g4 w hw⟩) hrl roots.length 0 h6 (sw0 G all) [] a6 none none [] (by omega) rfl (fun p=>rfl) (sw0_in g1) d1) ?_
 rintro ⟨q1,q2,h7⟩ ⟨y1,m',a',b',c',y2,d2⟩
 simp only at y1 y2 d2
 subst y1; subst y2
 have d:=Hs.back (D1:=[_]) (D2:=[_,_]) (R1:=[_,_,_,_,_]) (R2:=[]) d d2 (fun r hr hm=>by
   simp only [List.mem_append,List.mem_cons,List.not_mem_nil,or_false] at hr
   rcases hr with (rfl|rfl|rfl|rfl)|rfl
   ·exact ⟨_,.head _,hm,rfl⟩
   ·cases hm
   ·cases hm
   ·cases hm
   ·cases hm)
 rw [List.drop_zero,List.nil_append] at d ⊢
 generalize hX : cpAll false G all 133 roots (sw0 G all) = X at d ⊢
 refine W.ifT rfl ?_
 ((try simp only [n1,n2,n3,n4,n5,n6] at d); (with_reducible repeat first|refine W.a1 d ?_|refine W.a2 ?_|refine W.a3 ?_|refine W.bo ?_|refine W.a5 d fun hw d lw kw=>?_|refine W.a6 d ?_|refine W.a7 ?_|refine W.a8 ?_))
 refine W.ite (fun c2=>?_) (fun c2=>?_)
 ·rw [if_pos c2]
  ((try simp only [n1,n2,n3,n4,n5,n6] at d); (with_reducible repeat first|refine W.a1 d ?_|refine W.a2 ?_|refine W.a3 ?_|refine W.bo ?_|refine W.a5 d fun hw d lw kw=>?_|refine W.a6 d ?_|refine W.a7 ?_|refine W.a8 ?_))
  have x3 : SwA base oa ya G aa ats ra roots h7:=d.rs (i:=0) rfl
  obtain ⟨a4,b4,h8,e4,dq⟩:=copyGens_run (base:=base) h7 oa ya G (by omega) (by omega) x3.1.2.2.2.1 d.ge
  have d:=d.callR dq (by simp)
  refine W.bs e4 ?_
  ((try simp only [n1,n2,n3,n4,n5,n6] at d); (with_reducible repeat first|refine W.a1 d ?_|refine W.a2 ?_|refine W.a3 ?_|refine W.bo ?_|refine W.a5 d fun hw d lw kw=>?_|refine W.a6 d ?_|refine W.a7 ?_|refine W.a8 ?_))
  have x4 : SwA base oa ya G aa ats ra roots h8:=d.rs (i:=0) rfl
  obtain ⟨a7,h9,e7,o7,k7,f7⟩:=copyIntsO_run (base:=base) x4.2.1 (by omega) d.ge
  refine W.bs e7 ?_
  have d:=d.call k7 (blk a7) (fun y=>Own base 3 y a7 (iv .i64 roots)) o7 (fun U y y' k hs x=>x.keep k hs) (fun i hi=>⟨f7 i hi,(o7.lt hi).2⟩)
  ((try simp only [n1,n2,n3,n4,n5,n6] at d); (with_reducible repeat first|refine W.a1 d ?_|refine W.a2 ?_|refine W.a3 ?_|refine W.bo ?_|refine W.a5 d fun hw d lw kw=>?_|refine W.a6 d ?_|refine W.a7 ?_|refine W.a8 ?_))
  exact W.ret ⟨a4,b4,a7,rfl,(d.takeD 0).subR (List.sublist_append_right [_,_,_,_,_] [_,_,_])⟩
 ·rw [if_neg c2]
  ((try simp only [n1,n2,n3,n4,n5,n6] at d); (with_reducible repeat first|refine W.a1 d ?_|refine W.a2 ?_|refine W.a3 ?_|refine W.bo ?_|refine W.a5 d fun hw d lw kw=>?_|refine W.a6 d ?_|refine W.a7 ?_|refine W.a8 ?_))
  exact W.ret ⟨a',b',c',rfl,(d.takeD 0).subR (R':=[_,_,_]) (((List.Sublist.refl [_,_]).append (List.sublist_cons_self _ [_])).cons _)⟩
end Go.Proofs.Ytkdenmdijdmnjaa.Am
set_option linter.unusedSimpArgs false
set_option linter.unusedVariables false
namespace Go.Proofs.Ytkdenmdijdmnjaa.Am
open Go Go.RowKit
def By6 (G : Gn) (w : Int) : Prop:=tagW w = 6→∀ i : Nat,(i : Int) < (gwd G (valW w)).getD 0→(gwd G (valW w + 1 + (i : Int))).isSome = true
def Fub (G : Gn) : Nat→Int→Prop
 | 0,_=>False
 | n + 1,w=>Nd G w∧By6 G w∧∀ x ∈ chW G w,Fub G n x
theorem Fub.fue {G : Gn} : ∀ {n : Nat} {w : Int},Fub G n w→Fue G n w
 | 0,w,h=>h.elim
 | n + 1,w,h=>⟨h.1,fun x hx=>Fub.fue (h.2.2 x hx)⟩
theorem Fub.up {G : Gn} : ∀ {n : Nat} {w : Int},Fub G n w→∀ m,n≤m→Fub G m w
 | 0,w,h,m,_=>h.elim
 | n + 1,w,h,0,e=>by omega
 | n + 1,w,h,m + 1,e=>⟨h.1,h.2.1,fun x hx=>Fub.up (h.2.2 x hx) m (by omega)⟩
theorem Fub.leaf {G : Gn} {w : Int} (h4 : tagW w ≠ 4) (h5 : tagW w ≠ 5) (h6 : tagW w = 6→∃ v,gwd G (valW w) = some v∧0≤v∧v≤40) (hb : By6 G w) : Fub G 1 w:=by
 refine ⟨⟨h6,fun h=>absurd h h4,fun h=>absurd h h5⟩,hb,fun x hx=>?_⟩
 unfold chW at hx
 rw [if_neg h5,if_neg h4] at hx
 cases hx
theorem rdB_all {G : Gn} : ∀ (n : Nat) (p : Int) (y : List Int),rdB G n p = some y→∀ i : Nat,i < n→(gwd G (p + i)).isSome = true
 | 0,p,y,e,i,hi=>by omega
 | n + 1,p,y,e,i,hi=>by
  rw [rdB] at e
  obtain ⟨w,e1,e⟩:=Option.bind_eq_some_iff.1 e
  split at e
  ·obtain ⟨z,e3,e⟩:=Option.bind_eq_some_iff.1 e
   cases i with
   | zero=>rw [show p + ((0 : Nat) : Int) = p from by omega,e1]; rfl
   | succ i=>
    have:=rdB_all n (p + 1) z e3 i (by omega)
    rw [show p + ((i + 1 : Nat) : Int) = p + 1 + (i : Int) from by omega]
    exact this
  ·cases e
theorem rdL_fub {G : Gn} {g : Int→Int→Option (Tm × Int)} {m : Nat} (hm : 1≤m) (h : ∀ w c y,g w c = some y→Fub G m w) : ∀ (n : Nat) (w c : Int) (y : List Tm × Int),rdL G g n w c = some y→Fub G (m + n + 1) w
 | 0,w,c,y,e=>by
  rw [rdL_0] at e
  by_cases h1 : w = 3
  ·subst h1
   exact Fub.up (Fub.leaf (by decide) (by decide) (fun h=>absurd h (by decide)) (fun h=>absurd h (by decide))) _ (by omega)
  ·rw [if_neg h1] at e; cases e
 | n + 1,w,c,y,e=>by
  rw [rdL_s] at e
  by_cases h1 : w = 3
  ·subst h1
   exact Fub.up (Fub.leaf (by decide) (by decide) (fun h=>absurd h (by decide)) (fun h=>absurd h (by decide))) _ (by omega)
  rw [if_neg h1] at e
  by_cases h2 : w < 0 ∨ tagW w ≠ 5
  ·rw [if_pos h2] at e; cases e
  rw [if_neg h2] at e
  obtain ⟨x,e1,e⟩:=Option.bind_eq_some_iff.1 e
  obtain ⟨t,e2,e⟩:=Option.bind_eq_some_iff.1 e
  obtain ⟨v,e3,e⟩:=Option.bind_eq_some_iff.1 e
  obtain ⟨z,e4,e⟩:=Option.bind_eq_some_iff.1 e
  have h5 : tagW w = 5:=Classical.byContradiction fun h=>h2 (.inr h)
  show Fub G (m + n + 1 + 1) w
  refine ⟨⟨fun h=>by omega,fun h=>by omega,fun _=>by rw [e1,e3]; exact ⟨rfl,rfl⟩⟩,fun h=>by omega,fun u hu=>?_⟩
  unfold chW at hu
  rw [if_pos h5,e1,e3] at hu
  simp only [Option.getD_some,List.mem_cons,List.not_mem_nil,or_false] at hu
  rcases hu with rfl|rfl
  ·exact Fub.up (h _ _ _ e2) _ (by omega)
  ·exact rdL_fub hm h n _ _ _ e4
theorem rdT_fub {G : Gn} {ats : List ByteArray} {chk : Tm→Bool} : ∀ (f : Nat) (w c : Int) (y : Tm × Int),rdT chk G ats f w c = some y→Fub G (22 * f + 1) w
 | 0,w,c,y,e=>by rw [rdT] at e; cases e
 | f + 1,w,c,y,e=>by
  have ih:=rdT_fub (G:=G) (ats:=ats) (chk:=chk) f
  rw [rdT] at e
  by_cases h1 : w < 0 ∨ 100≤c
  ·rw [if_pos h1] at e; cases e
  rw [if_neg h1] at e
  obtain ⟨x,e1,e⟩:=Option.bind_eq_some_iff.1 e
  by_cases h5 : tagW w = 5
  ·rw [if_neg (by omega),if_neg (by omega),if_neg (by omega),if_neg (by omega),if_neg (by omega),if_neg (by omega)] at e1
   obtain ⟨z,q2,e1⟩:=Option.bind_eq_some_iff.1 e1
   exact Fub.up (rdL_fub (by omega) ih _ _ _ _ q2) _ (by omega)
  by_cases h4 : tagW w = 4
  ·rw [if_neg (by omega),if_neg (by omega),if_neg (by omega),if_pos h4] at e1
   obtain ⟨v,q1,e1⟩:=Option.bind_eq_some_iff.1 e1
   by_cases hv : inB v 0 8 = true
   ·rw [if_pos hv] at e1
    obtain ⟨z,q2,e1⟩:=Option.bind_eq_some_iff.1 e1
    show Fub G (22 * (f + 1) + 1) w
    rw [show 22 * (f + 1) + 1 = 22 * f + 22 + 1 from by omega]
    have hv2 : 0≤v∧v≤8:=by unfold inB at hv; simpa using hv
    have ra:=rdS_all (Q:=Fub G (22 * f + 1)) ih _ _ _ _ q2
    refine ⟨⟨fun h=>by omega,fun _=>⟨v,q1,hv2.1,hv2.2,fun i hi=>(ra i (by omega)).1⟩,fun h=>by omega⟩,fun h=>by omega,fun u hu=>?_⟩
    unfold chW at hu
    rw [if_neg h5,if_pos h4,q1] at hu
    obtain ⟨i,hi,rfl⟩:=List.mem_map.1 hu
    have:=(ra i (by simpa using hi)).2
    exact Fub.up this _ (by omega)
   ·rw [if_neg hv] at e1; cases e1
  ·have key : tagW w = 6→∃ v,gwd G (valW w) = some v∧(0≤v∧v≤40)∧∀ i : Nat,(i : Int) < v→(gwd G (valW w + 1 + (i : Int))).isSome = true:=fun h6=>by
    rw [if_neg (by omega),if_neg (by omega),if_neg (by omega),if_neg h4,if_pos h6] at e1
    obtain ⟨v,q1,e1⟩:=Option.bind_eq_some_iff.1 e1
    by_cases hv : inB v 0 40 = true
    ·rw [if_pos hv] at e1
     obtain ⟨z,q2,e1⟩:=Option.bind_eq_some_iff.1 e1
     exact ⟨v,q1,by unfold inB at hv; simpa using hv,fun i hi=>rdB_all _ _ _ q2 i (by omega)⟩
    ·rw [if_neg hv] at e1; cases e1
   refine Fub.up (Fub.leaf h4 h5 (fun h6=>?_) fun h6=>?_) _ (by omega)
   ·obtain ⟨v,a,b,_⟩:=key h6; exact ⟨v,a,b⟩
   ·obtain ⟨v,a,_,b⟩:=key h6
    rw [a]
    exact b
theorem gRd_fub {G : Gn} {ats : List ByteArray} {w : Int} (h : (gRd G ats w).2 = true) : Fub G 133 w:=by
 obtain ⟨y,e,_⟩:=gRd_ok h
 exact rdT_fub 6 w 0 y e
theorem gOk_fub {G : Gn} {ats : List ByteArray} {roots : List Int} (h : gOk G ats roots = true) : ∀ w ∈ roots,Fub G 133 w:=fun w hw=>by
 unfold gOk at h
 simp only [Bool.and_eq_true,Bool.not_eq_true',List.all_eq_true] at h
 have:=h.2 w hw
 unfold rootOk at this
 simp only [Bool.and_eq_true] at this
 exact gRd_fub this.1
theorem szW_wid {G : Gn} {w : Int} (hn : Nd G w) (hl : leadW w = true) : szW G w = wid G w:=by
 unfold szW wid
 by_cases t5 : tagW w = 5
 ·rw [if_pos t5,if_pos t5]
 ·rw [if_neg t5,if_neg t5]
  have h3 : tagW w = 4 ∨ tagW w = 6:=by
   unfold leadW inB at hl
   simp at hl
   omega
  rw [if_pos h3]
  unfold sz1
  rcases h3 with h|h
  ·obtain ⟨v,e,a,b,_⟩:=hn.2.1 h
   rw [e]; simp only [Option.getD_some]; rw [if_pos (by unfold inB; simp; omega)]
  ·obtain ⟨v,e,a,b⟩:=hn.1 h
   rw [e]; simp only [Option.getD_some]; rw [if_pos (by unfold inB; simp; omega)]
theorem wid_some {G : Gn} {w : Int} (hn : Nd G w) (hb : By6 G w) (hl : leadW w = true) {i : Nat} (hi : (i : Int) < wid G w) : (gwd G (valW w + (i : Int))).isSome = true:=by
 cases i with
 | zero=>rw [show valW w + ((0 : Nat) : Int) = valW w from by omega]; exact hn.some hl
 | succ i=>
  unfold wid at hi
  by_cases t5 : tagW w = 5
  ·rw [if_pos t5] at hi
   have : i = 0:=by omega
   subst this
   exact (hn.2.2 t5).2
  ·rw [if_neg t5] at hi
   have h3 : tagW w = 4 ∨ tagW w = 6:=by
    unfold leadW inB at hl
    simp at hl
    omega
   rw [show valW w + ((i + 1 : Nat) : Int) = valW w + 1 + (i : Int) from by omega]
   rcases h3 with h|h
   ·obtain ⟨v,e,a,b,hc⟩:=hn.2.1 h
    rw [e] at hi
    simp only [Option.getD_some] at hi
    exact hc i (by omega)
   ·exact hb h i (by omega)
theorem gwB_wid {G : Gn} (ho : G.old.length≤1000) {w : Int} (hn : Nd G w) (hb : By6 G w) (hl : leadW w = true) : gwB G (valW w) (wid G w) = true:=by
 obtain ⟨w1,w2⟩:=wid_le hn hl
 cases h : gwB G (valW w) (wid G w) with
 | true=>rfl
 | false=>
  obtain ⟨i,hi,e⟩:=gws_no ho w1 h
  have:=wid_some hn hb hl hi
  rw [e] at this
  cases this
theorem gws_raw {G : Gn} (ho : G.old.length≤1000) {w : Int} (hn : Nd G w) (hb : By6 G w) (hl : leadW w = true) : gws G (valW w) (wid G w) = rawW G w:=by
 have hB:=gwB_wid ho hn hb hl
 have hlen:=gws_len hB
 apply List.ext_getElem
 ·rw [rawW_len]; omega
 ·intro i h1 h2
  have:=gws_at ho hB h1
  simp [rawW,this]
def WRs (lo ly : List Int) (G : Gn) (σ : Sw) : Prop:=lo.length = G.old.length∧ly.length = G.young.length∧(∀ (i : Nat) (v : Int),lo[i]? = some v→σ.wn (i : Int) = if 0≤v then some v else none)∧(∀ (i : Nat) (v : Int),ly[i]? = some v→σ.wn (100000 + (i : Int)) = if 0≤v then some v else none)
theorem WRs.set {lo ly : List Int} {G : Gn} {σ : Sw} (x : WRs lo ly G σ) (o : Bool) (i : Nat) (v : Int) : WRs lo ly G (σ.set o i v):=by
 cases o <;> exact x
theorem WRs.app {lo ly : List Int} {G : Gn} {σ : Sw} (x : WRs lo ly G σ) (o : Bool) (l : List Int) : WRs lo ly G (σ.app o l):=by
 cases o <;> exact x
theorem WRs.putO {lo ly : List Int} {G : Gn} {σ : Sw} (x : WRs lo ly G σ) {i : Nat} (hi : i < 100000) {v : Int} (hv : 0≤v) : WRs (lo.set i v) ly G (σ.put (i : Int) v):=by
 obtain ⟨x1,x2,x3,x4⟩:=x
 refine ⟨by simp [x1],x2,fun j u hj=>?_,fun j u hj=>?_⟩
 ·show (if (j : Int) = (i : Int) then some v else σ.wn (j : Int)) = _
  by_cases e : i = j
  ·subst e
   have hlt : i < lo.length:=by have:=(List.getElem?_eq_some_iff.1 hj).1; simpa using this
   rw [List.getElem?_set_self hlt] at hj
   injection hj with hj
   subst hj
   rw [if_pos rfl,if_pos hv]
  ·rw [List.getElem?_set_ne e] at hj
   rw [if_neg (by omega)]
   exact x3 j u hj
 ·show (if (100000 + (j : Int)) = (i : Int) then some v else σ.wn (100000 + (j : Int))) = _
  rw [if_neg (by omega)]
  exact x4 j u hj
theorem WRs.putY {lo ly : List Int} {G : Gn} {σ : Sw} (x : WRs lo ly G σ) (hlo : lo.length≤100000) {i : Nat} {v : Int} (hv : 0≤v) : WRs lo (ly.set i v) G (σ.put (100000 + (i : Int)) v):=by
 obtain ⟨x1,x2,x3,x4⟩:=x
 refine ⟨x1,by simp [x2],fun j u hj=>?_,fun j u hj=>?_⟩
 ·show (if (j : Int) = 100000 + (i : Int) then some v else σ.wn (j : Int)) = _
  have hlt:=(List.getElem?_eq_some_iff.1 hj).1
  rw [if_neg (by omega)]
  exact x3 j u hj
 ·show (if (100000 + (j : Int)) = 100000 + (i : Int) then some v else σ.wn (100000 + (j : Int))) = _
  by_cases e : i = j
  ·subst e
   have hlt : i < ly.length:=by have:=(List.getElem?_eq_some_iff.1 hj).1; simpa using this
   rw [List.getElem?_set_self hlt] at hj
   injection hj with hj
   subst hj
   rw [if_pos rfl,if_pos hv]
  ·rw [List.getElem?_set_ne e] at hj
   rw [if_neg (by omega)]
   exact x4 j u hj
theorem set_same {l : List Int} {i : Nat} {x : Int} (h : l[i]? = some x) : l.set i x = l:=by
 apply List.ext_getElem?
 intro j
 by_cases e : i = j
 ·subst e
  have hlt:=(List.getElem?_eq_some_iff.1 h).1
  rw [List.getElem?_set_self hlt]; exact h.symm
 ·rw [List.getElem?_set_ne e]
theorem Sw.set_same {σ : Sw} {o : Bool} {i : Nat} {x : Int} (h : (if o = true then σ.old else σ.young)[i]? = some x) : σ.set o i x = σ:=by
 obtain ⟨a,b,c⟩:=σ
 cases o
 ·show (⟨a,b.set i x,c⟩ : Sw) = _
  rw [Am.set_same (l:=b) h]
 ·show (⟨a.set i x,b,c⟩ : Sw) = _
  rw [Am.set_same (l:=a) h]
theorem app_at {G : Gn} {w : Int} {σ : Sw} {o : Bool} {p v : Int} {i : Nat} (hi : (i : Int) < wid G w) : (if o = true then ((σ.app o (rawW G w)).put p v).old else ((σ.app o (rawW G w)).put p v).young)[σ.len o + i]? = some ((gwd G (valW w + (i : Int))).getD 0):=by
 have hr : (rawW G w)[i]? = some ((gwd G (valW w + (i : Int))).getD 0):=by
  have hlt : i < (wid G w).toNat:=by omega
  simp [rawW,hlt]
 cases o
 ·show (σ.young ++ rawW G w)[σ.young.length + i]? = _
  rw [List.getElem?_append_right (by omega),Nat.add_sub_cancel_left]; exact hr
 ·show (σ.old ++ rawW G w)[σ.old.length + i]? = _
  rw [List.getElem?_append_right (by omega),Nat.add_sub_cancel_left]; exact hr
theorem cpLoop_bin {G : Gn} {w : Int} {o : Bool} {p v : Int} {go : Int→Sw→Int × Sw} (σ : Sw) (h6 : tagW w = 6) : ∀ (r i : Nat),(i : Int) + r≤wid G w→cpLoop G w o (σ.len o) go r i ((σ.app o (rawW G w)).put p v) = (σ.app o (rawW G w)).put p v
 | 0,i,_=>rfl
 | r + 1,i,hi=>by
  have c : isPt w i = false:=by unfold isPt; simp [h6]
  rw [cpLoop,if_neg (by rw [c]; decide),Sw.set_same (app_at (by omega))]
  exact cpLoop_bin σ h6 r (i + 1) (by omega)
theorem cpLoop_tup {G : Gn} {w : Int} {o : Bool} {p v : Int} {go : Int→Sw→Int × Sw} (σ : Sw) (h5 : tagW w ≠ 5) (r : Nat) (hr : ((r + 1 : Nat) : Int)≤wid G w) : cpLoop G w o (σ.len o) go (r + 1) 0 ((σ.app o (rawW G w)).put p v) = cpLoop G w o (σ.len o) go r 1 ((σ.app o (rawW G w)).put p v):=by
 have c : isPt w 0 = false:=by unfold isPt; simp [h5]
 rw [cpLoop,if_neg (by rw [c]; decide),Sw.set_same (app_at (by omega))]
end Go.Proofs.Ytkdenmdijdmnjaa.Am
set_option linter.unusedSimpArgs false
set_option linter.unusedVariables false
namespace Go.Proofs.Ytkdenmdijdmnjaa.Am
open Go Go.RowKit
theorem cp_in' {G : Gn} {all : Bool} (ho : G.old.length≤1000) (hy : G.young.length≤1000) {n : Nat} {w : Int} {σ : Sw} (h : Fue G n w) (x : σ.In) : (cp true G all n w σ).2.In:=by
 rw [← cp_fill]; exact cp_in ho hy n w σ h x
theorem cp_len' {G : Gn} {all : Bool} {n : Nat} {w : Int} {σ : Sw} (o : Bool) : σ.len o≤(cp true G all n w σ).2.len o:=by
 rw [← cp_fill]; exact cp_len o
theorem Sw.wn_set (σ : Sw) (o : Bool) (i : Nat) (x : Int) : (σ.set o i x).wn = σ.wn:=by cases o <;> rfl
theorem Sw.wn_app (σ : Sw) (o : Bool) (l : List Int) : (σ.app o l).wn = σ.wn:=by cases o <;> rfl
theorem cpLoop_wn {G : Gn} {w : Int} {o : Bool} {at_ : Nat} {go : Int→Sw→Int × Sw} {p v : Int} (h : ∀ x σ,σ.wn p = some v→(go x σ).2.wn p = some v) : ∀ (r i : Nat) (σ : Sw),σ.wn p = some v→(cpLoop G w o at_ go r i σ).wn p = some v
 | 0,i,σ,e=>e
 | r + 1,i,σ,e=>by
  rw [cpLoop]
  split
  ·exact cpLoop_wn h r (i + 1) _ (by rw [Sw.wn_set]; exact h _ _ e)
  ·exact cpLoop_wn h r (i + 1) _ (by rw [Sw.wn_set]; exact e)
theorem cp_wn {fill : Bool} {G : Gn} {all : Bool} {p v : Int} : ∀ (n : Nat) (w : Int) (σ : Sw),σ.wn p = some v→(cp fill G all n w σ).2.wn p = some v
 | 0,w,σ,e=>e
 | n + 1,w,σ,e=>by
  rw [cp]
  split
  ·exact e
  ·split
   ·exact e
   ·rename_i h
    refine cpLoop_wn (fun x σ' e'=>cp_wn n x σ' e') _ _ _ ?_
    show (if p = valW w then _ else (Sw.app σ _ _).wn p) = some v
    rw [Sw.wn_app]
    split
    ·rename_i hp; rw [hp,h] at e; cases e
    ·exact e
abbrev ssV (oa ya : Option Addr) (G : Gn) (all : Bool) (a b : Option Addr) (σ : Sw) (la lya : Option Addr) (lo ly : List Int) : List Value:=[.slice oa G.old.length G.old.length,.slice ya G.young.length G.young.length,.int .i64 G.mark,.slice a σ.old.length σ.old.length,.slice b σ.young.length σ.young.length,.int .i64 0,.slice la lo.length lo.length,.slice lya ly.length ly.length,.bool all]
abbrev ssD (tb : Nat) (oa ya : Option Addr) (G : Gn) (all : Bool) (a b : Option Addr) (σ : Sw) (la lya : Option Addr) (lo ly : List Int) : Ds:=[(tb,168,ssV oa ya G all a b σ la lya lo ly)]
abbrev ssR (base : Nat) (S : Fp) (mu : Bool) (A : AH→Prop) (a b : Option Addr) (σ : Sw) (la lya : Option Addr) (lo ly : List Int) : List Rs:=[⟨S,mu,A⟩,rW base a σ.old,rW base b σ.young,rW base la lo,rW base lya ly]
def sj (q : Bool) : Nat:=if q = true then 3 else 4
def sL (q : Bool) (lo ly : List Int) : List Int:=if q = true then lo else ly
def sA (q : Bool) (la lya : Option Addr) : Option Addr:=if q = true then la else lya
def sS (q : Bool) (lo ly : List Int) (k : Nat) (v : Int) : List Int × List Int:=if q = true then (lo.set k v,ly) else (lo,ly.set k v)
theorem ssR_get {base : Nat} {S : Fp} {mu : Bool} {A : AH→Prop} {a b : Option Addr} {σ : Sw} {la lya : Option Addr} {lo ly : List Int} (q : Bool) : (ssR base S mu A a b σ la lya lo ly)[sj q]? = some (rW base (sA q la lya) (sL q lo ly)):=by
 cases q <;> rfl
theorem ssR_set {base : Nat} {S : Fp} {mu : Bool} {A : AH→Prop} {a b : Option Addr} {σ : Sw} {la lya : Option Addr} {lo ly : List Int} (q : Bool) (k : Nat) (v : Int) : (ssR base S mu A a b σ la lya lo ly).set (sj q) (rW base (sA q la lya) ((sL q lo ly).set k v)) = ssR base S mu A a b σ la lya (sS q lo ly k v).1 (sS q lo ly k v).2:=by
 cases q <;> rfl
theorem sS_len (q : Bool) (lo ly : List Int) (k : Nat) (v : Int) : (sS q lo ly k v).1.length = lo.length∧(sS q lo ly k v).2.length = ly.length:=by
 cases q <;> simp [sS]
theorem sS_two (q : Bool) (lo ly : List Int) (k : Nat) (u v : Int) : sS q (sS q lo ly k u).1 (sS q lo ly k u).2 k v = sS q lo ly k v:=by
 cases q <;> simp [sS]
theorem sL_len {lo ly lo' ly' : List Int} (q : Bool) (h1 : lo'.length = lo.length) (h2 : ly'.length = ly.length) : (sL q lo' ly').length = (sL q lo ly).length:=by
 cases q
 ·exact h2
 ·exact h1
theorem WRs.side {lo ly : List Int} {G : Gn} {σ : Sw} (x : WRs lo ly G σ) (hlo : G.old.length≤1000) {p : Int} (hs : (gwd G p).isSome = true) : ∃ k : Nat,gwp p = (k : Int)∧k < (sL (decide (p < 100000)) lo ly).length∧(∀ u,(sL (decide (p < 100000)) lo ly)[k]? = some u→σ.wn p = if 0≤u then some u else none)∧∀ v,0≤v→WRs (sS (decide (p < 100000)) lo ly k v).1 (sS (decide (p < 100000)) lo ly k v).2 G (σ.put p v):=by
 obtain ⟨x1,x2,x3,x4⟩:=x
 cases e : gwd G p with
 | none=>rw [e] at hs; cases hs
 | some n=>
  unfold gwd at e
  split at e
  ·rename_i c
   obtain ⟨_,a,b⟩:=ati_ok e
   have hq : decide (p < 100000) = false:=by simp; omega
   rw [hq]
   refine ⟨(p - 100000).toNat,by unfold gwp; rw [if_pos c]; omega,?_,fun u hu=>?_,fun v hv=>?_⟩
   ·show _ < ly.length; omega
   ·have:=x4 _ _ hu
    rw [show (100000 : Int) + ((p - 100000).toNat : Int) = p from by omega] at this
    exact this
   ·have:=WRs.putY ⟨x1,x2,x3,x4⟩ (by omega) (i:=(p - 100000).toNat) hv
    rw [show (100000 : Int) + ((p - 100000).toNat : Int) = p from by omega] at this
    exact this
  ·rename_i c
   obtain ⟨_,a,b⟩:=ati_ok e
   have hq : decide (p < 100000) = true:=by simp; omega
   rw [hq]
   refine ⟨p.toNat,by unfold gwp; rw [if_neg c]; omega,?_,fun u hu=>?_,fun v hv=>?_⟩
   ·show _ < lo.length; omega
   ·have:=x3 _ _ hu
    rw [show ((p.toNat : Nat) : Int) = p from by omega] at this
    exact this
   ·have:=WRs.putO ⟨x1,x2,x3,x4⟩ (i:=p.toNat) (by omega) hv
    rw [show ((p.toNat : Nat) : Int) = p from by omega] at this
    exact this
def TkR (base tb : Nat) (oa ya : Option Addr) (G : Gn) (all : Bool) (n : Nat) : Prop:=∀ (w : Int) (σ : Sw) (lo ly : List Int) (a b la lya : Option Addr) (S V : Fp) (mu : Bool) (A : AH→Prop) (h0 h : AH),wOk w→Fub G n w→WRs lo ly G σ→σ.In→(∀ y,A y→GnO base y oa ya G) →
 Hs base V h0 h (ssD tb oa ya G all a b σ la lya lo ly) (ssR base S mu A a b σ la lya lo ly) →
 Wp (run (Et base) 147 [.pointer (at0 tb),.int .i64 w] h) fun o=>o.1 = .int .i64 (cp true G all n w σ).1∧∃ lo' ly' a' b',lo'.length = lo.length∧ly'.length = ly.length∧WRs lo' ly' G (cp true G all n w σ).2∧Hs base V h0 o.2 (ssD tb oa ya G all a' b' (cp true G all n w σ).2 la lya lo' ly') (ssR base S mu A a' b' (cp true G all n w σ).2 la lya lo' ly')
theorem l6Went_run {base tb : Nat} {oa ya : Option Addr} {G : Gn} {all : Bool} {a b : Option Addr} {σ : Sw} {la lya : Option Addr} {lo ly : List Int} {V : Fp} {h0 h : AH} {D : Ds} {R : List Rs} {p : Int} {k : Nat} (hk : gwp p = (k : Int)) (hp : wOk p) (d : Hs base V h0 h ((tb,168,ssV oa ya G all a b σ la lya lo ly) :: D) R) :
  run (Et base) 190 [.pointer (at0 tb),.int .i64 p] h = some (.tuple #[.slice (sA (decide (p < 100000)) la lya) (sL (decide (p < 100000)) lo ly).length (sL (decide (p < 100000)) lo ly).length,.int .i64 (k : Int)],h):=by
 obtain ⟨p1,p2⟩:=hp
 suffices W : Wp (run (Et base) 190 [.pointer (at0 tb),.int .i64 p] h) fun o=>o = (.tuple #[.slice (sA (decide (p < 100000)) la lya) (sL (decide (p < 100000)) lo ly).length (sL (decide (p < 100000)) lo ly).length,.int .i64 (k : Int)],h) by
  obtain ⟨o,e,rfl⟩:=W
  exact e
 refine W.of (fun r hx=>Am.r190 hx) ?_
 unfold gwp at hk
 refine W.ite (fun c=>?_) (fun c=>?_)
 ·rw [c]
  have c : p < 100000:=by simpa using c
  rw [if_neg (by omega)] at hk
  ((try simp only [n1,n2,n3,n4,n5,n6] at d); (with_reducible repeat first|refine W.a1 d ?_|refine W.a2 ?_|refine W.a3 ?_|refine W.bo ?_|refine W.a5 d fun hw d lw kw=>?_|refine W.a6 d ?_|refine W.a7 ?_|refine W.a8 ?_))
  exact W.ret (by rw [hk]; rfl)
 ·have c' : decide (p < 100000) = false:=by simpa using c
  rw [c']
  have c : ¬ p < 100000:=by simpa using c
  rw [if_pos (by omega)] at hk
  ((try simp only [n1,n2,n3,n4,n5,n6] at d); (with_reducible repeat first|refine W.a1 d ?_|refine W.a2 ?_|refine W.a3 ?_|refine W.bo ?_|refine W.a5 d fun hw d lw kw=>?_|refine W.a6 d ?_|refine W.a7 ?_|refine W.a8 ?_))
  rw [w64i (by omega) (by omega)]
  exact W.ret (by rw [hk]; rfl)
theorem prt0 (G : Gn) (p : Int) : (prt G p == 0) = decide (p < 100000):=by
 unfold prt
 split
 ·rename_i h; simp [h]
 ·rename_i h; split <;> simp [h]
theorem toO_at {G : Gn} {all : Bool} {w : Int} (c : ¬ stay G all w = true) (hl : leadW w = true) : toO G all w = (all || decide (valW w < 100000 + G.mark)):=by
 unfold stay at c
 unfold toO
 cases all with
 | true=>rfl
 | false=>
  rw [hl,prt0] at c
  have c : ¬ valW w < 100000:=by simpa using c
  unfold prt
  rw [if_neg c]
  simp only [Bool.false_or]
  split
  ·rw [decide_eq_true (by omega)]; rfl
  ·rw [decide_eq_false (by omega)]; rfl
theorem tk_loop {base tb n k at_ kk : Nat} {oa ya : Option Addr} {G : Gn} {all o : Bool} {w : Int} {la lya : Option Addr} {q : Bool} {nlo nly : Nat} {S V : Fp} {mu : Bool} {A : AH→Prop} {h0 : AH} (hG : G.Ok) (ho : G.old.length≤1000) (hy : G.young.length≤1000) (hw : wOk w) (hk : wid G w = (k : Int)) (hk41 : k≤41) (hat : at_≤101000) (hB : gwB G (valW w) (wid G w) = true) (hraw : gws G (valW w) (wid G w) = rawW G w) (h6 : tagW w ≠ 6) (hf : ∀ x ∈ chW G w,Fub G n x) (hA : ∀ y,A y→GnO base y oa ya G) (ih : TkR base tb oa ya G all n) :
  ∀ (r i : Nat) (h : AH) (σ : Sw) (lo ly : List Int) (a b : Option Addr),i + r = k→(tagW w ≠ 5→1≤i∧tagW w = 4)→lo.length = nlo→ly.length = nly→at_ + k≤σ.len o→WRs lo ly G σ→σ.In→Hs base V h0 h (ssD tb oa ya G all a b σ la lya lo ly) (ssR base S mu A a b σ la lya lo ly) →
  Wp (loopL (B147_0 base) [some (.pointer (at0 tb)),some (.int .i64 w),some (.int .i64 (k : Int)),some (.slice (sA q la lya) (if q = true then nlo else nly) (if q = true then nlo else nly)),some (.int .i64 (kk : Int)),some (.slice (shiftA (gwa oa ya (valW w)) (gwp (valW w)).toNat) k k),some (.bool o),some (.int .i64 (at_ : Int)),some (.int .i64 (i : Int))] h) fun z=>z.1 = 2∧z.2.1 = [some (.int .i64 w),some (.slice (sA q la lya) (if q = true then nlo else nly) (if q = true then nlo else nly)),some (.int .i64 (kk : Int))]∧∃ lo' ly' a' b',lo'.length = nlo∧ly'.length = nly∧WRs lo' ly' G (cpLoop G w o at_ (cp true G all n) r i σ)∧Hs base V h0 z.2.2 (ssD tb oa ya G all a' b' (cpLoop G w o at_ (cp true G all n) r i σ) la lya lo' ly') (ssR base S mu A a' b' (cpLoop G w o at_ (cp true G all n) r i σ) la lya lo' ly'):=by
 intro r
 have hlen : (rawW G w).length = k:=by rw [rawW_len]; omega
 induction r with
 | zero=>
  intro i h σ lo ly a b hi h5 hlo hly hl hW hin d
  suffices w1 : Wp (B147_0 base [some (.pointer (at0 tb)),some (.int .i64 w),some (.int .i64 (k : Int)),some (.slice (sA q la lya) (if q = true then nlo else nly) (if q = true then nlo else nly)),some (.int .i64 (kk : Int)),some (.slice (shiftA (gwa oa ya (valW w)) (gwp (valW w)).toNat) k k),some (.bool o),some (.int .i64 (at_ : Int)),some (.int .i64 (i : Int))] h) fun z=>z.1 = 2∧z.2.1 = [some (.int .i64 w),some (.slice (sA q la lya) (if q = true then nlo else nly) (if q = true then nlo else nly)),some (.int .i64 (kk : Int))]∧Hs base V h0 z.2.2 (ssD tb oa ya G all a b σ la lya lo ly) (ssR base S mu A a b σ la lya lo ly) by
   obtain ⟨⟨z1,z2,z3⟩,e,y1,y2,y3⟩:=w1
   simp only at y1 y2 y3
   subst y1; subst y2
   exact ⟨_,loop_off (by decide) e,rfl,rfl,lo,ly,a,b,hlo,hly,hW,y3⟩
  rw [B147_0_eq]
  apply W.jb false d
  ·refine W.ifF (by simp; omega) ?_
   exact W.lb rfl rfl (KB.refl _ _)
  intro h1 d q1
  ((try simp only [n1,n2,n3,n4,n5,n6] at d); (with_reducible repeat first|refine W.a1 d ?_|refine W.a2 ?_|refine W.a3 ?_|refine W.bo ?_|refine W.a5 d fun hw d lw kw=>?_|refine W.a6 d ?_|refine W.a7 ?_|refine W.a8 ?_))
  refine W.ifF (by decide) (W.ret ⟨rfl,rfl,d⟩)
 | succ r ihr=>
  intro i h σ lo ly a b hi h5 hlo hly hl hW hin d
  have c : isPt w i = true:=by
   unfold isPt
   by_cases t5 : tagW w = 5
   ·simp [t5]
   ·obtain ⟨a1,a2⟩:=h5 t5
    simp [a2]; omega
  have hm:=chW_at (G:=G) (w:=w) (i:=i) (by omega) c
  rw [cpLoop,if_pos c]
  generalize hX : cp true G all n ((gwd G (valW w + (i : Int))).getD 0) σ = X
  have hXin : X.2.In:=by rw [← hX]; exact cp_in' ho hy (hf _ hm).fue hin
  have hXl : ∀ p,σ.len p≤X.2.len p:=fun p=>by rw [← hX]; exact cp_len' p
  suffices w1 : Wp (B147_0 base [some (.pointer (at0 tb)),some (.int .i64 w),some (.int .i64 (k : Int)),some (.slice (sA q la lya) (if q = true then nlo else nly) (if q = true then nlo else nly)),some (.int .i64 (kk : Int)),some (.slice (shiftA (gwa oa ya (valW w)) (gwp (valW w)).toNat) k k),some (.bool o),some (.int .i64 (at_ : Int)),some (.int .i64 (i : Int))] h) fun z=>z.1 = 0∧z.2.1 = [some (.pointer (at0 tb)),some (.int .i64 w),some (.int .i64 (k : Int)),some (.slice (sA q la lya) (if q = true then nlo else nly) (if q = true then nlo else nly)),some (.int .i64 (kk : Int)),some (.slice (shiftA (gwa oa ya (valW w)) (gwp (valW w)).toNat) k k),some (.bool o),some (.int .i64 (at_ : Int)),some (.int .i64 ((i : Int) + 1))]∧∃ lo' ly' a' b',lo'.length = nlo∧ly'.length = nly∧WRs lo' ly' G (X.2.set o (at_ + i) X.1)∧Hs base V h0 z.2.2 (ssD tb oa ya G all a' b' (X.2.set o (at_ + i) X.1) la lya lo' ly') (ssR base S mu A a' b' (X.2.set o (at_ + i) X.1) la lya lo' ly') by
   obtain ⟨⟨o1,o2,h'⟩,e,y1,y2,lo',ly',a',b',y3,y4,y5,d'⟩:=w1
   simp only at y1 y2 d'
   subst y1; subst y2
   obtain ⟨z,ez,zz⟩:=ihr (i + 1) h' _ lo' ly' a' b' (by omega) (fun t=>⟨by omega,(h5 t).2⟩) y3 y4 (by rw [Sw.len_set]; have:=hXl o; omega) y5 (hXin.set _ _ _) d'
   exact ⟨z,loop_on e ez,zz⟩
  rw [B147_0_eq]
  apply W.jb true d
  ·refine W.ifT (decide_eq_true (by omega)) ?_
   refine W.bs specTag_run ?_
   ((try simp only [n1,n2,n3,n4,n5,n6] at d); (with_reducible repeat first|refine W.a1 d ?_|refine W.a2 ?_|refine W.a3 ?_|refine W.bo ?_|refine W.a5 d fun hw d lw kw=>?_|refine W.a6 d ?_|refine W.a7 ?_|refine W.a8 ?_))
   exact W.lb rfl (by simp [bne,h6]) (KB.refl _ _)
  intro h1 d q1
  ((try simp only [n1,n2,n3,n4,n5,n6] at d); (with_reducible repeat first|refine W.a1 d ?_|refine W.a2 ?_|refine W.a3 ?_|refine W.bo ?_|refine W.a5 d fun hw d lw kw=>?_|refine W.a6 d ?_|refine W.a7 ?_|refine W.a8 ?_))
  refine W.ifT rfl ?_
  refine W.jP (L:=[some (.pointer (at0 tb)),some (.int .i64 w),some (.int .i64 (k : Int)),some (.slice (sA q la lya) (if q = true then nlo else nly) (if q = true then nlo else nly)),some (.int .i64 (kk : Int)),some (.slice (shiftA (gwa oa ya (valW w)) (gwp (valW w)).toNat) k k),some (.bool o),some (.int .i64 (at_ : Int)),some (.int .i64 (i : Int))]) (fun y=>∃ lo' ly' a' b',lo'.length = nlo∧ly'.length = nly∧WRs lo' ly' G (X.2.set o (at_ + i) X.1)∧Hs base V h0 y (ssD tb oa ya G all a' b' (X.2.set o (at_ + i) X.1) la lya lo' ly') (ssR base S mu A a' b' (X.2.set o (at_ + i) X.1) la lya lo' ly')) ?_ ?_
  ·refine W.ifT ⟨by omega,by show (i : Int) < (k : Int); omega⟩ ?_
   have sl:=(hA _ (d.rs (i:=0) rfl)).sl hB
   rw [hraw] at sl
   dsimp only
   rw [Int.toNat_natCast]
   refine W.rj sl (by rw [hlen]; omega) ?_
   have er : (rawW G w)[i]'(by rw [hlen]; omega) = (gwd G (valW w + (i : Int))).getD 0:=by simp [rawW]
   rw [er]
   refine W.wb (ih _ σ lo ly a b la lya S V mu A h0 h1 (chW_ok hG hm) (hf _ hm) hW hin hA d) ?_
   rintro ⟨u,h2⟩ ⟨y1,lo',ly',a',b',y3,y4,y5,d2⟩
   simp only at y1 d2
   rw [hX] at y1 y5 d2
   subst y1
   have d:=d2
   have hle : at_ + i < X.2.len o:=by have:=hXl o; omega
   ((try simp only [n1,n2,n3,n4,n5,n6] at d); (with_reducible repeat first|refine W.a1 d ?_|refine W.a2 ?_|refine W.a3 ?_|refine W.bo ?_|refine W.a5 d fun hw d lw kw=>?_|refine W.a6 d ?_|refine W.a7 ?_|refine W.a8 ?_))
   cases o with
   | true=>
    refine W.ifT rfl ?_
    ((try simp only [n1,n2,n3,n4,n5,n6] at d); (with_reducible repeat first|refine W.a1 d ?_|refine W.a2 ?_|refine W.a3 ?_|refine W.bo ?_|refine W.a5 d fun hw d lw kw=>?_|refine W.a6 d ?_|refine W.a7 ?_|refine W.a8 ?_))
    dsimp only
    rw [w64i (n:=(at_ : Int) + (i : Int)) (by omega) (by omega)]
    rw [show (at_ : Int) + (i : Int) = ((at_ + i : Nat) : Int) from by omega,Int.toNat_natCast]
    refine W.ifT ⟨by omega,by have : at_ + i < X.2.old.length:=hle; omega⟩ ?_
    obtain ⟨ad,h3,rfl,e3,d,_⟩:=d.setW (i:=1) (j:=at_ + i) (v:=X.1) rfl hle
    refine W.bs rfl ?_
    rw [Nat.mul_one]
    refine W.bs e3 ?_
    have el : X.2.old.length = (X.2.old.set (at_ + i) X.1).length:=by simp
    dsimp only [ssD,ssV] at d
    rw [el] at d
    exact W.inl ⟨rfl,lo',ly',some ad,b',by omega,by omega,y5.set _ _ _,d⟩
   | false=>
    refine W.ifF (by decide) ?_
    ((try simp only [n1,n2,n3,n4,n5,n6] at d); (with_reducible repeat first|refine W.a1 d ?_|refine W.a2 ?_|refine W.a3 ?_|refine W.bo ?_|refine W.a5 d fun hw d lw kw=>?_|refine W.a6 d ?_|refine W.a7 ?_|refine W.a8 ?_))
    dsimp only
    rw [w64i (n:=(at_ : Int) + (i : Int)) (by omega) (by omega)]
    rw [show (at_ : Int) + (i : Int) = ((at_ + i : Nat) : Int) from by omega,Int.toNat_natCast]
    refine W.ifT ⟨by omega,by have : at_ + i < X.2.young.length:=hle; omega⟩ ?_
    obtain ⟨ad,h3,rfl,e3,d,_⟩:=d.setW (i:=2) (j:=at_ + i) (v:=X.1) rfl hle
    refine W.bs rfl ?_
    rw [Nat.mul_one]
    refine W.bs e3 ?_
    have el : X.2.young.length = (X.2.young.set (at_ + i) X.1).length:=by simp
    dsimp only [ssD,ssV] at d
    rw [el] at d
    exact W.inl ⟨rfl,lo',ly',a',some ad,by omega,by omega,y5.set _ _ _,d⟩
  rintro h2 ⟨lo',ly',a',b',y3,y4,y5,d⟩
  ((try simp only [n1,n2,n3,n4,n5,n6] at d); (with_reducible repeat first|refine W.a1 d ?_|refine W.a2 ?_|refine W.a3 ?_|refine W.bo ?_|refine W.a5 d fun hw d lw kw=>?_|refine W.a6 d ?_|refine W.a7 ?_|refine W.a8 ?_))
  dsimp only
  rw [w64i (n:=(i : Int) + 1) (by omega) (by omega)]
  exact W.ret ⟨rfl,rfl,lo',ly',a',b',y3,y4,y5,d⟩
theorem tk_succ {base tb n : Nat} {oa ya : Option Addr} {G : Gn} {all : Bool} (hG : G.Ok) (ho : G.old.length≤1000) (hy : G.young.length≤1000) (hmk : 0≤G.mark∧G.mark≤1000) (ih : TkR base tb oa ya G all n) : TkR base tb oa ya G all (n + 1):=by
 intro w σ lo ly a b la lya S V mu A h0 h hw hf hW hin hA d
 have vnn:=valW_nn w
 have vle:=valW_le hw
 have hv : wOk (valW w):=⟨by omega,by omega⟩
 refine W.of (fun r hx=>Am.r147 hx) ?_
 ((try simp only [n1,n2,n3,n4,n5,n6] at d); (with_reducible repeat first|refine W.a1 d ?_|refine W.a2 ?_|refine W.a3 ?_|refine W.bo ?_|refine W.a5 d fun hw d lw kw=>?_|refine W.a6 d ?_|refine W.a7 ?_|refine W.a8 ?_))
 obtain ⟨h1,e1,k1⟩:=l6Size_run hG ho hw (hA _ (d.rs (i:=0) rfl)) d.ge
 have d:=d.kN k1
 refine W.bs e1 ?_
 ((try simp only [n1,n2,n3,n4,n5,n6] at d); (with_reducible repeat first|refine W.a1 d ?_|refine W.a2 ?_|refine W.a3 ?_|refine W.bo ?_|refine W.a5 d fun hw d lw kw=>?_|refine W.a6 d ?_|refine W.a7 ?_|refine W.a8 ?_))
 refine W.bs (specVal_run hw.2) ?_
 ((try simp only [n1,n2,n3,n4,n5,n6] at d); (with_reducible repeat first|refine W.a1 d ?_|refine W.a2 ?_|refine W.a3 ?_|refine W.bo ?_|refine W.a5 d fun hw d lw kw=>?_|refine W.a6 d ?_|refine W.a7 ?_|refine W.a8 ?_))
 apply W.jb (stay G all w) d
 ·have hs:=szW_lead hf.1
  unfold stay
  rw [prt0]
  refine W.ite (fun c=>?_) (fun c=>?_)
  ·rw [hs] at c
   exact W.lb rfl (by rw [c]; rfl) (KB.refl _ _)
  rw [hs] at c
  have c : leadW w = true:=by simpa using c
  refine W.ite (fun c2=>?_) (fun c2=>?_)
  ·((try simp only [n1,n2,n3,n4,n5,n6] at d); (with_reducible repeat first|refine W.a1 d ?_|refine W.a2 ?_|refine W.a3 ?_|refine W.bo ?_|refine W.a5 d fun hw d lw kw=>?_|refine W.a6 d ?_|refine W.a7 ?_|refine W.a8 ?_))
   exact W.lb rfl (by rw [c,c2]; simp) (KB.refl _ _)
  ·have c2 : decide (valW w < 100000) = false:=by simpa using c2
   exact W.lb rfl (by rw [c,c2]; rfl) (KB.refl _ _)
 intro h2 d q2
 ((try simp only [n1,n2,n3,n4,n5,n6] at d); (with_reducible repeat first|refine W.a1 d ?_|refine W.a2 ?_|refine W.a3 ?_|refine W.bo ?_|refine W.a5 d fun hw d lw kw=>?_|refine W.a6 d ?_|refine W.a7 ?_|refine W.a8 ?_))
 rw [cp]
 refine W.ite (fun c=>?_) (fun c=>?_)
 ·rw [if_pos c]
  exact W.ret ⟨rfl,lo,ly,a,b,rfl,rfl,hW,d⟩
 rw [if_neg c]
 have hl : leadW w = true:=by
  unfold stay at c
  cases e : leadW w with
  | true=>rfl
  | false=>rw [e] at c; exact absurd rfl c
 obtain ⟨wd1,wd2⟩:=wid_le hf.1 hl
 rw [szW_wid hf.1 hl]
 have hB:=gwB_wid ho hf.1 hf.2.1 hl
 have hraw:=gws_raw ho hf.1 hf.2.1 hl
 obtain ⟨kk,hkk,hklt,hget,hput⟩:=hW.side ho (hf.1.some hl)
 refine W.bs (l6Went_run hkk hv d) ?_
 ((try simp only [n1,n2,n3,n4,n5,n6] at d); (with_reducible repeat first|refine W.a1 d ?_|refine W.a2 ?_|refine W.a3 ?_|refine W.bo ?_|refine W.a5 d fun hw d lw kw=>?_|refine W.a6 d ?_|refine W.a7 ?_|refine W.a8 ?_))
 generalize hQ : decide (valW w < 100000) = q at hklt hget hput ⊢
 have rq : ∀ {y : AH} {a b : Option Addr} {σ : Sw} {lo ly : List Int},Hs base V h0 y (ssD tb oa ya G all a b σ la lya lo ly) (ssR base S mu A a b σ la lya lo ly)→Sl y (sA q la lya) (iv .i64 (sL q lo ly)):=fun d=>Own.sl (d.rs (ssR_get q))
 dsimp only
 rw [Int.toNat_natCast]
 refine W.rj (rq d) hklt ?_
 have hg:=hget _ (List.getElem?_eq_getElem hklt)
 refine W.ite (fun c2=>?_) (fun c2=>?_)
 ·have c2 : 0≤(sL q lo ly)[kk]:=by simpa using c2
  rw [if_pos c2] at hg
  rw [hg]
  refine W.bs specTag_run ?_
  ((try simp only [n1,n2,n3,n4,n5,n6] at d); (with_reducible repeat first|refine W.a1 d ?_|refine W.a2 ?_|refine W.a3 ?_|refine W.bo ?_|refine W.a5 d fun hw d lw kw=>?_|refine W.a6 d ?_|refine W.a7 ?_|refine W.a8 ?_))
  obtain ⟨ad,e3,g3⟩:=int_get (rq d) hklt
  dsimp only at e3 ⊢
  rw [e3]
  refine W.bs rfl (W.gt (fun ad _=>⟨fun _ _=>rfl,rfl⟩) ?_)
  refine W.bI g3 ?_
  refine W.bs specMk_run ?_
  ((try simp only [n1,n2,n3,n4,n5,n6] at d); (with_reducible repeat first|refine W.a1 d ?_|refine W.a2 ?_|refine W.a3 ?_|refine W.bo ?_|refine W.a5 d fun hw d lw kw=>?_|refine W.a6 d ?_|refine W.a7 ?_|refine W.a8 ?_))
  exact W.ret ⟨rfl,lo,ly,a,b,rfl,rfl,hW,d⟩
 have c2 : ¬ 0≤(sL q lo ly)[kk]:=by simpa using c2
 rw [if_neg c2] at hg
 rw [hg]
 ((try simp only [n1,n2,n3,n4,n5,n6] at d); (with_reducible repeat first|refine W.a1 d ?_|refine W.a2 ?_|refine W.a3 ?_|refine W.bo ?_|refine W.a5 d fun hw d lw kw=>?_|refine W.a6 d ?_|refine W.a7 ?_|refine W.a8 ?_))
 have hwid : wOk (wid G w):=⟨by omega,by omega⟩
 obtain ⟨a3,h3,e3,s3,k3,f3⟩:=l6Words_run (base:=base) hG hv hwid (hA _ (d.rs (i:=0) rfl)) d.ge
 have d:=d.kN k3
 refine W.bs e3 ?_
 rw [f3 hB,hraw,hB]
 ((try simp only [n1,n2,n3,n4,n5,n6] at d); (with_reducible repeat first|refine W.a1 d ?_|refine W.a2 ?_|refine W.a3 ?_|refine W.bo ?_|refine W.a5 d fun hw d lw kw=>?_|refine W.a6 d ?_|refine W.a7 ?_|refine W.a8 ?_))
 obtain ⟨k,hk⟩ : ∃ k : Nat,wid G w = (k : Int):=⟨(wid G w).toNat,by omega⟩
 have hlen : (rawW G w).length = k:=by rw [rawW_len]; omega
 rw [hlen,hk]
 apply W.jb (toO G all w) d
 ·rw [toO_at c hl]
  ((try simp only [n1,n2,n3,n4,n5,n6] at d); (with_reducible repeat first|refine W.a1 d ?_|refine W.a2 ?_|refine W.a3 ?_|refine W.bo ?_|refine W.a5 d fun hw d lw kw=>?_|refine W.a6 d ?_|refine W.a7 ?_|refine W.a8 ?_))
  cases all with
  | true=>exact W.ifT rfl (W.lb rfl rfl (KB.refl _ _))
  | false=>
   refine W.ifF (by decide) ?_
   ((try simp only [n1,n2,n3,n4,n5,n6] at d); (with_reducible repeat first|refine W.a1 d ?_|refine W.a2 ?_|refine W.a3 ?_|refine W.bo ?_|refine W.a5 d fun hw d lw kw=>?_|refine W.a6 d ?_|refine W.a7 ?_|refine W.a8 ?_))
   rw [w64i (n:=100000 + G.mark) (by omega) (by omega)]
   exact W.lb rfl rfl (KB.refl _ _)
 intro h4 d q4
 ((try simp only [n1,n2,n3,n4,n5,n6] at d); (with_reducible repeat first|refine W.a1 d ?_|refine W.a2 ?_|refine W.a3 ?_|refine W.bo ?_|refine W.a5 d fun hw d lw kw=>?_|refine W.a6 d ?_|refine W.a7 ?_|refine W.a8 ?_))
 generalize hO : toO G all w = o
 have hle:=hin.le o
 simp only [if_true]
 obtain ⟨al,eal⟩ : ∃ al,shiftA (gwa oa ya (valW w)) (gwp (valW w)).toNat = al:=⟨_,rfl⟩
 have hal : ∀ {y : AH},GnO base y oa ya G→rawAt y al (k * 1) = some (iv .i64 (rawW G w)):=fun x=>by
  have:=(x.sl hB).raw (iv_leaf _ _)
  rw [hraw,iv_length,hlen,eal] at this
  rw [Nat.mul_one]; exact this
 rw [eal]
 refine W.jP (L:=[some (.pointer (at0 tb)),some (.int .i64 w),some (.int .i64 (k : Int)),some (.slice (sA q la lya) (sL q lo ly).length (sL q lo ly).length),some (.int .i64 (kk : Int)),some (.slice al k k),some (.bool o),some (.int .i64 (σ.len o : Int))]) (fun y=>∃ a' b',Hs base V h0 y (ssD tb oa ya G all a' b' (σ.app o (rawW G w)) la lya lo ly) (ssR base S mu A a' b' (σ.app o (rawW G w)) la lya lo ly)) ?_ ?_
 ·cases o with
  | true=>
   refine W.ifT rfl ?_
   ((try simp only [n1,n2,n3,n4,n5,n6] at d); (with_reducible repeat first|refine W.a1 d ?_|refine W.a2 ?_|refine W.a3 ?_|refine W.bo ?_|refine W.a5 d fun hw d lw kw=>?_|refine W.a6 d ?_|refine W.a7 ?_|refine W.a8 ?_))
   dsimp only
   rw [hal (hA _ (d.rs (i:=0) rfl))]
   obtain ⟨a',h5,e5,d,k5⟩:=d.extW (i:=1) (m:=k) (new:=rawW G w) (src:=some (iv .i64 (rawW G w))) rfl rfl hlen (by have : σ.old.length≤101000:=hle; omega)
   refine W.bs e5 ?_
   ((try simp only [n1,n2,n3,n4,n5,n6] at d); (with_reducible repeat first|refine W.a1 d ?_|refine W.a2 ?_|refine W.a3 ?_|refine W.bo ?_|refine W.a5 d fun hw d lw kw=>?_|refine W.a6 d ?_|refine W.a7 ?_|refine W.a8 ?_))
   have el : σ.old.length + k = (σ.old ++ rawW G w).length:=by simp [hlen]
   rw [el] at d
   exact W.inl ⟨rfl,a',b,d⟩
  | false=>
   refine W.ifF (by decide) ?_
   ((try simp only [n1,n2,n3,n4,n5,n6] at d); (with_reducible repeat first|refine W.a1 d ?_|refine W.a2 ?_|refine W.a3 ?_|refine W.bo ?_|refine W.a5 d fun hw d lw kw=>?_|refine W.a6 d ?_|refine W.a7 ?_|refine W.a8 ?_))
   dsimp only
   rw [hal (hA _ (d.rs (i:=0) rfl))]
   obtain ⟨b',h5,e5,d,k5⟩:=d.extW (i:=2) (m:=k) (new:=rawW G w) (src:=some (iv .i64 (rawW G w))) rfl rfl hlen (by have : σ.young.length≤101000:=hle; omega)
   refine W.bs e5 ?_
   ((try simp only [n1,n2,n3,n4,n5,n6] at d); (with_reducible repeat first|refine W.a1 d ?_|refine W.a2 ?_|refine W.a3 ?_|refine W.bo ?_|refine W.a5 d fun hw d lw kw=>?_|refine W.a6 d ?_|refine W.a7 ?_|refine W.a8 ?_))
   have el : σ.young.length + k = (σ.young ++ rawW G w).length:=by simp [hlen]
   rw [el] at d
   exact W.inl ⟨rfl,a,b',d⟩
 rintro h5 ⟨a1,b1,d⟩
 ((try simp only [n1,n2,n3,n4,n5,n6] at d); (with_reducible repeat first|refine W.a1 d ?_|refine W.a2 ?_|refine W.a3 ?_|refine W.bo ?_|refine W.a5 d fun hw d lw kw=>?_|refine W.a6 d ?_|refine W.a7 ?_|refine W.a8 ?_))
 dsimp only
 obtain ⟨ad,h6,ea,e6,d,_⟩:=d.setW (i:=sj q) (j:=kk) (v:=(σ.len o : Int)) (ssR_get q) hklt
 rw [ssR_set] at d
 have hL1:=sS_len q lo ly kk (σ.len o : Int)
 have hl1 : kk < (sL q (sS q lo ly kk (σ.len o : Int)).1 (sS q lo ly kk (σ.len o : Int)).2).length:=by rw [sL_len q hL1.1 hL1.2]; exact hklt
 rw [ea]
 refine W.bs rfl ?_
 rw [Nat.mul_one,Int.toNat_natCast]
 refine W.bs e6 ?_
 have hwr : ∀ {y : AH} {a b : Option Addr} {σ' : Sw} {v u : Int},Hs base V h0 y (ssD tb oa ya G all a b σ' la lya lo ly) (ssR base S mu A a b σ' la lya (sS q lo ly kk v).1 (sS q lo ly kk v).2)→Hs base V h0 y (ssD tb oa ya G all a b σ' la lya (sS q lo ly kk v).1 (sS q lo ly kk v).2) (ssR base S mu A a b σ' la lya (sS q lo ly kk v).1 (sS q lo ly kk v).2):=fun {y a b σ' v u} d=>by
  have hL:=sS_len q lo ly kk v
  dsimp only [ssD,ssV] at d ⊢
  rw [hL.1,hL.2]; exact d
 refine W.jP (L:=[some (.pointer (at0 tb)),some (.int .i64 w),some (.int .i64 (k : Int)),some (.slice (some ad) (sL q lo ly).length (sL q lo ly).length),some (.int .i64 (kk : Int)),some (.slice al k k),some (.bool o),some (.int .i64 (σ.len o : Int))]) (fun y=>Hs base V h0 y (ssD tb oa ya G all a1 b1 (σ.app o (rawW G w)) la lya lo ly) (ssR base S mu A a1 b1 (σ.app o (rawW G w)) la lya (sS q lo ly kk (plc o (σ.len o))).1 (sS q lo ly kk (plc o (σ.len o))).2)) ?_ ?_
 ·cases o with
  | true=>exact W.ifF (by decide) (W.inl ⟨rfl,d⟩)
  | false=>
   refine W.ifT rfl ?_
   ((try simp only [n1,n2,n3,n4,n5,n6] at d); (with_reducible repeat first|refine W.a1 d ?_|refine W.a2 ?_|refine W.a3 ?_|refine W.bo ?_|refine W.a5 d fun hw d lw kw=>?_|refine W.a6 d ?_|refine W.a7 ?_|refine W.a8 ?_))
   rw [w64i (n:=100000 + (σ.len false : Int)) (by omega) (by omega)]
   obtain ⟨ad2,h7,ea2,e7,d,_⟩:=d.setW (i:=sj q) (j:=kk) (v:=100000 + (σ.len false : Int)) (ssR_get q) hl1
   rw [ssR_set,sS_two] at d
   rw [ea] at ea2
   injection ea2 with ea2
   subst ea2
   exact W.bs e7 (W.inl ⟨rfl,d⟩)
 rintro h7 d
 have d:=hwr (u:=0) d
 ((try simp only [n1,n2,n3,n4,n5,n6] at d); (with_reducible repeat first|refine W.a1 d ?_|refine W.a2 ?_|refine W.a3 ?_|refine W.bo ?_|refine W.a5 d fun hw d lw kw=>?_|refine W.a6 d ?_|refine W.a7 ?_|refine W.a8 ?_))
 have hL2:=sS_len q lo ly kk (plc o (σ.len o))
 have hplc : 0≤plc o (σ.len o):=by unfold plc; split <;> omega
 have hW2:=hput (plc o (σ.len o)) hplc
 generalize hP : sS q lo ly kk (plc o (σ.len o)) = P2 at d hL2 hW2
 have hkn : (wid G w).toNat = k:=by omega
 have hkk2 : ((k : Int)).toNat = k:=by omega
 simp only [hkk2]
 have hgrow : ((σ.app o (rawW G w)).put (valW w) (plc o (σ.len o))).In:=hin.grow (by rw [hlen]; omega) (hf.1.pl ho hy hl) (by rw [hg])
 have eq' : ∀ {lo' ly' : List Int},lo'.length = lo.length→ly'.length = ly.length→(sL q lo' ly').length = (sL q lo ly).length:=fun h1 h2=>sL_len q h1 h2
 have eqn : (sL q lo ly).length = if q = true then lo.length else ly.length:=by cases q <;> rfl
 have ea' : some ad = sA q la lya:=ea.symm
 have fin : ∀ (y : AH) (σ' : Sw) (lo' ly' : List Int) (a' b' : Option Addr),lo'.length = lo.length→ly'.length = ly.length→WRs lo' ly' G σ'→σ'.wn (valW w) = some (plc o (σ.len o))→Hs base V h0 y (ssD tb oa ya G all a' b' σ' la lya lo' ly') (ssR base S mu A a' b' σ' la lya lo' ly')→(Am.cell y ad.block (ad.off + kk * 1)) = some (.int .i64 (plc o (σ.len o))):=by
  intro y σ' lo' ly' a' b' e1 e2 e3 e4 d'
  have hlt : kk < (sL q lo' ly').length:=by rw [eq' e1 e2]; exact hklt
  obtain ⟨ad2,e5,g5⟩:=int_get (rq d') hlt
  rw [← ea'] at e5
  injection e5 with e5
  subst e5
  rw [g5]
  obtain ⟨kk2,hkk3,_,hget2,_⟩:=e3.side ho (hf.1.some hl)
  rw [hkk] at hkk3
  have : kk2 = kk:=by omega
  subst this
  rw [hQ] at hget2
  have h7:=hget2 _ (List.getElem?_eq_getElem hlt)
  rw [e4] at h7
  split at h7
  ·injection h7 with h7; rw [h7]
  ·cases h7
 have hpw : ((σ.app o (rawW G w)).put (valW w) (plc o (σ.len o))).wn (valW w) = some (plc o (σ.len o)):=by simp [Sw.put]
 refine W.jP (L:=[some (.pointer (at0 tb)),some (.int .i64 w),some (.int .i64 (k : Int)),some (.slice (some ad) (sL q lo ly).length (sL q lo ly).length),some (.int .i64 (kk : Int)),some (.slice al k k),some (.bool o),some (.int .i64 (σ.len o : Int)),some (.int .i64 (if tagW w = 5 then 0 else 1))]) (· = h7) ?_ ?_
 ·refine W.bs specTag_run ?_
  ((try simp only [n1,n2,n3,n4,n5,n6] at d); (with_reducible repeat first|refine W.a1 d ?_|refine W.a2 ?_|refine W.a3 ?_|refine W.bo ?_|refine W.a5 d fun hw d lw kw=>?_|refine W.a6 d ?_|refine W.a7 ?_|refine W.a8 ?_))
  refine W.ite (fun c=>?_) (fun c=>?_)
  ·have c : tagW w ≠ 5:=by simpa [bne] using c
   rw [if_neg c]
   exact W.inl ⟨rfl,rfl⟩
  ·have c : tagW w = 5:=by simpa [bne] using c
   rw [if_pos c]
   exact W.inl ⟨rfl,rfl⟩
 rintro h8 rfl
 ((try simp only [n1,n2,n3,n4,n5,n6] at d); (with_reducible repeat first|refine W.a1 d ?_|refine W.a2 ?_|refine W.a3 ?_|refine W.bo ?_|refine W.a5 d fun hw d lw kw=>?_|refine W.a6 d ?_|refine W.a7 ?_|refine W.a8 ?_))
 dsimp only
 have tag3 : tagW w = 4 ∨ tagW w = 5 ∨ tagW w = 6:=by
  unfold leadW inB at hl
  simp at hl
  omega
 have wl : Wp (loopL (B147_0 base) [some (.pointer (at0 tb)),some (.int .i64 w),some (.int .i64 (k : Int)),some (.slice (some ad) (sL q lo ly).length (sL q lo ly).length),some (.int .i64 (kk : Int)),some (.slice al k k),some (.bool o),some (.int .i64 (σ.len o : Int)),some (.int .i64 (if tagW w = 5 then 0 else 1))] h8) fun z=>z.1 = 2∧z.2.1 = [some (.int .i64 w),some (.slice (some ad) (sL q lo ly).length (sL q lo ly).length),some (.int .i64 (kk : Int))]∧∃ lo' ly' a' b',lo'.length = lo.length∧ly'.length = ly.length∧WRs lo' ly' G (cpLoop G w o (σ.len o) (cp true G all n) k 0 ((σ.app o (rawW G w)).put (valW w) (plc o (σ.len o))))∧Hs base V h0 z.2.2 (ssD tb oa ya G all a' b' (cpLoop G w o (σ.len o) (cp true G all n) k 0 ((σ.app o (rawW G w)).put (valW w) (plc o (σ.len o)))) la lya lo' ly') (ssR base S mu A a' b' (cpLoop G w o (σ.len o) (cp true G all n) k 0 ((σ.app o (rawW G w)).put (valW w) (plc o (σ.len o)))) la lya lo' ly'):=by
  have d0 : Hs base V h0 h8 (ssD tb oa ya G all a1 b1 ((σ.app o (rawW G w)).put (valW w) (plc o (σ.len o))) la lya P2.1 P2.2) (ssR base S mu A a1 b1 ((σ.app o (rawW G w)).put (valW w) (plc o (σ.len o))) la lya P2.1 P2.2):=d
  have hWP : WRs P2.1 P2.2 G ((σ.app o (rawW G w)).put (valW w) (plc o (σ.len o))):=by
   obtain ⟨x1,x2,x3,x4⟩:=hW2
   have e : ((σ.app o (rawW G w)).put (valW w) (plc o (σ.len o))).wn = (σ.put (valW w) (plc o (σ.len o))).wn:=by
    cases o <;> rfl
   exact ⟨x1,x2,fun i v hv=>by rw [e]; exact x3 i v hv,fun i v hv=>by rw [e]; exact x4 i v hv⟩
  have hln : σ.len o + k≤((σ.app o (rawW G w)).put (valW w) (plc o (σ.len o))).len o:=by rw [Sw.len_put,Sw.len_app,if_pos rfl,hlen]; omega
  have go:=fun (h6 : tagW w ≠ 6)=>tk_loop (base:=base) (tb:=tb) (n:=n) (k:=k) (at_:=σ.len o) (kk:=kk) (all:=all) (o:=o) (la:=la) (lya:=lya) (q:=q) (nlo:=lo.length) (nly:=ly.length) (S:=S) (V:=V) (mu:=mu) (A:=A) (h0:=h0) hG ho hy hw hk (by omega) hle hB hraw h6 hf.2.2 hA ih
  rw [ea',eqn,← eal]
  rcases tag3 with t|t|t
  ·obtain ⟨k1,rfl⟩ : ∃ k1,k = k1 + 1:=⟨k - 1,by omega⟩
   rw [show (if tagW w = 5 then (0 : Int) else 1) = 1 from if_neg (by omega),cpLoop_tup (G:=G) (w:=w) (o:=o) σ (by omega) k1 (by rw [hk]; exact Int.le_refl _)]
   exact go (by omega) k1 1 h8 _ P2.1 P2.2 a1 b1 (by omega) (fun _=>⟨by omega,t⟩) hL2.1 hL2.2 hln hWP hgrow d0
  ·rw [show (if tagW w = 5 then (0 : Int) else 1) = 0 from if_pos t]
   exact go (by omega) k 0 h8 _ P2.1 P2.2 a1 b1 (by omega) (fun h=>absurd t h) hL2.1 hL2.2 hln hWP hgrow d0
  ·rw [show (if tagW w = 5 then (0 : Int) else 1) = 1 from if_neg (by omega),cpLoop_bin σ t k 0 (by omega)]
   suffices w1 : Wp (B147_0 base [some (.pointer (at0 tb)),some (.int .i64 w),some (.int .i64 (k : Int)),some (.slice (sA q la lya) (if q = true then lo.length else ly.length) (if q = true then lo.length else ly.length)),some (.int .i64 (kk : Int)),some (.slice (shiftA (gwa oa ya (valW w)) (gwp (valW w)).toNat) k k),some (.bool o),some (.int .i64 (σ.len o : Int)),some (.int .i64 1)] h8) fun z=>z.1 = 2∧z.2.1 = [some (.int .i64 w),some (.slice (sA q la lya) (if q = true then lo.length else ly.length) (if q = true then lo.length else ly.length)),some (.int .i64 (kk : Int))]∧Hs base V h0 z.2.2 (ssD tb oa ya G all a1 b1 ((σ.app o (rawW G w)).put (valW w) (plc o (σ.len o))) la lya P2.1 P2.2) (ssR base S mu A a1 b1 ((σ.app o (rawW G w)).put (valW w) (plc o (σ.len o))) la lya P2.1 P2.2) by
    obtain ⟨⟨z1,z2,z3⟩,e,y1,y2,y3⟩:=w1
    simp only at y1 y2 y3
    subst y1; subst y2
    exact ⟨_,loop_off (by decide) e,rfl,rfl,P2.1,P2.2,a1,b1,hL2.1,hL2.2,hWP,y3⟩
   rw [B147_0_eq]
   apply W.jb false d0
   ·refine W.ite (fun c=>?_) (fun c=>?_)
    ·refine W.bs specTag_run ?_
     ((try simp only [n1,n2,n3,n4,n5,n6] at d); (with_reducible repeat first|refine W.a1 d ?_|refine W.a2 ?_|refine W.a3 ?_|refine W.bo ?_|refine W.a5 d fun hw d lw kw=>?_|refine W.a6 d ?_|refine W.a7 ?_|refine W.a8 ?_))
     exact W.lb rfl (by rw [t]; rfl) (KB.refl _ _)
    ·exact W.lb rfl rfl (KB.refl _ _)
   intro h9 d q9
   ((try simp only [n1,n2,n3,n4,n5,n6] at d); (with_reducible repeat first|refine W.a1 d ?_|refine W.a2 ?_|refine W.a3 ?_|refine W.bo ?_|refine W.a5 d fun hw d lw kw=>?_|refine W.a6 d ?_|refine W.a7 ?_|refine W.a8 ?_))
   exact W.ifF (by decide) (W.ret ⟨rfl,rfl,d⟩)
 refine W.wb wl ?_
 rintro ⟨z1,z2,h9⟩ ⟨y1,y2,lo',ly',a',b',y3,y4,y5,d⟩
 simp only at y1 y2 d
 subst y1; subst y2
 refine W.ifT rfl ?_
 ((try simp only [n1,n2,n3,n4,n5,n6] at d); (with_reducible repeat first|refine W.a1 d ?_|refine W.a2 ?_|refine W.a3 ?_|refine W.bo ?_|refine W.a5 d fun hw d lw kw=>?_|refine W.a6 d ?_|refine W.a7 ?_|refine W.a8 ?_))
 refine W.bs specTag_run ?_
 ((try simp only [n1,n2,n3,n4,n5,n6] at d); (with_reducible repeat first|refine W.a1 d ?_|refine W.a2 ?_|refine W.a3 ?_|refine W.bo ?_|refine W.a5 d fun hw d lw kw=>?_|refine W.a6 d ?_|refine W.a7 ?_|refine W.a8 ?_))
 dsimp only
 have gf:=fin h9 _ lo' ly' a' b' y3 y4 y5 (cpLoop_wn (fun x σ' e'=>cp_wn n x σ' e') _ _ _ hpw) d
 refine W.gt (fun ad _=>⟨fun _ _=>rfl,rfl⟩) ?_
 rw [Int.toNat_natCast]
 refine W.bI gf ?_
 refine W.bs specMk_run ?_
 ((try simp only [n1,n2,n3,n4,n5,n6] at d); (with_reducible repeat first|refine W.a1 d ?_|refine W.a2 ?_|refine W.a3 ?_|refine W.bo ?_|refine W.a5 d fun hw d lw kw=>?_|refine W.a6 d ?_|refine W.a7 ?_|refine W.a8 ?_))
 exact W.ret ⟨rfl,lo',ly',a',b',y3,y4,y5,d⟩
theorem tk_all {base tb : Nat} {oa ya : Option Addr} {G : Gn} {all : Bool} (hG : G.Ok) (ho : G.old.length≤1000) (hy : G.young.length≤1000) (hmk : 0≤G.mark∧G.mark≤1000) : ∀ n,TkR base tb oa ya G all n
 | 0=>fun w σ lo ly a b la lya S V mu A h0 h _ hf=>hf.elim
 | n + 1=>tk_succ hG ho hy hmk (tk_all hG ho hy hmk n)
end Go.Proofs.Ytkdenmdijdmnjaa.Am
set_option linter.unusedSimpArgs false
set_option linter.unusedVariables false
namespace Go.Proofs.Ytkdenmdijdmnjaa.Am
open Go Go.RowKit
theorem l6Gone_loop {base n : Nat} {V : Fp} {h0 : AH} {a : Option Addr} (hn : n≤1000) : ∀ (r i : Nat) (h : AH) (l : List Int),i + r = n→l.length = n→(∀ j,j < i→l[j]? = some (-1))→Hs base V h0 h [] [rW base a l] →
  Wp (loopL (B146_0 base) [some (.int .i64 (n : Int)),some (.slice a n n),some (.int .i64 (i : Int))] h) fun q=>q.1 = 2∧q.2.1 = [some (.slice a n n)]∧Hs base V h0 q.2.2 [] [rW base a (List.replicate n (-1))]:=by
 intro r
 induction r with
 | zero=>
  intro i h l hi hl hj d
  have el : l = List.replicate n (-1):=by
   apply List.ext_getElem?
   intro j
   by_cases hjn : j < n
   ·rw [hj j (by omega)]; simp [hjn]
   ·rw [List.getElem?_eq_none (by omega),List.getElem?_eq_none (by simp; omega)]
  subst el
  suffices w1 : Wp (B146_0 base [some (.int .i64 (n : Int)),some (.slice a n n),some (.int .i64 (i : Int))] h) fun q=>q = (2,[some (.slice a n n)],h) by
   obtain ⟨q,e,rfl⟩:=w1
   exact ⟨_,loop_off (by decide) e,rfl,rfl,d⟩
  rw [B146_0_eq]
  exact W.ifF (by simp; omega) (W.ret rfl)
 | succ r ihr=>
  intro i h l hi hl hj d
  obtain ⟨ad,h1,ea,e1,d1,_⟩:=d.setW (i:=0) (j:=i) (v:=-1) rfl (by omega)
  suffices w1 : Wp (B146_0 base [some (.int .i64 (n : Int)),some (.slice a n n),some (.int .i64 (i : Int))] h) fun q=>q = (0,[some (.int .i64 (n : Int)),some (.slice a n n),some (.int .i64 ((i + 1 : Nat) : Int))],h1) by
   obtain ⟨q,e,rfl⟩:=w1
   obtain ⟨z,ez,zz⟩:=ihr (i + 1) h1 (l.set i (-1)) (by omega) (by simp [hl]) (fun j hj2=>by
    by_cases e : i = j
    ·subst e; rw [List.getElem?_set_self (by omega)]
    ·rw [List.getElem?_set_ne e]; exact hj j (by omega)) d1
   exact ⟨z,loop_on e ez,zz⟩
  rw [B146_0_eq]
  refine W.ifT (decide_eq_true (by omega)) (W.ifT ⟨by omega,by omega⟩ ?_)
  rw [ea]
  refine W.bs rfl ?_
  rw [Nat.mul_one,Int.toNat_natCast]
  refine W.bs e1 ?_
  rw [w64i (n:=(i : Int) + 1) (by omega) (by omega)]
  exact W.ret rfl
theorem l6Gone_run {base n : Nat} {h : AH} (hn : n≤1000) (hb : base≤h.length) : ∃ a h',run (Et base) 146 [.int .i64 (n : Int)] h = some (.slice a n n,h')∧Hs base NoB h h' [] [rW base a (List.replicate n (-1))]:=by
 have d:=Hs.start hb
 suffices W : Wp (run (Et base) 146 [.int .i64 (n : Int)] h) fun o=>∃ a,o.1 = .slice a n n∧Hs base NoB h o.2 [] [rW base a (List.replicate n (-1))] by
  obtain ⟨⟨o1,o2⟩,e,a,y1,y2⟩:=W
  simp only at y1 y2
  subst y1
  exact ⟨a,o2,e,y2⟩
 refine W.of (fun r hx=>Am.r146 hx) ?_
 refine W.ifT ⟨rfl,by omega,by omega,by omega⟩ ?_
 ((try simp only [n1,n2,n3,n4,n5,n6] at d); (with_reducible repeat first|refine W.a1 d ?_|refine W.a2 ?_|refine W.a3 ?_|refine W.bo ?_|refine W.a5 d fun hw d lw kw=>?_|refine W.a6 d ?_|refine W.a7 ?_|refine W.a8 ?_); (refine W.nD d fun h1 d _ kh1=>?_); (with_reducible repeat first|refine W.a1 d ?_|refine W.a2 ?_|refine W.a3 ?_|refine W.bo ?_|refine W.a5 d fun hw d lw kw=>?_|refine W.a6 d ?_|refine W.a7 ?_|refine W.a8 ?_))
 simp only [Int.toNat_natCast] at d ⊢
 rw [rep_ivs] at d
 have d:=d.asW .here
 refine W.wb (l6Gone_loop hn n 0 h1 (List.replicate n 0) (by omega) (by simp) (fun j hj=>by omega) d) ?_
 rintro ⟨q1,q2,h2⟩ ⟨y1,y2,d2⟩
 simp only at y1 y2 d2
 subst y1; subst y2
 refine W.ifT rfl ?_
 ((try simp only [n1,n2,n3,n4,n5,n6] at d); (with_reducible repeat first|refine W.a1 d ?_|refine W.a2 ?_|refine W.a3 ?_|refine W.bo ?_|refine W.a5 d fun hw d lw kw=>?_|refine W.a6 d ?_|refine W.a7 ?_|refine W.a8 ?_))
 exact W.ret ⟨_,rfl,d2⟩
theorem cpLoop_young {G : Gn} {w : Int} {at_ : Nat} {go : Int→Sw→Int × Sw} (h : ∀ x σ,(go x σ).2.young = σ.young) : ∀ (r i : Nat) (σ : Sw),(cpLoop G w true at_ go r i σ).young = σ.young
 | 0,i,σ=>rfl
 | r + 1,i,σ=>by
  rw [cpLoop]
  split
  ·rw [cpLoop_young h]; exact h _ _
  ·rw [cpLoop_young h]; rfl
theorem cp_young {fill : Bool} {G : Gn} : ∀ (n : Nat) (w : Int) (σ : Sw),(cp fill G true n w σ).2.young = σ.young
 | 0,w,σ=>rfl
 | n + 1,w,σ=>by
  rw [cp]
  split
  ·rfl
  ·split
   ·rfl
   ·show (cpLoop G w (toO G true w) _ _ _ _ _).young = _
    rw [show toO G true w = true from rfl,cpLoop_young fun x σ'=>cp_young n x σ']
    rfl
theorem cpAll_young {fill : Bool} {G : Gn} {n : Nat} : ∀ (l : List Int) (σ : Sw),(cpAll fill G true n l σ).2.young = σ.young
 | [],σ=>rfl
 | w :: r,σ=>by rw [cpAll]; exact (cpAll_young r _).trans (cp_young n w σ)
theorem swept_loop {base tb zb : Nat} {oa ya aa ra la lya : Option Addr} {G : Gn} {ats : List ByteArray} {roots : List Int} {all : Bool} {S V : Fp} {mu : Bool} {h0 : AH} (hG : G.Ok) (ho : G.old.length≤1000) (hy : G.young.length≤1000) (hmk : 0≤G.mark∧G.mark≤1000) (hr : ∀ w ∈ roots,wOk w∧Fub G 133 w) (hrl : roots.length≤1048576) :
  ∀ (r i : Nat) (h : AH) (σ : Sw) (lo ly : List Int) (a b c : Option Addr) (out : List Int),i + r = roots.length→out.length = i→WRs lo ly G σ→σ.In→Hs base V h0 h (ssD tb oa ya G all a b σ la lya lo ly) (ssR base S mu (SwA base oa ya G aa ats ra roots) a b σ la lya lo ly ++ [rW base c out]) →
  Wp (loopL (B96_0 base) [some (.slice ra roots.length roots.length),some (.bool all),some (.pointer (at0 zb)),some (.pointer (at0 tb)),some (.slice c out.length out.length),some (.int .i64 (i : Int))] h) fun q=>q.1 = 2∧∃ lo' ly' a' b' c',q.2.1 = [some (.bool all),some (.pointer (at0 zb)),some (.pointer (at0 tb)),some (.slice c' (out ++ (cpAll true G all 133 (roots.drop i) σ).1).length (out ++ (cpAll true G all 133 (roots.drop i) σ).1).length)]∧Hs base V h0 q.2.2 (ssD tb oa ya G all a' b' (cpAll true G all 133 (roots.drop i) σ).2 la lya lo' ly') (ssR base S mu (SwA base oa ya G aa ats ra roots) a' b' (cpAll true G all 133 (roots.drop i) σ).2 la lya lo' ly' ++ [rW base c' (out ++ (cpAll true G all 133 (roots.drop i) σ).1)]):=by
 intro r
 induction r with
 | zero=>
  intro i h σ lo ly a b c out hi ho' hW hin d
  suffices w1 : Wp (B96_0 base [some (.slice ra roots.length roots.length),some (.bool all),some (.pointer (at0 zb)),some (.pointer (at0 tb)),some (.slice c out.length out.length),some (.int .i64 (i : Int))] h) fun q=>q = (2,[some (.bool all),some (.pointer (at0 zb)),some (.pointer (at0 tb)),some (.slice c out.length out.length)],h) by
   obtain ⟨q,e,rfl⟩:=w1
   rw [List.drop_of_length_le (by omega),cpAll,List.append_nil]
   exact ⟨_,loop_off (by decide) e,rfl,lo,ly,a,b,c,rfl,d⟩
  rw [B96_0_eq]
  exact W.ifF (by simp; omega) (W.ret rfl)
 | succ r ihr=>
  intro i h σ lo ly a b c out hi ho' hW hin d
  have hlt : i < roots.length:=by omega
  obtain ⟨hw,hf⟩:=hr _ (List.getElem_mem hlt)
  rw [List.drop_eq_getElem_cons hlt,cpAll]
  suffices w1 : Wp (B96_0 base [some (.slice ra roots.length roots.length),some (.bool all),some (.pointer (at0 zb)),some (.pointer (at0 tb)),some (.slice c out.length out.length),some (.int .i64 (i : Int))] h) fun q=>q.1 = 0∧∃ lo' ly' a' b' c',q.2.1 = [some (.slice ra roots.length roots.length),some (.bool all),some (.pointer (at0 zb)),some (.pointer (at0 tb)),some (.slice c' (out ++ [(cp true G all 133 roots[i] σ).1]).length (out ++ [(cp true G all 133 roots[i] σ).1]).length),some (.int .i64 ((i : Int) + 1))]∧WRs lo' ly' G (cp true G all 133 roots[i] σ).2∧Hs base V h0 q.2.2 (ssD tb oa ya G all a' b' (cp true G all 133 roots[i] σ).2 la lya lo' ly') (ssR base S mu (SwA base oa ya G aa ats ra roots) a' b' (cp true G all 133 roots[i] σ).2 la lya lo' ly' ++ [rW base c' (out ++ [(cp true G all 133 roots[i] σ).1])]) by
   obtain ⟨⟨o1,o2,h'⟩,e,y1,lo',ly',a',b',c',y2,y3,d'⟩:=w1
   simp only at y1 y2 d'
   subst y1; subst y2
   obtain ⟨q,eq,z1,l2,m2,a2,b2,c2,z2,z3⟩:=ihr (i + 1) h' _ lo' ly' a' b' c' _ (by omega) (by simp; omega) y3 (cp_in' ho hy hf.fue hin) d'
   refine ⟨q,loop_on e eq,z1,l2,m2,a2,b2,c2,?_,?_⟩
   ·rw [z2,List.append_assoc]; rfl
   ·rw [List.append_assoc] at z3; exact z3
  rw [B96_0_eq]
  refine W.ifT (decide_eq_true (by omega)) (W.ifT ⟨by omega,by omega⟩ ?_)
  rw [Int.toNat_natCast]
  refine W.rj (d.rs (i:=0) rfl : SwA base oa ya G aa ats ra roots h).2.1 hlt ?_
  have d1:=Hs.part (D1:=[_]) (D2:=[]) (R1:=[_,_,_,_,_]) (R2:=[_]) d
  refine W.wb (tk_all (all:=all) hG ho hy hmk 133 _ σ lo ly a b la lya S _ mu _ _ h hw hf hW hin (fun y hy=>hy.1.gnO) d1) ?_
  rintro ⟨u,h2⟩ ⟨y1,lo',ly',a',b',_,_,y2,d2⟩
  simp only at y1 d2
  subst y1
  have d:=Hs.back (D1:=[_]) (D2:=[]) (R1:=[_,_,_,_,_]) (R2:=[_]) d d2 (fun r hr hm=>by
   simp only [List.mem_cons,List.not_mem_nil,or_false] at hr
   rcases hr with rfl|rfl|rfl|rfl|rfl
   ·exact ⟨_,.head _,hm,rfl⟩
   ·cases hm
   ·cases hm
   ·cases hm
   ·cases hm)
  ((try simp only [n1,n2,n3,n4,n5,n6] at d); (with_reducible repeat first|refine W.a1 d ?_|refine W.a2 ?_|refine W.a3 ?_|refine W.bo ?_|refine W.a5 d fun hw d lw kw=>?_|refine W.a6 d ?_|refine W.a7 ?_|refine W.a8 ?_); (refine W.nD d fun h3 d _ kh3=>?_); (with_reducible repeat first|refine W.a1 d ?_|refine W.a2 ?_|refine W.a3 ?_|refine W.bo ?_|refine W.a5 d fun hw d lw kw=>?_|refine W.a6 d ?_|refine W.a7 ?_|refine W.a8 ?_))
  obtain ⟨c5,h5,e5,d,q5,k5,_⟩:=d.app1O (w:=1) (i:=5) (n:=out.length) (bytes:=8) rfl (fun b hb=>hb) (.head _) rfl (by decide) (by simp) rfl (by omega) (by omega)
  refine W.bs e5 ?_
  ((try simp only [n1,n2,n3,n4,n5,n6] at d); (with_reducible repeat first|refine W.a1 d ?_|refine W.a2 ?_|refine W.a3 ?_|refine W.bo ?_|refine W.a5 d fun hw d lw kw=>?_|refine W.a6 d ?_|refine W.a7 ?_|refine W.a8 ?_))
  rw [w64i (n:=(i : Int) + 1) (by omega) (by omega)]
  have d:=d.tl
  rw [show iv .i64 out ++ [Value.int .i64 (cp true G all 133 roots[i] σ).1] = iv .i64 (out ++ [(cp true G all 133 roots[i] σ).1]) from by rw [← iv_append]; rfl] at d
  exact W.ret ⟨rfl,lo',ly',a',b',c5,by simp,y2,d⟩
theorem l6Swept_run {base : Nat} {all : Bool} {oa ya aa ra : Option Addr} {G : Gn} {ats : List ByteArray} {roots : List Int} {h : AH} (hG : G.Ok) (hr : ∀ w ∈ roots,wOk w) (hrl : roots.length≤1048576) (x : SwA base oa ya G aa ats ra roots h) (hb : base≤h.length) (ok : gOk G ats roots = true) :
  ∃ a b c h',run (Et base) 96 [.agg (gensV oa ya G).toArray,.slice ra roots.length roots.length,.bool all] h = some (.tuple #[.agg (gensV a b ⟨(cpAll true G all 133 roots (sw0 G all)).2.old,(cpAll true G all 133 roots (sw0 G all)).2.young,(cpAll true G all 133 roots (sw0 G all)).2.young.length⟩).toArray,.slice c (cpAll true G all 133 roots (sw0 G all)).1.length (cpAll true G all 133 roots (sw0 G all)).1.length],h')∧Hs base NoB h h' [] [rW base a (cpAll true G all 133 roots (sw0 G all)).2.old,rW base b (cpAll true G all 133 roots (sw0 G all)).2.young,rW base c (cpAll true G all 133 roots (sw0 G all)).1]:=by
 obtain ⟨g1,g2,g3,_⟩:=gOk_parts ok
 have g4:=gOk_fub ok
 have d:=x.start hb
 generalize hX : cpAll true G all 133 roots (sw0 G all) = X
 suffices W : Wp (run (Et base) 96 [.agg (gensV oa ya G).toArray,.slice ra roots.length roots.length,.bool all] h) fun o=>∃ a b c,o.1 = .tuple #[.agg (gensV a b ⟨X.2.old,X.2.young,X.2.young.length⟩).toArray,.slice c X.1.length X.1.length]∧Hs base NoB h o.2 [] [rW base a X.2.old,rW base b X.2.young,rW base c X.1] by
  obtain ⟨⟨o1,o2⟩,e,a,b,c,y1,y2⟩:=W
  simp only at y1 y2
  subst y1
  exact ⟨a,b,c,o2,e,y2⟩
 refine W.of (fun r hx=>Am.r96 hx) ?_
 ((try simp only [n1,n2,n3,n4,n5,n6] at d); (with_reducible repeat first|refine W.a1 d ?_|refine W.a2 ?_|refine W.a3 ?_|refine W.bo ?_|refine W.a5 d fun hw d lw kw=>?_|refine W.a6 d ?_|refine W.a7 ?_|refine W.a8 ?_); (refine W.nD d fun h1 d _ kh1=>?_); (with_reducible repeat first|refine W.a1 d ?_|refine W.a2 ?_|refine W.a3 ?_|refine W.bo ?_|refine W.a5 d fun hw d lw kw=>?_|refine W.a6 d ?_|refine W.a7 ?_|refine W.a8 ?_); (refine W.nD d fun h2 d _ kh2=>?_); (with_reducible repeat first|refine W.a1 d ?_|refine W.a2 ?_|refine W.a3 ?_|refine W.bo ?_|refine W.a5 d fun hw d lw kw=>?_|refine W.a6 d ?_|refine W.a7 ?_|refine W.a8 ?_))
 obtain ⟨la,h3,e3,d3⟩:=l6Gone_run (base:=base) (n:=G.old.length) g1 d.ge
 refine W.bs e3 ?_
 have d:=d.callR d3 (by simp)
 ((try simp only [n1,n2,n3,n4,n5,n6] at d); (with_reducible repeat first|refine W.a1 d ?_|refine W.a2 ?_|refine W.a3 ?_|refine W.bo ?_|refine W.a5 d fun hw d lw kw=>?_|refine W.a6 d ?_|refine W.a7 ?_|refine W.a8 ?_))
 obtain ⟨lya,h4,e4,d4⟩:=l6Gone_run (base:=base) (n:=G.young.length) g2 d.ge
 refine W.bs e4 ?_
 have d:=d.callR d4 (by simp)
 ((try simp only [n1,n2,n3,n4,n5,n6] at d); (with_reducible repeat first|refine W.a1 d ?_|refine W.a2 ?_|refine W.a3 ?_|refine W.bo ?_|refine W.a5 d fun hw d lw kw=>?_|refine W.a6 d ?_|refine W.a7 ?_|refine W.a8 ?_); (refine W.nD d fun h5 d _ kh5=>?_); (with_reducible repeat first|refine W.a1 d ?_|refine W.a2 ?_|refine W.a3 ?_|refine W.bo ?_|refine W.a5 d fun hw d lw kw=>?_|refine W.a6 d ?_|refine W.a7 ?_|refine W.a8 ?_))
 have d:=(d.nilW2).nilW2
 have d:=d.frontR (Del.at (i:=4) rfl)
 have d:=d.frontR (Del.at (i:=4) rfl)
 have d:=d.frontR (Del.at (i:=2) rfl)
 have l1 : (List.replicate G.old.length (-1 : Int)).length = G.old.length:=by simp
 have l2 : (List.replicate G.young.length (-1 : Int)).length = G.young.length:=by simp
 have d : Hs base NoB h h5 [(h4.length,168,ssV oa ya G all none none ⟨[],[],fun _=>none⟩ la lya (List.replicate G.old.length (-1)) (List.replicate G.young.length (-1))),(h1.length,63,[.slice none 0 0,.slice none 0 0,.int .i64 0]),(h.length,63,gensV oa ya G)] (ssR base (fun b=>b < h.length) false (SwA base oa ya G aa ats ra roots) none none ⟨[],[],fun _=>none⟩ la lya (List.replicate G.old.length (-1)) (List.replicate G.young.length (-1))):=by
  dsimp only [ssV]
  rw [l1,l2]
  exact d
 refine W.jP (L:=[some (.slice ra roots.length roots.length),some (.bool all),some (.pointer (at0 h1.length)),some (.pointer (at0 h4.length))]) (fun y=>∃ a',Hs base NoB h y [(h4.length,168,ssV oa ya G all a' none (sw0 G all) la lya (List.replicate G.old.length (-1)) (List.replicate G.young.length (-1))),(h1.length,63,[.slice none 0 0,.slice none 0 0,.int .i64 0]),(h.length,63,gensV oa ya G)] (ssR base (fun b=>b < h.length) false (SwA base oa ya G aa ats ra roots) a' none (sw0 G all) la lya (List.replicate G.old.length (-1)) (List.replicate G.young.length (-1)))) ?_ ?_
 ·cases all with
  | true=>exact W.ifF (by decide) (W.inl ⟨rfl,none,d⟩)
  | false=>
   refine W.ifT rfl ?_
   ((try simp only [n1,n2,n3,n4,n5,n6] at d); (with_reducible repeat first|refine W.a1 d ?_|refine W.a2 ?_|refine W.a3 ?_|refine W.bo ?_|refine W.a5 d fun hw d lw kw=>?_|refine W.a6 d ?_|refine W.a7 ?_|refine W.a8 ?_); (refine W.nD d fun h6 d _ kh6=>?_); (with_reducible repeat first|refine W.a1 d ?_|refine W.a2 ?_|refine W.a3 ?_|refine W.bo ?_|refine W.a5 d fun hw d lw kw=>?_|refine W.a6 d ?_|refine W.a7 ?_|refine W.a8 ?_))
   have x6 : SwA base oa ya G aa ats ra roots h6:=d.rs (i:=0) rfl
   obtain ⟨a7,h7,e7,d⟩:=d.copyG (t:=3) (bytes:=8) (m:=G.old.length) (raw_ivs x6.1.2.2.2.1.1) (by simp) (by omega) (by omega)
   refine W.bs e7 ?_
   ((try simp only [n1,n2,n3,n4,n5,n6] at d); (with_reducible repeat first|refine W.a1 d ?_|refine W.a2 ?_|refine W.a3 ?_|refine W.bo ?_|refine W.a5 d fun hw d lw kw=>?_|refine W.a6 d ?_|refine W.a7 ?_|refine W.a8 ?_))
   have d:=d.frontR (Del.at (i:=5) rfl)
   have d:=d.frontR (Del.at (i:=1) rfl)
   have d:=d.subR (R':=[_,_,_,_,_]) ((List.Sublist.refl [_,_]).append (List.sublist_cons_self _ [_,_,_]))
   exact W.inl ⟨rfl,a7,d⟩
 rintro h6 ⟨a6,d⟩
 ((try simp only [n1,n2,n3,n4,n5,n6] at d); (with_reducible repeat first|refine W.a1 d ?_|refine W.a2 ?_|refine W.a3 ?_|refine W.bo ?_|refine W.a5 d fun hw d lw kw=>?_|refine W.a6 d ?_|refine W.a7 ?_|refine W.a8 ?_); (refine W.nD d fun h7 d _ kh7=>?_); (with_reducible repeat first|refine W.a1 d ?_|refine W.a2 ?_|refine W.a3 ?_|refine W.bo ?_|refine W.a5 d fun hw d lw kw=>?_|refine W.a6 d ?_|refine W.a7 ?_|refine W.a8 ?_))
 have d:=d.asW (l:=[]) .here
 have d:=d.frontR (Del.at (i:=5) rfl)
 have d:=d.frontR (Del.at (i:=5) rfl)
 have d:=d.frontR (Del.at (i:=5) rfl)
 have d:=d.frontR (Del.at (i:=5) rfl)
 have d:=d.frontR (Del.at (i:=5) rfl)
 have d1:=Hs.part (D1:=[_]) (D2:=[_,_]) (R1:=[_,_,_,_,_,_]) (R2:=[]) d
 have hW0 : WRs (List.replicate G.old.length (-1)) (List.replicate G.young.length (-1)) G (sw0 G all):=by
  refine ⟨by simp,by simp,fun i v hv=>?_,fun i v hv=>?_⟩
  ·have:=List.mem_of_getElem? hv
   have:=List.eq_of_mem_replicate this
   subst this; rfl
  ·have:=List.mem_of_getElem? hv
   have:=List.eq_of_mem_replicate this
   subst this; rfl
 refine W.wb (swept_loop (base:=base) (roots:=roots) (zb:=h1.length) hG g1 g2 (by omega) (fun w hw=>⟨hr w hw,g4 w hw⟩) hrl roots.length 0 h7 (sw0 G all) _ _ a6 none (at0 h6.length) [] (by omega) rfl hW0 (sw0_in g1) d1) ?_
 rintro ⟨q1,q2,h8⟩ ⟨y1,lo',ly',a',b',c',y2,d2⟩
 simp only at y1 y2 d2
 subst y1; subst y2
 have d:=Hs.back (D1:=[_]) (D2:=[_,_]) (R1:=[_,_,_,_,_,_]) (R2:=[]) d d2 (fun r hr hm=>by
   simp only [List.mem_append,List.mem_cons,List.not_mem_nil,or_false] at hr
   rcases hr with (rfl|rfl|rfl|rfl|rfl)|rfl
   ·exact ⟨_,.head _,hm,rfl⟩
   ·cases hm
   ·cases hm
   ·cases hm
   ·cases hm
   ·cases hm)
 rw [List.drop_zero,List.nil_append,hX] at d ⊢
 refine W.ifT rfl ?_
 ((try simp only [n1,n2,n3,n4,n5,n6] at d); (with_reducible repeat first|refine W.a1 d ?_|refine W.a2 ?_|refine W.a3 ?_|refine W.bo ?_|refine W.a5 d fun hw d lw kw=>?_|refine W.a6 d ?_|refine W.a7 ?_|refine W.a8 ?_))
 have hyy : all = true→X.2.young = []:=fun e=>by
  subst e
  rw [← hX,cpAll_young]; rfl
 refine W.jP (L:=[some (.pointer (at0 h1.length)),some (.pointer (at0 h4.length)),some (.slice c' X.1.length X.1.length)]) (fun y=>Hs base NoB h y [(h4.length,168,[.slice oa G.old.length G.old.length,.slice ya G.young.length G.young.length,.int .i64 G.mark,.slice a' X.2.old.length X.2.old.length,.slice b' X.2.young.length X.2.young.length,.int .i64 (X.2.young.length : Int),.slice la lo'.length lo'.length,.slice lya ly'.length ly'.length,.bool all]),(h1.length,63,[.slice none 0 0,.slice none 0 0,.int .i64 0]),(h.length,63,gensV oa ya G)] (ssR base (fun b=>b < h.length) false (SwA base oa ya G aa ats ra roots) a' b' X.2 la lya lo' ly' ++ [rW base c' X.1])) ?_ ?_
 ·cases all with
  | true=>
   refine W.ifF (by decide) (W.inl ⟨rfl,?_⟩)
   have e:=hyy rfl
   have e0 : ((X.2.young.length : Nat) : Int) = 0:=by rw [e]; rfl
   rw [e0]
   exact d
  | false=>
   refine W.ifT rfl ?_
   ((try simp only [n1,n2,n3,n4,n5,n6] at d); (with_reducible repeat first|refine W.a1 d ?_|refine W.a2 ?_|refine W.a3 ?_|refine W.bo ?_|refine W.a5 d fun hw d lw kw=>?_|refine W.a6 d ?_|refine W.a7 ?_|refine W.a8 ?_))
   exact W.inl ⟨rfl,d⟩
 rintro h9 d
 ((try simp only [n1,n2,n3,n4,n5,n6] at d); (with_reducible repeat first|refine W.a1 d ?_|refine W.a2 ?_|refine W.a3 ?_|refine W.bo ?_|refine W.a5 d fun hw d lw kw=>?_|refine W.a6 d ?_|refine W.a7 ?_|refine W.a8 ?_))
 exact W.ret ⟨a',b',c',rfl,(d.takeD 0).subR (R':=[_,_,_]) (((List.Sublist.refl [_,_]).append ((List.Sublist.refl [_]).cons _ |>.cons _)).cons _)⟩
theorem l6Ends_run {base : Nat} {all : Bool} : SwpO base 98 all [.bool all]:=by
 intro h G ats roots oa ya aa ra hG ha hz hr hrl x hb
 have d:=x.start hb
 suffices W : Wp (run (Et base) 98 [.agg (gensV oa ya G).toArray,.slice aa ats.length ats.length,.slice ra roots.length roots.length,.bool all] h) fun o=>∃ a b c,o.1 = .tuple #[.agg (gensV a b (swp G ats roots all).1.1).toArray,.slice c (swp G ats roots all).1.2.length (swp G ats roots all).1.2.length,.bool (swp G ats roots all).2]∧Hs base NoB h o.2 [] [rW base a (swp G ats roots all).1.1.old,rW base b (swp G ats roots all).1.1.young,rW base c (swp G ats roots all).1.2] by
  obtain ⟨⟨o1,o2⟩,e,a,b,c,y1,y2⟩:=W
  simp only at y1 y2
  subst y1
  exact ⟨a,b,c,o2,e,y2⟩
 refine W.of (fun r hx=>Am.r98 hx) ?_
 ((try simp only [n1,n2,n3,n4,n5,n6] at d); (with_reducible repeat first|refine W.a1 d ?_|refine W.a2 ?_|refine W.a3 ?_|refine W.bo ?_|refine W.a5 d fun hw d lw kw=>?_|refine W.a6 d ?_|refine W.a7 ?_|refine W.a8 ?_); (refine W.nD d fun h1 d _ kh1=>?_); (with_reducible repeat first|refine W.a1 d ?_|refine W.a2 ?_|refine W.a3 ?_|refine W.bo ?_|refine W.a5 d fun hw d lw kw=>?_|refine W.a6 d ?_|refine W.a7 ?_|refine W.a8 ?_); (refine W.nD d fun h2 d _ kh2=>?_); (with_reducible repeat first|refine W.a1 d ?_|refine W.a2 ?_|refine W.a3 ?_|refine W.bo ?_|refine W.a5 d fun hw d lw kw=>?_|refine W.a6 d ?_|refine W.a7 ?_|refine W.a8 ?_))
 refine W.jP (L:=[some (.slice ra roots.length roots.length),some (.pointer (at0 h.length)),some (.pointer (at0 h1.length))]) (fun y=>swp G ats roots all = ((G,roots),false)∧Hs base NoB h y [(h1.length,63,[.slice none 0 0,.slice none 0 0,.int .i64 0]),(h.length,63,gensV oa ya G)] [⟨fun b=>b < h.length,false,SwA base oa ya G aa ats ra roots⟩]) ?_ ?_
 ·((try simp only [n1,n2,n3,n4,n5,n6] at d); (with_reducible repeat first|refine W.a1 d ?_|refine W.a2 ?_|refine W.a3 ?_|refine W.bo ?_|refine W.a5 d fun hw d lw kw=>?_|refine W.a6 d ?_|refine W.a7 ?_|refine W.a8 ?_))
  have x2 : SwA base oa ya G aa ats ra roots h2:=d.rs (i:=0) rfl
  obtain ⟨h3,e3,k3⟩:=specGensOk_run (base:=base) hG ha hz hr (by omega) x2.1 x2.2.1 x2.2.2 d.ge
  have d:=d.kN k3
  refine W.bs e3 ?_
  ((try simp only [n1,n2,n3,n4,n5,n6] at d); (with_reducible repeat first|refine W.a1 d ?_|refine W.a2 ?_|refine W.a3 ?_|refine W.bo ?_|refine W.a5 d fun hw d lw kw=>?_|refine W.a6 d ?_|refine W.a7 ?_|refine W.a8 ?_))
  unfold swp
  refine W.ite (fun c=>?_) (fun c=>?_)
  ·rw [if_pos c,cpAll_fill]
   ((try simp only [n1,n2,n3,n4,n5,n6] at d); (with_reducible repeat first|refine W.a1 d ?_|refine W.a2 ?_|refine W.a3 ?_|refine W.bo ?_|refine W.a5 d fun hw d lw kw=>?_|refine W.a6 d ?_|refine W.a7 ?_|refine W.a8 ?_))
   have x3 : SwA base oa ya G aa ats ra roots h3:=d.rs (i:=0) rfl
   obtain ⟨a4,b4,c4,h4,e4,dq⟩:=l6Swept_run (base:=base) (all:=all) hG hr hrl x3 d.ge c
   refine W.bs e4 ?_
   have d:=d.callR dq (by simp)
   generalize cpAll true G all 133 roots (sw0 G all) = X at d ⊢
   ((try simp only [n1,n2,n3,n4,n5,n6] at d); (with_reducible repeat first|refine W.a1 d ?_|refine W.a2 ?_|refine W.a3 ?_|refine W.bo ?_|refine W.a5 d fun hw d lw kw=>?_|refine W.a6 d ?_|refine W.a7 ?_|refine W.a8 ?_); (refine W.nD d fun h5 d _ kh5=>?_); (with_reducible repeat first|refine W.a1 d ?_|refine W.a2 ?_|refine W.a3 ?_|refine W.bo ?_|refine W.a5 d fun hw d lw kw=>?_|refine W.a6 d ?_|refine W.a7 ?_|refine W.a8 ?_))
   refine W.ite (fun c2=>?_) (fun c2=>?_)
   ·have c2 : ¬ decide ((X.2.old.length : Int) > 1000) = true:=by simp at c2 ⊢; omega
    rw [if_neg c2]
    ((try simp only [n1,n2,n3,n4,n5,n6] at d); (with_reducible repeat first|refine W.a1 d ?_|refine W.a2 ?_|refine W.a3 ?_|refine W.bo ?_|refine W.a5 d fun hw d lw kw=>?_|refine W.a6 d ?_|refine W.a7 ?_|refine W.a8 ?_))
    refine W.mp ?_
    ((try simp only [n1,n2,n3,n4,n5,n6] at d); (with_reducible repeat first|refine W.a1 d ?_|refine W.a2 ?_|refine W.a3 ?_|refine W.bo ?_|refine W.a5 d fun hw d lw kw=>?_|refine W.a6 d ?_|refine W.a7 ?_|refine W.a8 ?_))
    exact W.ret ⟨a4,b4,c4,rfl,(d.takeD 0).subR (List.sublist_append_right [_] [_,_,_])⟩
   ·have c2 : decide ((X.2.old.length : Int) > 1000) = true:=by simp at c2 ⊢; omega
    rw [if_pos c2]
    exact W.inl ⟨rfl,rfl,(d.tl).takeR 1⟩
  ·rw [if_neg c]
   exact W.inl ⟨rfl,rfl,d⟩
 rintro h3 ⟨es,d⟩
 rw [es]
 ((try simp only [n1,n2,n3,n4,n5,n6] at d); (with_reducible repeat first|refine W.a1 d ?_|refine W.a2 ?_|refine W.a3 ?_|refine W.bo ?_|refine W.a5 d fun hw d lw kw=>?_|refine W.a6 d ?_|refine W.a7 ?_|refine W.a8 ?_))
 have x3 : SwA base oa ya G aa ats ra roots h3:=d.rs (i:=0) rfl
 obtain ⟨a4,b4,h4,e4,dq⟩:=l6Copy_run (base:=base) h3 oa ya G (by have:=hG.1; omega) (by have:=hG.2.1; omega) x3.1.2.2.2.1 d.ge
 have d:=d.callR dq (by simp)
 refine W.bs e4 ?_
 ((try simp only [n1,n2,n3,n4,n5,n6] at d); (with_reducible repeat first|refine W.a1 d ?_|refine W.a2 ?_|refine W.a3 ?_|refine W.bo ?_|refine W.a5 d fun hw d lw kw=>?_|refine W.a6 d ?_|refine W.a7 ?_|refine W.a8 ?_); (refine W.nD d fun h5 d _ kh5=>?_); (with_reducible repeat first|refine W.a1 d ?_|refine W.a2 ?_|refine W.a3 ?_|refine W.bo ?_|refine W.a5 d fun hw d lw kw=>?_|refine W.a6 d ?_|refine W.a7 ?_|refine W.a8 ?_))
 have x5 : SwA base oa ya G aa ats ra roots h5:=d.rs (i:=0) rfl
 obtain ⟨a7,h7,e7,d⟩:=d.copyG (t:=3) (bytes:=8) (m:=roots.length) (raw_ivs x5.2.1) (by simp) (by omega) (by omega)
 refine W.bs e7 ?_
 ((try simp only [n1,n2,n3,n4,n5,n6] at d); (with_reducible repeat first|refine W.a1 d ?_|refine W.a2 ?_|refine W.a3 ?_|refine W.bo ?_|refine W.a5 d fun hw d lw kw=>?_|refine W.a6 d ?_|refine W.a7 ?_|refine W.a8 ?_))
 exact W.ret ⟨a4,b4,a7,rfl,(d.takeD 0).subR (List.sublist_cons_self _ _)⟩
theorem implMinor_run {base : Nat} : SwpO base 46 false []:=by
 intro h G ats roots oa ya aa ra hG ha hz hr hrl x hb
 have d:=x.start hb
 suffices W : Wp (run (Et base) 46 [.agg (gensV oa ya G).toArray,.slice aa ats.length ats.length,.slice ra roots.length roots.length] h) fun o=>∃ a b c,o.1 = .tuple #[.agg (gensV a b (swp G ats roots false).1.1).toArray,.slice c (swp G ats roots false).1.2.length (swp G ats roots false).1.2.length,.bool (swp G ats roots false).2]∧Hs base NoB h o.2 [] [rW base a (swp G ats roots false).1.1.old,rW base b (swp G ats roots false).1.1.young,rW base c (swp G ats roots false).1.2] by
  obtain ⟨⟨o1,o2⟩,e,a,b,c,y1,y2⟩:=W
  simp only at y1 y2
  subst y1
  exact ⟨a,b,c,o2,by rw [List.append_nil]; exact e,y2⟩
 refine W.of (fun r hx=>Am.r46 hx) ?_
 ((try simp only [n1,n2,n3,n4,n5,n6] at d); (with_reducible repeat first|refine W.a1 d ?_|refine W.a2 ?_|refine W.a3 ?_|refine W.bo ?_|refine W.a5 d fun hw d lw kw=>?_|refine W.a6 d ?_|refine W.a7 ?_|refine W.a8 ?_); (refine W.nD d fun h1 d _ kh1=>?_); (with_reducible repeat first|refine W.a1 d ?_|refine W.a2 ?_|refine W.a3 ?_|refine W.bo ?_|refine W.a5 d fun hw d lw kw=>?_|refine W.a6 d ?_|refine W.a7 ?_|refine W.a8 ?_); (refine W.nD d fun h2 d _ kh2=>?_); (with_reducible repeat first|refine W.a1 d ?_|refine W.a2 ?_|refine W.a3 ?_|refine W.bo ?_|refine W.a5 d fun hw d lw kw=>?_|refine W.a6 d ?_|refine W.a7 ?_|refine W.a8 ?_))
 have x2 : SwA base oa ya G aa ats ra roots h2:=d.rs (i:=0) rfl
 obtain ⟨a,b,c,h3,e3,dq⟩:=implSweep_run (base:=base) (all:=false) h2 G ats roots oa ya aa ra hG ha hz hr hrl x2 d.ge
 refine W.bs e3 ?_
 have d:=d.callR dq (by simp)
 generalize swp G ats roots false = X at d ⊢
 ((try simp only [n1,n2,n3,n4,n5,n6] at d); (with_reducible repeat first|refine W.a1 d ?_|refine W.a2 ?_|refine W.a3 ?_|refine W.bo ?_|refine W.a5 d fun hw d lw kw=>?_|refine W.a6 d ?_|refine W.a7 ?_|refine W.a8 ?_))
 exact W.ret ⟨a,b,c,rfl,(d.takeD 0).subR (List.sublist_append_right [_] [_,_,_])⟩
theorem specMinor_run {base : Nat} : SwpO base 45 false []:=by
 intro h G ats roots oa ya aa ra hG ha hz hr hrl x hb
 have d:=x.start hb
 suffices W : Wp (run (Et base) 45 [.agg (gensV oa ya G).toArray,.slice aa ats.length ats.length,.slice ra roots.length roots.length] h) fun o=>∃ a b c,o.1 = .tuple #[.agg (gensV a b (swp G ats roots false).1.1).toArray,.slice c (swp G ats roots false).1.2.length (swp G ats roots false).1.2.length,.bool (swp G ats roots false).2]∧Hs base NoB h o.2 [] [rW base a (swp G ats roots false).1.1.old,rW base b (swp G ats roots false).1.1.young,rW base c (swp G ats roots false).1.2] by
  obtain ⟨⟨o1,o2⟩,e,a,b,c,y1,y2⟩:=W
  simp only at y1 y2
  subst y1
  exact ⟨a,b,c,o2,by rw [List.append_nil]; exact e,y2⟩
 refine W.of (fun r hx=>Am.r45 hx) ?_
 ((try simp only [n1,n2,n3,n4,n5,n6] at d); (with_reducible repeat first|refine W.a1 d ?_|refine W.a2 ?_|refine W.a3 ?_|refine W.bo ?_|refine W.a5 d fun hw d lw kw=>?_|refine W.a6 d ?_|refine W.a7 ?_|refine W.a8 ?_); (refine W.nD d fun h1 d _ kh1=>?_); (with_reducible repeat first|refine W.a1 d ?_|refine W.a2 ?_|refine W.a3 ?_|refine W.bo ?_|refine W.a5 d fun hw d lw kw=>?_|refine W.a6 d ?_|refine W.a7 ?_|refine W.a8 ?_); (refine W.nD d fun h2 d _ kh2=>?_); (with_reducible repeat first|refine W.a1 d ?_|refine W.a2 ?_|refine W.a3 ?_|refine W.bo ?_|refine W.a5 d fun hw d lw kw=>?_|refine W.a6 d ?_|refine W.a7 ?_|refine W.a8 ?_))
 have x2 : SwA base oa ya G aa ats ra roots h2:=d.rs (i:=0) rfl
 obtain ⟨a,b,c,h3,e3,dq⟩:=l6Ends_run (base:=base) (all:=false) h2 G ats roots oa ya aa ra hG ha hz hr hrl x2 d.ge
 refine W.bs e3 ?_
 have d:=d.callR dq (by simp)
 generalize swp G ats roots false = X at d ⊢
 ((try simp only [n1,n2,n3,n4,n5,n6] at d); (with_reducible repeat first|refine W.a1 d ?_|refine W.a2 ?_|refine W.a3 ?_|refine W.bo ?_|refine W.a5 d fun hw d lw kw=>?_|refine W.a6 d ?_|refine W.a7 ?_|refine W.a8 ?_))
 exact W.ret ⟨a,b,c,rfl,(d.takeD 0).subR (List.sublist_append_right [_] [_,_,_])⟩
end Go.Proofs.Ytkdenmdijdmnjaa.Am
set_option linter.unusedSimpArgs false
set_option linter.unusedVariables false
namespace Go.Proofs.Ytkdenmdijdmnjaa.Am
open Go Go.RowKit
theorem Hs.toSt {base : Nat} {V : Fp} {h0 h : AH} {D : Ds} {R : List Rs} {aa : Option Addr} {ats : List ByteArray} (d : Hs base V h0 h D R) (h1 : ats.length≤1048576) (x : Sl h aa (stV ats)) :
  ∃ a h',run (Et base) 32 [.slice aa ats.length ats.length] h = some (.slice a ats.length ats.length,h')∧Hs base V h0 h' D (R ++ [rSt base a ats])∧KB NoB h h':=by
 obtain ⟨a,h',e,o1,k,q⟩:=toStringS_run (base:=base) x h1 d.ge
 exact ⟨a,h',e,d.call k _ _ o1 (fun U y y' ky hs x=>x.keep ky hs) q,k⟩
end Go.Proofs.Ytkdenmdijdmnjaa.Am
set_option linter.unusedSimpArgs false
set_option linter.unusedVariables false
namespace Go.Proofs.Ytkdenmdijdmnjaa.Am
open Go Go.RowKit
theorem Hs.toIn {base : Nat} {V : Fp} {h0 h : AH} {D : Ds} {R : List Rs} {aa : Option Addr} {l : List Int} (d : Hs base V h0 h D R) (h1 : l.length≤1048576) (x : Sl h aa (iv .i64 l)) :
  ∃ a h',run (Et base) 33 [.slice aa l.length l.length] h = some (.slice a l.length l.length,h')∧Hs base V h0 h' D (R ++ [rW base a l])∧KB NoB h h':=by
 obtain ⟨a,h',e,o1,k,q⟩:=toIntS_run (base:=base) x h1 d.ge
 exact ⟨a,h',e,d.call k _ (fun y=>Own base 3 y a (iv .i64 l)) o1 (fun U y y' ky hs x=>x.keep ky hs) fun b hb=>⟨q b hb,(o1.lt hb).2⟩,k⟩
theorem swp_len {G : Gn} {ats : List ByteArray} {roots : List Int} {all : Bool} (hG : G.Ok) (hrl : roots.length≤1048576) : (swp G ats roots all).1.1.old.length≤1048576∧(swp G ats roots all).1.1.young.length≤1048576∧(swp G ats roots all).1.2.length≤1048576:=by
 unfold swp
 split
 ·rename_i ok
  obtain ⟨ho,hy,_,hf⟩:=gOk_parts ok
  split
  ·exact ⟨hG.1,hG.2.1,hrl⟩
  ·have q:=cpAll_in (all:=all) ho hy roots (sw0 G all) hf (sw0_in ho)
   have q1:=q.le true
   have q2:=q.le false
   simp only [Sw.len] at q1 q2
   refine ⟨?_,?_,?_⟩
   ·show (cpAll false G all 133 roots (sw0 G all)).2.old.length≤_
    simp at q1
    omega
   ·show (cpAll false G all 133 roots (sw0 G all)).2.young.length≤_
    simp at q2
    omega
   ·show (cpAll false G all 133 roots (sw0 G all)).1.length≤_
    rw [cpAll_len]
    exact hrl
 ·exact ⟨hG.1,hG.2.1,hrl⟩
end Go.Proofs.Ytkdenmdijdmnjaa.Am
set_option linter.unusedSimpArgs false
set_option linter.unusedVariables false
namespace Go.Proofs.Ytkdenmdijdmnjaa.Am
open Go Go.RowKit
theorem minor_len (G : Gn) (ats : List ByteArray) (roots : List Int) (hG : G.Ok) (hrl : roots.length≤1048576) : (swp G ats roots false).1.1.old.length≤1048576∧(swp G ats roots false).1.1.young.length≤1048576∧(swp G ats roots false).1.2.length≤1048576:=swp_len hG hrl
theorem minor_law {base : Nat} {h : AH} {oa ya aa ra : Option Addr} {G : Gn} {ats : List ByteArray} {roots : List Int} (m1 : G.old.length≤maxLen) (m2 : G.young.length≤maxLen) (m3 : ats.length≤9223372036854775807) (w1 : ∀ n ∈ G.old,wOk n) (w2 : ∀ n ∈ G.young,wOk n) (hz : ∀ s ∈ ats,s.size≤maxLen) (hr : ∀ w ∈ roots,wOk w) (x : GnS h oa ya G) (xa : Sl h aa (stV ats)) (xr : Sl h ra (iv .i64 roots)) (hb : base≤h.length) :
  Wp (run (Et base) 7 ([.agg (gensV oa ya G).toArray,.slice aa ats.length ats.length,.slice ra roots.length roots.length] ++ []) h) fun r=>r.1 = .bool true:=by
 have gk : ∀ {y},KB NoB h y→GnS y oa ya G:=fun k=>⟨x.1.keepN k,x.2.keepN k⟩
 have d:=Hs.start hb
 refine W.of (fun r hx=>Am.r7 hx) ?_
 ((try simp only [n1,n2,n3,n4,n5,n6] at d); (with_reducible repeat first|refine W.a1 d ?_|refine W.a2 ?_|refine W.a3 ?_|refine W.bo ?_|refine W.a5 d fun hw d lw kw=>?_|refine W.a6 d ?_|refine W.a7 ?_|refine W.a8 ?_); (refine W.nD d fun p1 d _ kp1=>?_); (with_reducible repeat first|refine W.a1 d ?_|refine W.a2 ?_|refine W.a3 ?_|refine W.bo ?_|refine W.a5 d fun hw d lw kw=>?_|refine W.a6 d ?_|refine W.a7 ?_|refine W.a8 ?_))
 refine W.ite (fun c=>W.ret rfl) (fun c=>?_)
 have c : ¬ (roots.length : Int) > 1048576:=by simpa using c
 ((try simp only [n1,n2,n3,n4,n5,n6] at d); (with_reducible repeat first|refine W.a1 d ?_|refine W.a2 ?_|refine W.a3 ?_|refine W.bo ?_|refine W.a5 d fun hw d lw kw=>?_|refine W.a6 d ?_|refine W.a7 ?_|refine W.a8 ?_))
 obtain ⟨z1,h1,e1,k1,a1,a2,a3⟩:=szGens_run (base:=base) (oa:=oa) (ya:=ya) (G:=G) (left:=1048576) m1 m2 d.ge (by omega) (by omega)
 have d:=d.kN k1
 refine W.bs e1 ?_
 ((try simp only [n1,n2,n3,n4,n5,n6] at d); (with_reducible repeat first|refine W.a1 d ?_|refine W.a2 ?_|refine W.a3 ?_|refine W.bo ?_|refine W.a5 d fun hw d lw kw=>?_|refine W.a6 d ?_|refine W.a7 ?_|refine W.a8 ?_))
 refine W.ite (fun c=>W.ret rfl) (fun c1=>?_)
 have c1 : ¬ z1 < 0:=by simpa using c1
 have a3:=a3 c1
 obtain ⟨z2,e2,b1,b2,b3⟩:=szStringS_run (base:=base) (left:=z1) m3 hz (xa.keepN d.kb) (by omega) (by omega)
 refine W.bs e2 ?_
 ((try simp only [n1,n2,n3,n4,n5,n6] at d); (with_reducible repeat first|refine W.a1 d ?_|refine W.a2 ?_|refine W.a3 ?_|refine W.bo ?_|refine W.a5 d fun hw d lw kw=>?_|refine W.a6 d ?_|refine W.a7 ?_|refine W.a8 ?_))
 refine W.ite (fun c=>W.ret rfl) (fun c2=>?_)
 have c2 : ¬ z2 < 0:=by simpa using c2
 have b3:=b3 c2
 have hG : G.Ok:=⟨by omega,by omega,w1,w2⟩
 have ha : ats.length≤1048576:=by omega
 have hrl : roots.length≤1048576:=by omega
 have swOf : ∀ {y : AH} {a b s i : Option Addr},Own base 3 y a (iv .i64 G.old)→Own base 3 y b (iv .i64 G.young)→Own base 9 y s (stV ats)→Own base 3 y i (iv .i64 roots)→SwA base a b G s ats i roots y:=fun o1 o2 o3 o4=>⟨⟨TyOk.own o1,TyOk.own o2,TyOk.own o3,⟨o1.sl,o2.sl⟩,o3.sl⟩,o4.sl,TyOk.own o4⟩
 ((try simp only [n1,n2,n3,n4,n5,n6] at d); (with_reducible repeat first|refine W.a1 d ?_|refine W.a2 ?_|refine W.a3 ?_|refine W.bo ?_|refine W.a5 d fun hw d lw kw=>?_|refine W.a6 d ?_|refine W.a7 ?_|refine W.a8 ?_))
 obtain ⟨wa1,wb1,h4,e4,d,_⟩:=d.toGn hG.1 hG.2.1 (gk d.kb)
 refine W.bs e4 ?_
 ((try simp only [n1,n2,n3,n4,n5,n6] at d); (with_reducible repeat first|refine W.a1 d ?_|refine W.a2 ?_|refine W.a3 ?_|refine W.bo ?_|refine W.a5 d fun hw d lw kw=>?_|refine W.a6 d ?_|refine W.a7 ?_|refine W.a8 ?_))
 obtain ⟨sa1,h5,e5,d,_⟩:=d.toSt ha (xa.keepN d.kb)
 refine W.bs e5 ?_
 ((try simp only [n1,n2,n3,n4,n5,n6] at d); (with_reducible repeat first|refine W.a1 d ?_|refine W.a2 ?_|refine W.a3 ?_|refine W.bo ?_|refine W.a5 d fun hw d lw kw=>?_|refine W.a6 d ?_|refine W.a7 ?_|refine W.a8 ?_))
 obtain ⟨ra1,h6,e6,d,_⟩:=d.toIn hrl (xr.keepN d.kb)
 refine W.bs e6 ?_
 ((try simp only [n1,n2,n3,n4,n5,n6] at d); (with_reducible repeat first|refine W.a1 d ?_|refine W.a2 ?_|refine W.a3 ?_|refine W.bo ?_|refine W.a5 d fun hw d lw kw=>?_|refine W.a6 d ?_|refine W.a7 ?_|refine W.a8 ?_))
 obtain ⟨wq,vq,rq,h7,e7,dq⟩:=specMinor_run (base:=base) h6 G ats roots wa1 wb1 sa1 ra1 hG ha hz hr hrl (swOf (d.rs (i:=0) rfl) (d.rs (i:=1) rfl) (d.rs (i:=2) rfl) (d.rs (i:=3) rfl)) d.ge
 have d:=d.callR dq (by simp)
 refine W.bs e7 ?_
 obtain ⟨q1l,q2l,q3l⟩:=minor_len G ats roots hG hrl
 generalize hQ : swp G ats roots false = q at d q1l q2l q3l ⊢
 ((try simp only [n1,n2,n3,n4,n5,n6] at d); (with_reducible repeat first|refine W.a1 d ?_|refine W.a2 ?_|refine W.a3 ?_|refine W.bo ?_|refine W.a5 d fun hw d lw kw=>?_|refine W.a6 d ?_|refine W.a7 ?_|refine W.a8 ?_); (refine W.nD d fun w1 d _ kw1=>?_); (with_reducible repeat first|refine W.a1 d ?_|refine W.a2 ?_|refine W.a3 ?_|refine W.bo ?_|refine W.a5 d fun hw d lw kw=>?_|refine W.a6 d ?_|refine W.a7 ?_|refine W.a8 ?_))
 obtain ⟨wa2,wb2,h8,e8,d,_⟩:=d.toGn hG.1 hG.2.1 (gk d.kb)
 refine W.bs e8 ?_
 ((try simp only [n1,n2,n3,n4,n5,n6] at d); (with_reducible repeat first|refine W.a1 d ?_|refine W.a2 ?_|refine W.a3 ?_|refine W.bo ?_|refine W.a5 d fun hw d lw kw=>?_|refine W.a6 d ?_|refine W.a7 ?_|refine W.a8 ?_); (refine W.nD d fun w2 d _ kw2=>?_); (with_reducible repeat first|refine W.a1 d ?_|refine W.a2 ?_|refine W.a3 ?_|refine W.bo ?_|refine W.a5 d fun hw d lw kw=>?_|refine W.a6 d ?_|refine W.a7 ?_|refine W.a8 ?_))
 obtain ⟨sa2,h9,e9,d,_⟩:=d.toSt ha (xa.keepN d.kb)
 refine W.bs e9 ?_
 ((try simp only [n1,n2,n3,n4,n5,n6] at d); (with_reducible repeat first|refine W.a1 d ?_|refine W.a2 ?_|refine W.a3 ?_|refine W.bo ?_|refine W.a5 d fun hw d lw kw=>?_|refine W.a6 d ?_|refine W.a7 ?_|refine W.a8 ?_))
 obtain ⟨ra2,h10,e10,d,_⟩:=d.toIn hrl (xr.keepN d.kb)
 refine W.bs e10 ?_
 ((try simp only [n1,n2,n3,n4,n5,n6] at d); (with_reducible repeat first|refine W.a1 d ?_|refine W.a2 ?_|refine W.a3 ?_|refine W.bo ?_|refine W.a5 d fun hw d lw kw=>?_|refine W.a6 d ?_|refine W.a7 ?_|refine W.a8 ?_))
 obtain ⟨wg,vg,rg,h11,e11,dg⟩:=implMinor_run (base:=base) h10 G ats roots wa2 wb2 sa2 ra2 hG ha hz hr hrl (swOf (d.rs (i:=7) rfl) (d.rs (i:=8) rfl) (d.rs (i:=9) rfl) (d.rs (i:=10) rfl)) d.ge
 have d:=d.callR dg (by simp)
 refine W.bs e11 ?_
 rw [hQ] at d ⊢
 ((try simp only [n1,n2,n3,n4,n5,n6] at d); (with_reducible repeat first|refine W.a1 d ?_|refine W.a2 ?_|refine W.a3 ?_|refine W.bo ?_|refine W.a5 d fun hw d lw kw=>?_|refine W.a6 d ?_|refine W.a7 ?_|refine W.a8 ?_); (refine W.nD d fun w4 d _ kw4=>?_); (with_reducible repeat first|refine W.a1 d ?_|refine W.a2 ?_|refine W.a3 ?_|refine W.bo ?_|refine W.a5 d fun hw d lw kw=>?_|refine W.a6 d ?_|refine W.a7 ?_|refine W.a8 ?_))
 apply W.jb false d
 ·((try simp only [n1,n2,n3,n4,n5,n6] at d); (with_reducible repeat first|refine W.a1 d ?_|refine W.a2 ?_|refine W.a3 ?_|refine W.bo ?_|refine W.a5 d fun hw d lw kw=>?_|refine W.a6 d ?_|refine W.a7 ?_|refine W.a8 ?_))
  obtain ⟨hx1,ex1,kx1⟩:=eqGens_run (base:=base) (G:=q.1.1) q1l q2l ⟨Own.sl (d.rs (i:=11) rfl),Own.sl (d.rs (i:=12) rfl)⟩ ⟨Own.sl (d.rs (i:=4) rfl),Own.sl (d.rs (i:=5) rfl)⟩ d.ge
  refine W.bs ex1 ?_
  have d:=d.kN kx1
  ((try simp only [n1,n2,n3,n4,n5,n6] at d); (with_reducible repeat first|refine W.a1 d ?_|refine W.a2 ?_|refine W.a3 ?_|refine W.bo ?_|refine W.a5 d fun hw d lw kw=>?_|refine W.a6 d ?_|refine W.a7 ?_|refine W.a8 ?_))
  refine W.ifF (by decide) ?_
  refine W.bs (eqIntS_run (base:=base) (Own.sl (d.rs (i:=13) rfl)) (Own.sl (d.rs (i:=6) rfl)) (by omega)) ?_
  ((try simp only [n1,n2,n3,n4,n5,n6] at d); (with_reducible repeat first|refine W.a1 d ?_|refine W.a2 ?_|refine W.a3 ?_|refine W.bo ?_|refine W.a5 d fun hw d lw kw=>?_|refine W.a6 d ?_|refine W.a7 ?_|refine W.a8 ?_))
  refine W.ifF (by simp) ?_
  exact W.lb rfl (by simp) kx1
 intro hj1 d nj1
 ((try simp only [n1,n2,n3,n4,n5,n6] at d); (with_reducible repeat first|refine W.a1 d ?_|refine W.a2 ?_|refine W.a3 ?_|refine W.bo ?_|refine W.a5 d fun hw d lw kw=>?_|refine W.a6 d ?_|refine W.a7 ?_|refine W.a8 ?_))
 refine W.ifF (by decide) ?_
 ((try simp only [n1,n2,n3,n4,n5,n6] at d); (with_reducible repeat first|refine W.a1 d ?_|refine W.a2 ?_|refine W.a3 ?_|refine W.bo ?_|refine W.a5 d fun hw d lw kw=>?_|refine W.a6 d ?_|refine W.a7 ?_|refine W.a8 ?_))
 obtain ⟨wa3,wb3,h12,e12,d,_⟩:=d.toGn hG.1 hG.2.1 (gk d.kb)
 refine W.bs e12 ?_
 ((try simp only [n1,n2,n3,n4,n5,n6] at d); (with_reducible repeat first|refine W.a1 d ?_|refine W.a2 ?_|refine W.a3 ?_|refine W.bo ?_|refine W.a5 d fun hw d lw kw=>?_|refine W.a6 d ?_|refine W.a7 ?_|refine W.a8 ?_))
 obtain ⟨h13,e13,k13⟩:=eqGens_run (base:=base) hG.1 hG.2.1 ⟨Own.sl (d.rs (i:=7) rfl),Own.sl (d.rs (i:=8) rfl)⟩ ⟨Own.sl (d.rs (i:=14) rfl),Own.sl (d.rs (i:=15) rfl)⟩ d.ge
 refine W.bs e13 ?_
 have d:=d.kN k13
 ((try simp only [n1,n2,n3,n4,n5,n6] at d); (with_reducible repeat first|refine W.a1 d ?_|refine W.a2 ?_|refine W.a3 ?_|refine W.bo ?_|refine W.a5 d fun hw d lw kw=>?_|refine W.a6 d ?_|refine W.a7 ?_|refine W.a8 ?_))
 refine W.ifF (by decide) ?_
 obtain ⟨sa3,h14,e14,d,_⟩:=d.toSt ha (xa.keepN d.kb)
 refine W.bs e14 ?_
 ((try simp only [n1,n2,n3,n4,n5,n6] at d); (with_reducible repeat first|refine W.a1 d ?_|refine W.a2 ?_|refine W.a3 ?_|refine W.bo ?_|refine W.a5 d fun hw d lw kw=>?_|refine W.a6 d ?_|refine W.a7 ?_|refine W.a8 ?_))
 refine W.bs (eqStringS_run (base:=base) (l:=ats) (by omega) (Own.sl (d.rs (i:=9) rfl)) (Own.sl (d.rs (i:=16) rfl))) ?_
 ((try simp only [n1,n2,n3,n4,n5,n6] at d); (with_reducible repeat first|refine W.a1 d ?_|refine W.a2 ?_|refine W.a3 ?_|refine W.bo ?_|refine W.a5 d fun hw d lw kw=>?_|refine W.a6 d ?_|refine W.a7 ?_|refine W.a8 ?_))
 refine W.ifF (by decide) ?_
 obtain ⟨ra3,h15,e15,d,_⟩:=d.toIn hrl (xr.keepN d.kb)
 refine W.bs e15 ?_
 ((try simp only [n1,n2,n3,n4,n5,n6] at d); (with_reducible repeat first|refine W.a1 d ?_|refine W.a2 ?_|refine W.a3 ?_|refine W.bo ?_|refine W.a5 d fun hw d lw kw=>?_|refine W.a6 d ?_|refine W.a7 ?_|refine W.a8 ?_))
 refine W.bs (eqIntS_run (base:=base) (Own.sl (d.rs (i:=10) rfl)) (Own.sl (d.rs (i:=17) rfl)) (by omega)) ?_
 ((try simp only [n1,n2,n3,n4,n5,n6] at d); (with_reducible repeat first|refine W.a1 d ?_|refine W.a2 ?_|refine W.a3 ?_|refine W.bo ?_|refine W.a5 d fun hw d lw kw=>?_|refine W.a6 d ?_|refine W.a7 ?_|refine W.a8 ?_))
 refine W.ifF (by simp) ?_
 ((try simp only [n1,n2,n3,n4,n5,n6] at d); (with_reducible repeat first|refine W.a1 d ?_|refine W.a2 ?_|refine W.a3 ?_|refine W.bo ?_|refine W.a5 d fun hw d lw kw=>?_|refine W.a6 d ?_|refine W.a7 ?_|refine W.a8 ?_))
 obtain ⟨h17,e17,d⟩:=d.markGn (i:=7) (j:=8) (k:=1) (a:=wa2) (b:=wb2) (G:=G) rfl rfl (by omega) (by omega) (by omega)
 refine W.bs e17 ?_
 ((try simp only [n1,n2,n3,n4,n5,n6] at d); (with_reducible repeat first|refine W.a1 d ?_|refine W.a2 ?_|refine W.a3 ?_|refine W.bo ?_|refine W.a5 d fun hw d lw kw=>?_|refine W.a6 d ?_|refine W.a7 ?_|refine W.a8 ?_))
 obtain ⟨h18,e18,d⟩:=d.markS (i:=9) (k:=1 + G.old.length + G.young.length) (a:=sa2) (l:=ats) rfl (by omega) (by omega)
 refine W.bs e18 ?_
 ((try simp only [n1,n2,n3,n4,n5,n6] at d); (with_reducible repeat first|refine W.a1 d ?_|refine W.a2 ?_|refine W.a3 ?_|refine W.bo ?_|refine W.a5 d fun hw d lw kw=>?_|refine W.a6 d ?_|refine W.a7 ?_|refine W.a8 ?_))
 obtain ⟨h19,e19,d⟩:=d.markW (i:=10) (k:=1 + G.old.length + G.young.length + ats.length) (a:=ra2) (l:=roots) rfl (by omega) (by omega)
 refine W.bs e19 ?_
 ((try simp only [n1,n2,n3,n4,n5,n6] at d); (with_reducible repeat first|refine W.a1 d ?_|refine W.a2 ?_|refine W.a3 ?_|refine W.bo ?_|refine W.a5 d fun hw d lw kw=>?_|refine W.a6 d ?_|refine W.a7 ?_|refine W.a8 ?_))
 apply W.jb false d
 ·((try simp only [n1,n2,n3,n4,n5,n6] at d); (with_reducible repeat first|refine W.a1 d ?_|refine W.a2 ?_|refine W.a3 ?_|refine W.bo ?_|refine W.a5 d fun hw d lw kw=>?_|refine W.a6 d ?_|refine W.a7 ?_|refine W.a8 ?_))
  refine W.ifF (by simp; omega) ?_
  ((try simp only [n1,n2,n3,n4,n5,n6] at d); (with_reducible repeat first|refine W.a1 d ?_|refine W.a2 ?_|refine W.a3 ?_|refine W.bo ?_|refine W.a5 d fun hw d lw kw=>?_|refine W.a6 d ?_|refine W.a7 ?_|refine W.a8 ?_))
  obtain ⟨hx2,ex2,kx2⟩:=eqGens_run (base:=base) (G:=q.1.1) q1l q2l ⟨Own.sl (d.rs (i:=11) rfl),Own.sl (d.rs (i:=12) rfl)⟩ ⟨Own.sl (d.rs (i:=4) rfl),Own.sl (d.rs (i:=5) rfl)⟩ d.ge
  refine W.bs ex2 ?_
  have d:=d.kN kx2
  ((try simp only [n1,n2,n3,n4,n5,n6] at d); (with_reducible repeat first|refine W.a1 d ?_|refine W.a2 ?_|refine W.a3 ?_|refine W.bo ?_|refine W.a5 d fun hw d lw kw=>?_|refine W.a6 d ?_|refine W.a7 ?_|refine W.a8 ?_))
  refine W.ifF (by decide) ?_
  refine W.bs (eqIntS_run (base:=base) (Own.sl (d.rs (i:=13) rfl)) (Own.sl (d.rs (i:=6) rfl)) (by omega)) ?_
  ((try simp only [n1,n2,n3,n4,n5,n6] at d); (with_reducible repeat first|refine W.a1 d ?_|refine W.a2 ?_|refine W.a3 ?_|refine W.bo ?_|refine W.a5 d fun hw d lw kw=>?_|refine W.a6 d ?_|refine W.a7 ?_|refine W.a8 ?_))
  refine W.ifF (by simp) ?_
  exact W.lb rfl (by simp) kx2
 intro hj2 d nj2
 ((try simp only [n1,n2,n3,n4,n5,n6] at d); (with_reducible repeat first|refine W.a1 d ?_|refine W.a2 ?_|refine W.a3 ?_|refine W.bo ?_|refine W.a5 d fun hw d lw kw=>?_|refine W.a6 d ?_|refine W.a7 ?_|refine W.a8 ?_))
 refine W.ifF (by decide) ?_
 ((try simp only [n1,n2,n3,n4,n5,n6] at d); (with_reducible repeat first|refine W.a1 d ?_|refine W.a2 ?_|refine W.a3 ?_|refine W.bo ?_|refine W.a5 d fun hw d lw kw=>?_|refine W.a6 d ?_|refine W.a7 ?_|refine W.a8 ?_))
 obtain ⟨h20,e20,d⟩:=d.markGn (i:=11) (j:=12) (k:=1) (a:=wg) (b:=vg) (G:=q.1.1) rfl rfl (by omega) (by omega) (by omega)
 refine W.bs e20 ?_
 ((try simp only [n1,n2,n3,n4,n5,n6] at d); (with_reducible repeat first|refine W.a1 d ?_|refine W.a2 ?_|refine W.a3 ?_|refine W.bo ?_|refine W.a5 d fun hw d lw kw=>?_|refine W.a6 d ?_|refine W.a7 ?_|refine W.a8 ?_))
 obtain ⟨h21,e21,d⟩:=d.markW (i:=13) (k:=1 + q.1.1.old.length + q.1.1.young.length) (a:=rg) (l:=q.1.2) rfl (by omega) (by omega)
 refine W.bs e21 ?_
 ((try simp only [n1,n2,n3,n4,n5,n6] at d); (with_reducible repeat first|refine W.a1 d ?_|refine W.a2 ?_|refine W.a3 ?_|refine W.bo ?_|refine W.a5 d fun hw d lw kw=>?_|refine W.a6 d ?_|refine W.a7 ?_|refine W.a8 ?_))
 obtain ⟨h22,e22,k22⟩:=heldGens_run (base:=base) (k:=1) (G:=q.1.1) (Own.sl (d.rs (i:=11) rfl)) (Own.sl (d.rs (i:=12) rfl)) (by omega) (by omega) (by omega) d.ge
 refine W.bs e22 ?_
 have d:=d.kN k22
 ((try simp only [n1,n2,n3,n4,n5,n6] at d); (with_reducible repeat first|refine W.a1 d ?_|refine W.a2 ?_|refine W.a3 ?_|refine W.bo ?_|refine W.a5 d fun hw d lw kw=>?_|refine W.a6 d ?_|refine W.a7 ?_|refine W.a8 ?_))
 refine W.ifF (by simp; omega) ?_
 refine W.bs (heldIntS_run (base:=base) (k:=1 + q.1.1.old.length + q.1.1.young.length) (n:=q.1.2.length) (Own.sl (d.rs (i:=13) rfl)) (by omega) (by omega)) ?_
 ((try simp only [n1,n2,n3,n4,n5,n6] at d); (with_reducible repeat first|refine W.a1 d ?_|refine W.a2 ?_|refine W.a3 ?_|refine W.bo ?_|refine W.a5 d fun hw d lw kw=>?_|refine W.a6 d ?_|refine W.a7 ?_|refine W.a8 ?_))
 refine W.ifF (by simp; omega) ?_
 refine W.ifF (by simp) ?_
 ((try simp only [n1,n2,n3,n4,n5,n6] at d); (with_reducible repeat first|refine W.a1 d ?_|refine W.a2 ?_|refine W.a3 ?_|refine W.bo ?_|refine W.a5 d fun hw d lw kw=>?_|refine W.a6 d ?_|refine W.a7 ?_|refine W.a8 ?_))
 obtain ⟨wa4,wb4,h24,e24,d,_⟩:=d.toGn hG.1 hG.2.1 (gk d.kb)
 refine W.bs e24 ?_
 ((try simp only [n1,n2,n3,n4,n5,n6] at d); (with_reducible repeat first|refine W.a1 d ?_|refine W.a2 ?_|refine W.a3 ?_|refine W.bo ?_|refine W.a5 d fun hw d lw kw=>?_|refine W.a6 d ?_|refine W.a7 ?_|refine W.a8 ?_))
 obtain ⟨sa4,h25,e25,d,_⟩:=d.toSt ha (xa.keepN d.kb)
 refine W.bs e25 ?_
 ((try simp only [n1,n2,n3,n4,n5,n6] at d); (with_reducible repeat first|refine W.a1 d ?_|refine W.a2 ?_|refine W.a3 ?_|refine W.bo ?_|refine W.a5 d fun hw d lw kw=>?_|refine W.a6 d ?_|refine W.a7 ?_|refine W.a8 ?_))
 obtain ⟨ra4,h26,e26,d,_⟩:=d.toIn hrl (xr.keepN d.kb)
 refine W.bs e26 ?_
 ((try simp only [n1,n2,n3,n4,n5,n6] at d); (with_reducible repeat first|refine W.a1 d ?_|refine W.a2 ?_|refine W.a3 ?_|refine W.bo ?_|refine W.a5 d fun hw d lw kw=>?_|refine W.a6 d ?_|refine W.a7 ?_|refine W.a8 ?_))
 obtain ⟨wh,vh,rh,h27,e27,dh⟩:=implMinor_run (base:=base) h26 G ats roots wa4 wb4 sa4 ra4 hG ha hz hr hrl (swOf (d.rs (i:=18) rfl) (d.rs (i:=19) rfl) (d.rs (i:=20) rfl) (d.rs (i:=21) rfl)) d.ge
 have d:=d.callR dh (by simp)
 refine W.bs e27 ?_
 rw [hQ] at d ⊢
 ((try simp only [n1,n2,n3,n4,n5,n6] at d); (with_reducible repeat first|refine W.a1 d ?_|refine W.a2 ?_|refine W.a3 ?_|refine W.bo ?_|refine W.a5 d fun hw d lw kw=>?_|refine W.a6 d ?_|refine W.a7 ?_|refine W.a8 ?_); (refine W.nD d fun w5 d _ kw5=>?_); (with_reducible repeat first|refine W.a1 d ?_|refine W.a2 ?_|refine W.a3 ?_|refine W.bo ?_|refine W.a5 d fun hw d lw kw=>?_|refine W.a6 d ?_|refine W.a7 ?_|refine W.a8 ?_))
 apply W.jb false d
 ·((try simp only [n1,n2,n3,n4,n5,n6] at d); (with_reducible repeat first|refine W.a1 d ?_|refine W.a2 ?_|refine W.a3 ?_|refine W.bo ?_|refine W.a5 d fun hw d lw kw=>?_|refine W.a6 d ?_|refine W.a7 ?_|refine W.a8 ?_))
  obtain ⟨hx3,ex3,kx3⟩:=eqGens_run (base:=base) (G:=q.1.1) q1l q2l ⟨Own.sl (d.rs (i:=22) rfl),Own.sl (d.rs (i:=23) rfl)⟩ ⟨Own.sl (d.rs (i:=4) rfl),Own.sl (d.rs (i:=5) rfl)⟩ d.ge
  refine W.bs ex3 ?_
  have d:=d.kN kx3
  ((try simp only [n1,n2,n3,n4,n5,n6] at d); (with_reducible repeat first|refine W.a1 d ?_|refine W.a2 ?_|refine W.a3 ?_|refine W.bo ?_|refine W.a5 d fun hw d lw kw=>?_|refine W.a6 d ?_|refine W.a7 ?_|refine W.a8 ?_))
  refine W.ifF (by decide) ?_
  refine W.bs (eqIntS_run (base:=base) (Own.sl (d.rs (i:=24) rfl)) (Own.sl (d.rs (i:=6) rfl)) (by omega)) ?_
  ((try simp only [n1,n2,n3,n4,n5,n6] at d); (with_reducible repeat first|refine W.a1 d ?_|refine W.a2 ?_|refine W.a3 ?_|refine W.bo ?_|refine W.a5 d fun hw d lw kw=>?_|refine W.a6 d ?_|refine W.a7 ?_|refine W.a8 ?_))
  refine W.ifF (by simp) ?_
  exact W.lb rfl (by simp) kx3
 intro hj3 d nj3
 ((try simp only [n1,n2,n3,n4,n5,n6] at d); (with_reducible repeat first|refine W.a1 d ?_|refine W.a2 ?_|refine W.a3 ?_|refine W.bo ?_|refine W.a5 d fun hw d lw kw=>?_|refine W.a6 d ?_|refine W.a7 ?_|refine W.a8 ?_))
 refine W.ifF (by decide) ?_
 ((try simp only [n1,n2,n3,n4,n5,n6] at d); (with_reducible repeat first|refine W.a1 d ?_|refine W.a2 ?_|refine W.a3 ?_|refine W.bo ?_|refine W.a5 d fun hw d lw kw=>?_|refine W.a6 d ?_|refine W.a7 ?_|refine W.a8 ?_))
 obtain ⟨h28,e28,k28⟩:=heldGens_run (base:=base) (k:=1) (G:=q.1.1) (Own.sl (d.rs (i:=11) rfl)) (Own.sl (d.rs (i:=12) rfl)) (by omega) (by omega) (by omega) d.ge
 refine W.bs e28 ?_
 have d:=d.kN k28
 ((try simp only [n1,n2,n3,n4,n5,n6] at d); (with_reducible repeat first|refine W.a1 d ?_|refine W.a2 ?_|refine W.a3 ?_|refine W.bo ?_|refine W.a5 d fun hw d lw kw=>?_|refine W.a6 d ?_|refine W.a7 ?_|refine W.a8 ?_))
 refine W.ifF (by simp; omega) ?_
 refine W.bs (heldIntS_run (base:=base) (k:=1 + q.1.1.old.length + q.1.1.young.length) (n:=q.1.2.length) (Own.sl (d.rs (i:=13) rfl)) (by omega) (by omega)) ?_
 ((try simp only [n1,n2,n3,n4,n5,n6] at d); (with_reducible repeat first|refine W.a1 d ?_|refine W.a2 ?_|refine W.a3 ?_|refine W.bo ?_|refine W.a5 d fun hw d lw kw=>?_|refine W.a6 d ?_|refine W.a7 ?_|refine W.a8 ?_))
 refine W.ifF (by simp; omega) ?_
 refine W.ifF (by simp) (W.ret rfl)
theorem minor_entry {base : Nat} {h : AH} {f f2 f3 : Nat} {cs : List Value} {v w : Value} (x : Rd Try.prog h f 58 cs) (y : Rd Try.prog h f2 59 [v]) (z : Rd Try.prog h f3 52 [w]) (hb : base≤h.length) : ∃ h',run (Et base) 7 ([.agg cs.toArray,v,w] ++ []) h = some (.bool true,h'):=by
 obtain ⟨a,b,G,rfl,h1,h2,h3,h4,h5⟩:=rd_gens x
 obtain ⟨sa,ats,rfl,s1,s2,s3⟩:=rd_strs y
 obtain ⟨ia,l,rfl,i1,i2,i3⟩:=rd_ints z
 obtain ⟨⟨u,h'⟩,e,q⟩:=minor_law (base:=base) h1 h2 (by have:=s1; unfold maxLen at this; exact this) h4 h5 s3 i3 h3 s2 i2 hb
 simp only at q
 exact ⟨h',by rw [e,q]⟩
end Go.Proofs.Ytkdenmdijdmnjaa.Am
