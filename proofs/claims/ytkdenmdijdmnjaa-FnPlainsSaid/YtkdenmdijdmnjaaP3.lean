/- What the functions of this law compute, lemma by lemma, up to the law.
Conditions: none. -/
import Derived.Test.YtkdenmdijdmnjaaP2
import Derived.DataShut
import Derived.IntWalk
import Derived.Laws.BitsLemmas
set_option linter.unusedSimpArgs false
set_option linter.unusedVariables false
namespace Go.Proofs.Ytkdenmdijdmnjaa.Am
open Go Go.RowKit
section
theorem badSd_iff {f : Nat} {x : Sd} : badSd f x = false↔(1≤x.kind∧x.kind≤3)∧(1≤x.pid∧x.pid≤99999)∧tOk f x.t = true:=by
 unfold badSd
 rw [← inB_iff,← inB_iff]
 cases inB x.kind 1 3 <;> cases inB x.pid 1 99999 <;> simp
theorem anyBadS_iff {f : Nat} : ∀ {l : List Sd},anyBadS f l = false↔∀ x∈l,badSd f x = false
 | []=>⟨fun _ x hx=>(nomatch hx),fun _=>rfl⟩
 | x :: r=>by
  rw [anyBadS,Bool.or_eq_false_iff,anyBadS_iff]
  exact ⟨fun ⟨h1,h2⟩ y hy=>by rcases List.mem_cons.1 hy with rfl|hy; exact h1; exact h2 y hy,fun h=>⟨h x (.head _),fun y hy=>h y (.tail _ hy)⟩⟩
theorem saidOk_iff {f : Nat} {l : List Sd} : saidOk f l = true↔(∀ x∈l,badSd f x = false)∧l.length≤500:=by
 unfold saidOk
 rw [Bool.and_eq_true,Bool.not_eq_true',anyBadS_iff,decide_eq_true_iff]
 exact ⟨fun ⟨h1,h2⟩=>⟨h1,by omega⟩,fun ⟨h1,h2⟩=>⟨h1,by omega⟩⟩
theorem sayL_ok {f : Nat} {l : List Sd} {kind pid : Int} {t : Tm} (h : saidOk f l = true) (hk : 1≤kind∧kind≤3) (hp : 1≤pid∧pid≤99999) (ht : tOk f t = true) : saidOk f (sayL l kind pid t) = true:=by
 unfold sayL
 split
 ·exact h
 ·rename_i c
  have c : ¬ (l.length : Int) ≥ 500:=fun h=>c (decide_eq_true h)
  obtain ⟨h1,h2⟩:=saidOk_iff.1 h
  refine saidOk_iff.2 ⟨fun x hx=>?_,by simp; omega⟩
  rcases List.mem_append.1 hx with hx|hx
  ·exact h1 x hx
  ·rw [List.mem_singleton.1 hx]
   exact badSd_iff.2 ⟨hk,hp,ht⟩
structure GP (F : Nat) (P : Pl) : Prop where
 co : codeOk P.code = true
 nx : 1≤P.next∧P.next≤90000
 len : P.acs.length≤20
 ou : saidOk F P.out = true
 ac : ∀ A∈P.acs,acOk F P.code A = true
 lt : ∀ A∈P.acs,A.pid < P.next
 li : ∀ A∈P.acs,∀ n∈A.links,n < P.next
 so : (P.acs.map (·.pid)).Pairwise (· < ·)
 sy : ∀ i j (hi : i < P.acs.length) (hj : j < P.acs.length),P.acs[j].pid∈P.acs[i].links→P.acs[i].pid∈P.acs[j].links
variable {F : Nat} {P : Pl}
theorem GP.inj (g : GP F P) {i j : Nat} (hi : i < P.acs.length) (hj : j < P.acs.length) (e : P.acs[i].pid = P.acs[j].pid) : i = j:=by
 have h:=List.pairwise_iff_getElem.1 g.so
 simp only [List.length_map,List.getElem_map] at h
 rcases Nat.lt_trichotomy i j with h1|h1|h1
 ·have:=h i j hi hj h1; omega
 ·exact h1
 ·have:=h j i hj hi h1; omega
theorem GP.size (g : GP F P) : PSz P:=⟨by have:=g.len; omega,by have:=(saidOk_iff.1 g.ou).2; omega,fun A hA=>by
 have:=(lkOk_iff.1 (acOk_iff.1 (g.ac A hA)).2.2.2.2.2.2.2).1; omega,fun A hA=>by have:=(acOk_iff.1 (g.ac A hA)).2.2.2.2.2.1; omega⟩
theorem set_pid {l : List Ac} {i : Nat} {A : Ac} (hi : i < l.length) (e : A.pid = l[i].pid) : (l.set i A).map (·.pid) = l.map (·.pid):=by
 rw [List.map_set,e]
 apply List.ext_getElem (by simp)
 intro j h1 h2
 rw [List.getElem_set]
 split
 ·rename_i h; subst h; simp
 ·rfl
theorem GP.setA (g : GP F P) {i : Nat} {A : Ac} (hi : i < P.acs.length) (e : A.pid = P.acs[i].pid) (el : A.links = P.acs[i].links) (ok : acOk F P.code A = true) : GP F ⟨P.code,P.acs.set i A,P.next,P.out⟩:=by
 have hm : ∀ B∈P.acs.set i A,B = A∨B∈P.acs:=fun B hB=>(List.mem_or_eq_of_mem_set hB).symm
 have key : ∀ j (hj : j < (P.acs.set i A).length),(P.acs.set i A)[j].pid = (P.acs[j]'(by simpa using hj)).pid∧(P.acs.set i A)[j].links = (P.acs[j]'(by simpa using hj)).links:=fun j hj=>by
  rw [List.getElem_set]
  split
  ·rename_i h; subst h; exact ⟨e,el⟩
  ·exact ⟨rfl,rfl⟩
 refine ⟨g.co,g.nx,by show (P.acs.set i A).length≤20; rw [List.length_set]; exact g.len,g.ou,fun B hB=>?_,fun B hB=>?_,fun B hB=>?_,?_,fun j k hj hk h=>?_⟩
 ·rcases hm B hB with rfl|hB
  ·exact ok
  ·exact g.ac B hB
 ·rcases hm B hB with rfl|hB
  ·rw [e]; exact g.lt _ (List.getElem_mem hi)
  ·exact g.lt B hB
 ·rcases hm B hB with rfl|hB
  ·rw [el]; exact g.li _ (List.getElem_mem hi)
  ·exact g.li B hB
 ·show ((P.acs.set i A).map (·.pid)).Pairwise (· < ·)
  rw [set_pid hi e]
  exact g.so
 ·have hj' : j < (P.acs.set i A).length:=hj
  have hk' : k < (P.acs.set i A).length:=hk
  show (P.acs.set i A)[j].pid∈(P.acs.set i A)[k].links
  have h : (P.acs.set i A)[k].pid∈(P.acs.set i A)[j].links:=h
  rw [(key j hj').1,(key k hk').2]
  rw [(key k hk').1,(key j hj').2] at h
  exact g.sy j k _ _ h
theorem GP.told (g : GP F P) {pid : Int} {t : Tm} (ht : tOk F t = true) : GP F ⟨P.code,toldL pid t P.acs,P.next,P.out⟩:=by
 unfold toldL
 split
 ·exact g
 ·rename_i c
  unfold toldB at c
  have hlt:=atL_lt pid P.acs 0
  have c' : ¬ atL pid 0 P.acs < 0:=fun h=>c (by rw [if_pos (decide_eq_true h)])
  have hi : (atL pid 0 P.acs).toNat < P.acs.length:=by omega
  rw [if_neg (by simpa using c'),aD hi] at c
  rw [aD hi]
  obtain ⟨q1,q2,q3,q4,q5,q6,q7,q8⟩:=acOk_iff.1 (g.ac _ (List.getElem_mem hi))
  refine g.setA hi rfl rfl (acOk_iff.2 ⟨q1,q2,q3,q4,q5,?_,fun u hu=>?_,q8⟩)
  ·simp at c ⊢; omega
  ·rcases List.mem_append.1 hu with hu|hu
   ·exact q7 u hu
   ·rw [List.mem_singleton.1 hu]; exact ht
theorem GP.said (g : GP F P) {kind pid : Int} {t : Tm} (hk : 1≤kind∧kind≤3) (hp : 1≤pid∧pid≤99999) (ht : tOk F t = true) : GP F ⟨P.code,P.acs,P.next,sayL P.out kind pid t⟩:=
 ⟨g.co,g.nx,g.len,sayL_ok g.ou hk hp ht,g.ac,g.lt,g.li,g.so,g.sy⟩
theorem GP.link (g : GP F P) {pid other : Int} (hat : ¬ atL pid 0 P.acs < 0) : GP F ⟨P.code,linkL pid other P.acs,P.next,P.out⟩:=by
 unfold linkL
 split
 ·exact g
 ·rename_i c
  unfold linkB at c
  have c1 : ¬ atL other 0 P.acs < 0:=fun h=>c (by rw [if_pos (decide_eq_true h)])
  rw [if_neg (by simpa using c1)] at c
  have c2 : ¬ (atL other 0 P.acs == atL pid 0 P.acs) = true:=fun h=>c (by rw [if_pos h])
  rw [if_neg c2] at c
  rcases atL_spec pid P.acs 0 with ⟨h,_⟩|⟨k,hk,ek,pk⟩
  ·omega
  rcases atL_spec other P.acs 0 with ⟨h,_⟩|⟨m,hm,em,pm⟩
  ·omega
  have ek' : (atL pid 0 P.acs).toNat = k:=by omega
  have em' : (atL other 0 P.acs).toNat = m:=by omega
  rw [ek',em',aD hk,aD hm] at c
  rw [ek',em',aD hk,aD hm]
  have hkm : k≠m:=fun e=>c2 (by rw [beq_iff_eq]; omega)
  have hl : P.acs[k].links.length < 50∧P.acs[m].links.length < 50:=by
   split at c
   ·exact absurd rfl c
   ·rename_i c3
    simp at c c3
    omega
  have ak:=acOk_iff.1 (g.ac _ (List.getElem_mem hk))
  have am:=acOk_iff.1 (g.ac _ (List.getElem_mem hm))
  have hne : other≠pid:=fun e=>hkm (g.inj hk hm (by rw [pk,pm,e]))
  have lk:=addI_ok (v:=other) ak.2.2.2.2.2.2.2 (by rw [← pm]; exact am.2.1) (by rw [pk]; exact hne) hl.1
  have lm:=addI_ok (v:=pid) am.2.2.2.2.2.2.2 (by rw [← pk]; exact ak.2.1) (by rw [pm]; exact fun e=>hne e.symm) hl.2
  have okk : acOk F P.code (setLk other P.acs[k]) = true:=acOk_iff.2 ⟨ak.1,ak.2.1,ak.2.2.1,ak.2.2.2.1,ak.2.2.2.2.1,ak.2.2.2.2.2.1,ak.2.2.2.2.2.2.1,lk⟩
  have okm : acOk F P.code (setLk pid P.acs[m]) = true:=acOk_iff.2 ⟨am.1,am.2.1,am.2.2.1,am.2.2.2.1,am.2.2.2.2.1,am.2.2.2.2.2.1,am.2.2.2.2.2.2.1,lm⟩
  obtain ⟨L,eL⟩ : ∃ L,L = (P.acs.set k (setLk other P.acs[k])).set m (setLk pid P.acs[m]):=⟨_,rfl⟩
  rw [← eL]
  have hlen : L.length = P.acs.length:=by rw [eL]; simp
  have key : ∀ j (hj : j < L.length),L[j].pid = (P.acs[j]'(by omega)).pid∧∀ n,n∈L[j].links↔(n∈(P.acs[j]'(by omega)).links∨(j = k∧n = other)∨(j = m∧n = pid)):=by
   intro j hj
   have hj' : j < P.acs.length:=by omega
   have e : L[j] = if m = j then setLk pid P.acs[m] else if k = j then setLk other P.acs[k] else P.acs[j]:=by
    simp only [eL,List.getElem_set]
   rw [e]
   by_cases e1 : m = j
   ·subst e1
    rw [if_pos rfl]
    refine ⟨rfl,fun n=>?_⟩
    show n∈addI pid _↔_
    rw [addI_mem]
    constructor
    ·rintro (h|h)
     ·exact .inr (.inr ⟨rfl,h⟩)
     ·exact .inl h
    ·rintro (h|⟨h,_⟩|⟨_,h⟩)
     ·exact .inr h
     ·exact absurd h.symm hkm
     ·exact .inl h
   ·rw [if_neg e1]
    by_cases e2 : k = j
    ·subst e2
     rw [if_pos rfl]
     refine ⟨rfl,fun n=>?_⟩
     show n∈addI other _↔_
     rw [addI_mem]
     constructor
     ·rintro (h|h)
      ·exact .inr (.inl ⟨rfl,h⟩)
      ·exact .inl h
     ·rintro (h|⟨_,h⟩|⟨h,_⟩)
      ·exact .inr h
      ·exact .inl h
      ·exact absurd h.symm e1
    ·rw [if_neg e2]
     refine ⟨rfl,fun n=>⟨.inl,?_⟩⟩
     rintro (h|⟨h,_⟩|⟨h,_⟩)
     ·exact h
     ·exact absurd h.symm e2
     ·exact absurd h.symm e1
  have mem : ∀ B∈L,B = setLk pid P.acs[m]∨B = setLk other P.acs[k]∨B∈P.acs:=fun B hB=>by
   rw [eL] at hB
   rcases List.mem_or_eq_of_mem_set hB with h|h
   ·rcases List.mem_or_eq_of_mem_set h with h|h
    ·exact .inr (.inr h)
    ·exact .inr (.inl h)
   ·exact .inl h
  have epid : L.map (·.pid) = P.acs.map (·.pid):=by
   apply List.ext_getElem (by simp [hlen])
   intro j h1 h2
   simp only [List.getElem_map]
   exact (key j (by simpa using h1)).1
  refine ⟨g.co,g.nx,by show L.length≤20; rw [hlen]; exact g.len,g.ou,fun B hB=>?_,fun B hB=>?_,fun B hB=>?_,by show (L.map (·.pid)).Pairwise (· < ·); rw [epid]; exact g.so,fun i j hi hj h=>?_⟩
  ·rcases mem B hB with rfl|rfl|hB
   ·exact okm
   ·exact okk
   ·exact g.ac B hB
  ·rcases mem B hB with rfl|rfl|hB
   ·exact g.lt P.acs[m] (List.getElem_mem hm)
   ·exact g.lt P.acs[k] (List.getElem_mem hk)
   ·exact g.lt B hB
  ·rcases mem B hB with rfl|rfl|hB
   ·intro n hn
    rcases addI_mem.1 (show n∈addI pid _ from hn) with rfl|hn
    ·rw [← pk]; exact g.lt _ (List.getElem_mem hk)
    ·exact g.li _ (List.getElem_mem hm) n hn
   ·intro n hn
    rcases addI_mem.1 (show n∈addI other _ from hn) with rfl|hn
    ·rw [← pm]; exact g.lt _ (List.getElem_mem hm)
    ·exact g.li _ (List.getElem_mem hk) n hn
   ·exact g.li B hB
  ·have hi' : i < L.length:=hi
   have hj' : j < L.length:=hj
   show L[i].pid∈L[j].links
   have h : L[j].pid∈L[i].links:=h
   rw [(key i hi').1]
   rw [(key j hj').1] at h
   rcases ((key i hi').2 _).1 h with h|⟨e1,e2⟩|⟨e1,e2⟩
   ·exact ((key j hj').2 _).2 (.inl (g.sy i j _ _ h))
   ·subst e1
    have : j = m:=g.inj (by omega) hm (by rw [e2,pm])
    subst this
    exact ((key j hj').2 _).2 (.inr (.inr ⟨rfl,pk⟩))
   ·subst e1
    have : j = k:=g.inj (by omega) hk (by rw [e2,pk])
    subst this
    exact ((key j hj').2 _).2 (.inr (.inl ⟨rfl,pm⟩))
end
section
variable {F : Nat} {P : Pl}
theorem cutA_sub {k : Nat} {l : List Ac} : (cutA k l).Sublist l:=by
 have h:=List.take_append_drop k l
 unfold cutA
 have : (l.take k++l.drop (k + 1)).Sublist (l.take k++l.drop k):=List.Sublist.append (List.Sublist.refl _) (by
  rw [← List.drop_drop]
  exact List.drop_sublist _ _)
 rw [h] at this
 exact this
theorem GP.cut (g : GP F P) {k : Nat} {pid : Int} {t : Tm} (hk : k < P.acs.length) (ek : P.acs[k].pid = pid) (ht : tOk F t = true) : GP F ⟨P.code,(cutA k P.acs).map (unlk pid),P.next,sayL P.out 3 pid t⟩:=by
 have hp:=(acOk_iff.1 (g.ac _ (List.getElem_mem hk))).2.1
 rw [ek] at hp
 have hidx : ∀ j (hj : j < ((cutA k P.acs).map (unlk pid)).length),∃ i,∃ hi : i < P.acs.length,i≠k∧((cutA k P.acs).map (unlk pid))[j] = unlk pid P.acs[i]:=fun j hj=>by
  rw [List.length_map] at hj
  have hcl:=cutA_len hk
  rw [List.getElem_map]
  by_cases c : j < k
  ·refine ⟨j,by omega,by omega,?_⟩
   simp only [cutA]
   rw [List.getElem_append_left (by simp; omega),List.getElem_take]
  ·refine ⟨j + 1,by omega,by omega,?_⟩
   simp only [cutA]
   rw [List.getElem_append_right (by simp; omega)]
   simp only [List.length_take,List.getElem_drop]
   congr 2
   omega
 have hmem : ∀ B∈(cutA k P.acs).map (unlk pid),∃ A∈P.acs,B = unlk pid A:=fun B hB=>by
  obtain ⟨A,hA,rfl⟩:=List.mem_map.1 hB
  exact ⟨A,cutA_mem hA,rfl⟩
 refine ⟨g.co,g.nx,by show ((cutA k P.acs).map (unlk pid)).length≤20; rw [List.length_map]; have:=cutA_len hk; have:=g.len; omega,sayL_ok g.ou (by omega) hp ht,fun B hB=>?_,fun B hB=>?_,fun B hB n hn=>?_,?_,fun i j hi hj h=>?_⟩
 ·obtain ⟨A,hA,rfl⟩:=hmem B hB
  obtain ⟨q1,q2,q3,q4,q5,q6,q7,q8⟩:=acOk_iff.1 (g.ac A hA)
  exact acOk_iff.2 ⟨q1,q2,q3,q4,q5,q6,q7,dropI_ok q8⟩
 ·obtain ⟨A,hA,rfl⟩:=hmem B hB
  exact g.lt A hA
 ·obtain ⟨A,hA,rfl⟩:=hmem B hB
  exact g.li A hA n (dropI_mem.1 (show n∈dropI pid A.links from hn)).1
 ·show (((cutA k P.acs).map (unlk pid)).map (·.pid)).Pairwise (· < ·)
  rw [List.map_map]
  exact g.so.sublist (cutA_sub.map (·.pid))
 ·have hi' : i < ((cutA k P.acs).map (unlk pid)).length:=hi
  have hj' : j < ((cutA k P.acs).map (unlk pid)).length:=hj
  show ((cutA k P.acs).map (unlk pid))[i].pid∈((cutA k P.acs).map (unlk pid))[j].links
  have h : ((cutA k P.acs).map (unlk pid))[j].pid∈((cutA k P.acs).map (unlk pid))[i].links:=h
  obtain ⟨a,ha,hak,ea⟩:=hidx i hi'
  obtain ⟨b,hb,hbk,eb⟩:=hidx j hj'
  rw [ea,eb] at h ⊢
  have h : P.acs[b].pid∈dropI pid P.acs[a].links:=h
  show P.acs[a].pid∈dropI pid P.acs[b].links
  refine dropI_mem.2 ⟨g.sy a b ha hb (dropI_mem.1 h).1,fun e=>hak (g.inj ha hk (by rw [e,ek]))⟩
theorem GP.endP {ok : Bool} {t : Tm} (ht : tOk F t = true) : ∀ (n : Nat) (pid : Int) (P : Pl),GP F P→GP F (endP ok t n pid P)
 | 0,pid,P,g=>g
 | n + 1,pid,P,g=>by
  rw [Am.endP]
  split
  ·exact g
  ·rename_i c
   have c : ¬ atL pid 0 P.acs < 0:=fun h=>c (decide_eq_true h)
   rcases atL_spec pid P.acs 0 with ⟨h,_⟩|⟨k,hk,ek,pk⟩
   ·omega
   have ek' : (atL pid 0 P.acs).toNat = k:=by omega
   rw [ek']
   have g2:=g.cut hk pk ht
   split
   ·exact g2
   ·generalize (P.acs.getD k a0).links = ls
    generalize (⟨P.code,(cutA k P.acs).map (unlk pid),P.next,sayL P.out 3 pid t⟩ : Pl) = Q at g2
    induction ls generalizing Q with
    | nil=>exact g2
    | cons m r ih=>exact ih _ (GP.endP ht n m Q g2)
theorem GP.ende (g : GP F P) {t : Tm} {pid : Int} (ht : tOk F t = true) : GP F (endE t pid P):=GP.endP ht _ _ _ g
theorem tm0_ok (hF : 1≤F) : tOk F tm0 = true:=by
 obtain ⟨f,rfl⟩ : ∃ f,F = f + 1:=⟨F - 1,by omega⟩
 unfold tOk tm0
 rw [lk,if_neg (by decide +kernel)]
 exact decide_eq_true (by rw [lkS]; omega)
theorem newRegs_mem {t u : Tm} : ∀ {n : Nat},u∈newRegs t n→u = t∨u = tm0
 | 0,h=>.inl (List.mem_singleton.1 h)
 | n + 1,h=>by
  rw [newRegs] at h
  rcases List.mem_append.1 h with h|h
  ·exact newRegs_mem h
  ·exact .inr (List.mem_singleton.1 h)
theorem GP.make (g : GP F P) (hF : 1≤F) {pc : Int} {t : Tm} (ht : tOk F t = true) (hpc : 0≤pc∧pc < (P.code.length : Int)) (hc : P.acs.length < 20) (hn : P.next < 90000) : GP F ⟨P.code,P.acs++[newA F P.next pc t],IntKind.wrap .i64 (P.next + (1 : Int)),sayL P.out 1 P.next t⟩:=by
 have hx:=g.nx
 have eA : newA F P.next pc t = ⟨P.next,pc,newRegs t 7,[],[]⟩:=by
  unfold newA newOk
  rw [if_pos]
  rw [Bool.and_eq_true,Bool.and_eq_true,inB_iff]
  exact ⟨by omega,by simp; omega,ht⟩
 rw [w64i (by omega) (by omega),eA]
 have hm : ∀ A∈P.acs++[(⟨P.next,pc,newRegs t 7,[],[]⟩ : Ac)],A∈P.acs∨A = ⟨P.next,pc,newRegs t 7,[],[]⟩:=fun A hA=>by
  rcases List.mem_append.1 hA with h|h
  ·exact .inl h
  ·exact .inr (List.mem_singleton.1 h)
 refine ⟨g.co,by show 1≤P.next + 1∧P.next + 1≤90000; omega,by show (P.acs++[_]).length≤20; simp; omega,sayL_ok g.ou (by omega) (by omega) ht,fun A hA=>?_,fun A hA=>?_,fun A hA n hn=>?_,?_,fun i j hi hj h=>?_⟩
 ·rcases hm A hA with hA|rfl
  ·exact g.ac A hA
  ·refine acOk_iff.2 ⟨g.co,by show 1≤P.next∧P.next≤99999; omega,hpc,newRegs_len t 7,fun u hu=>?_,by simp,fun u hu=>(nomatch hu),lkOk_iff.2 ⟨by simp,fun n hn=>(nomatch hn),List.Pairwise.nil⟩⟩
   rcases newRegs_mem hu with rfl|rfl
   ·exact ht
   ·exact tm0_ok hF
 ·show A.pid < P.next + 1
  rcases hm A hA with hA|rfl
  ·have:=g.lt A hA; omega
  ·show P.next < P.next + 1; omega
 ·show n < P.next + 1
  rcases hm A hA with hA|rfl
  ·have:=g.li A hA n hn; omega
  ·cases hn
 ·show ((P.acs++[(⟨P.next,pc,newRegs t 7,[],[]⟩ : Ac)]).map (fun A : Ac=>A.pid)).Pairwise (· < ·)
  rw [List.map_append,List.pairwise_append]
  refine ⟨g.so,List.pairwise_singleton _ _,fun a ha b hb=>?_⟩
  obtain ⟨A,hA,rfl⟩:=List.mem_map.1 ha
  simp only [List.map_cons,List.map_nil,List.mem_singleton] at hb
  rw [hb]
  exact g.lt A hA
 ·have hi' : i < (P.acs++[(⟨P.next,pc,newRegs t 7,[],[]⟩ : Ac)]).length:=hi
  have hj' : j < (P.acs++[(⟨P.next,pc,newRegs t 7,[],[]⟩ : Ac)]).length:=hj
  show (P.acs++[(⟨P.next,pc,newRegs t 7,[],[]⟩ : Ac)])[i].pid∈(P.acs++[(⟨P.next,pc,newRegs t 7,[],[]⟩ : Ac)])[j].links
  have h : (P.acs++[(⟨P.next,pc,newRegs t 7,[],[]⟩ : Ac)])[j].pid∈(P.acs++[(⟨P.next,pc,newRegs t 7,[],[]⟩ : Ac)])[i].links:=h
  have el : (P.acs++[(⟨P.next,pc,newRegs t 7,[],[]⟩ : Ac)]).length = P.acs.length + 1:=by simp
  by_cases ci : i < P.acs.length
  ·rw [List.getElem_append_left ci] at h ⊢
   by_cases cj : j < P.acs.length
   ·rw [List.getElem_append_left cj] at h ⊢
    exact g.sy i j ci cj h
   ·rw [List.getElem_append_right (by omega)] at h
    simp only [List.getElem_singleton] at h
    have:=g.li _ (List.getElem_mem ci) _ h
    omega
  ·rw [List.getElem_append_right (by omega)] at h
   simp only [List.getElem_singleton] at h
   cases h
theorem rg_ok (hF : 1≤F) {R : List Tm} (h8 : R.length = 8) (h : ∀ t∈R,tOk F t = true) {i : Int} (hi : 0≤i∧i≤7) : tOk F (rg R i) = true:=by
 unfold rg
 have : i.toNat < R.length:=by omega
 rw [List.getD_eq_getElem?_getD,List.getElem?_eq_getElem this,Option.getD_some]
 exact h _ (List.getElem_mem this)
end
section
variable {F : Nat} {P : Pl}
theorem flt_ok (hF : 1≤F) : tOk F (.mk 2 0 flt []) = true:=by
 obtain ⟨f,rfl⟩ : ∃ f,F = f + 1:=⟨F - 1,by omega⟩
 unfold tOk
 rw [lk,if_neg (by decide +kernel)]
 exact decide_eq_true (by rw [lkS]; omega)
theorem full_ok (hF : 1≤F) : tOk F fullT = true:=by
 obtain ⟨f,rfl⟩ : ∃ f,F = f + 1:=⟨F - 1,by omega⟩
 unfold tOk fullT
 rw [lk,if_neg (by decide +kernel)]
 exact decide_eq_true (by rw [lkS]; omega)
theorem tmZ_B (hF : 1≤F) : TmB F tmZ:=by
 obtain ⟨f,rfl⟩ : ∃ f,F = f + 1:=⟨F - 1,by omega⟩
 exact ⟨by decide,by decide,fun t ht=>(nomatch ht)⟩
structure ActG (F : Nat) (len : Nat) (next : Int) (x : Acd) : Prop where
 b : TmB F x.t
 t : x.kind≠1→x.kind≠2→x.kind≠6→tOk F x.t = true
 m : x.kind = 4→x.pid = next∧0≤x.pc∧x.pc < (len : Int)
theorem ActG.of {len : Nat} {next : Int} {k p c : Int} {t : Tm} (ht : tOk F t = true) (h : k≠4) : ActG F len next ⟨k,p,c,t⟩:=⟨(tOk_B ht).1,fun _ _ _=>ht,fun e=>absurd e h⟩
theorem step_ok (hF : 6≤F) {code : List In} {A : Ac} {next : Int} (ok : acOk F code A = true) (hn : 1≤next∧next≤90000) :
  acOk F code (stepF (F + 1) (code.getD A.pc.toNat in0) A next).1 = true∧(stepF (F + 1) (code.getD A.pc.toNat in0) A next).1.pid = A.pid∧(stepF (F + 1) (code.getD A.pc.toNat in0) A next).1.links = A.links∧ActG F code.length next (stepF (F + 1) (code.getD A.pc.toNat in0) A next).2:=by
 obtain ⟨q1,q2,q3,q4,q5,q6,q7,q8⟩:=acOk_iff.1 ok
 have hpc : A.pc.toNat < code.length:=by omega
 have hlen:=(codeOk_spec q1).1
 have ex : code.getD A.pc.toNat in0 = code[A.pc.toNat]:=by simp [hpc]
 have hbd:=codeOk_bd q1 _ (List.getElem_mem hpc)
 have hcode:=q1
 unfold codeOk at hcode
 simp only [Bool.and_eq_true] at hcode
 obtain ⟨_,hlast,hall⟩:=hcode
 have hsp:=allIns_mem hall _ (List.getElem_mem hpc)
 unfold specB at hsp
 simp only [Bool.and_eq_true] at hsp
 obtain ⟨_,_,_,_,_,_,hnum⟩:=hsp
 have hlst : A.pc + 1 = (code.length : Int)→code[A.pc.toNat].op = 19∨code[A.pc.toNat].op = 12:=fun e=>by
  unfold lastOp at hlast
  have e2 : code.length - 1 = A.pc.toNat:=by omega
  have e3 : (code.getD (code.length - 1) ⟨0,0,0,0,0,⟨#[]⟩⟩) = code[A.pc.toNat]:=by rw [e2]; simp [hpc]
  rw [e3] at hlast
  simpa using hlast
 rw [ex]
 generalize code[A.pc.toNat] = x at hbd hnum hlst
 obtain ⟨⟨a0',a7⟩,⟨b0,b7⟩,⟨c0,c7⟩,_⟩:=hbd
 have ra : tOk F (rg A.regs x.a) = true:=rg_ok (by omega) q4 q5 ⟨a0',a7⟩
 have hf1 : ActG F code.length next fltA:=ActG.of (flt_ok (by omega)) (by decide)
 have hz : ∀ {k p c : Int},(k = 1∨k = 2∨k = 6)→ActG F code.length next ⟨k,p,c,tmZ⟩:=fun {k p c} h=>⟨tmZ_B (by omega),fun h1 h2 h3=>by rcases h with h|h|h; exact absurd h h1; exact absurd h h2; exact absurd h h3,fun e=>by have e : k = 4:=e; omega⟩
 have hjmp : x.op = 10∨x.op = 11∨x.op = 12∨x.op = 16→0≤x.n∧x.n < (code.length : Int):=fun h=>by
  unfold numB at hnum
  rw [if_neg (by simp; omega),if_neg (by simp; omega),if_neg (by simp; omega)] at hnum
  rw [if_pos (by rcases h with h|h|h|h <;> simp [h])] at hnum
  split at hnum
  ·rename_i c1
   exact ⟨of_decide_eq_true c1,of_decide_eq_true hnum⟩
  ·cases hnum
 unfold stepF
 split
 ·exact ⟨ok,rfl,rfl,hf1⟩
 rename_i hact
 split
 ·rename_i c
  have c : x.op = 19:=by simpa using c
  refine ⟨ok,rfl,rfl,?_⟩
  unfold actsF
  rw [if_neg (by simp; omega),if_neg (by simp; omega),if_neg (by simp; omega),if_neg (by simp; omega),if_pos (by simp; omega)]
  exact ActG.of ra (by decide)
 rename_i c19
 have c19 : x.op≠19:=by simpa using c19
 by_cases c14 : (if (x.op == (14 : Int)) = true then ((A.box.length : Int) == (0 : Int)) else false) = true
 ·rw [if_pos c14]
  exact ⟨ok,rfl,rfl,hz (.inr (.inl rfl))⟩
 rw [if_neg c14]
 have hacts : ActG F code.length next (actsF x A.regs next).1:=by
  unfold actsF
  split
  ·rename_i c
   have c : x.op = 13:=by simpa using c
   exact ActG.of (rg_ok (by omega) q4 q5 ⟨b0,by omega⟩) (by decide)
  split
  ·rename_i c
   have c : x.op = 16:=by simpa using c
   have rb : tOk F (rg A.regs x.b) = true:=rg_ok (by omega) q4 q5 ⟨b0,by omega⟩
   exact ⟨(tOk_B rb).1,fun _ _ _=>rb,fun _=>⟨rfl,hjmp (.inr (.inr (.inr c)))⟩⟩
  split
  ·exact ActG.of ra (by decide)
  split
  ·exact hz (.inr (.inr rfl))
  first
   | exact hz (.inl rfl)
   | (rw [if_neg (by simpa using c19)]; exact hz (.inl rfl))
 have hreg : ∀ {t : Tm},tOk F t = true→∀ u∈A.regs.set x.a.toNat t,tOk F u = true:=fun ht u hu=>by
  rcases List.mem_or_eq_of_mem_set hu with h|h
  ·exact q5 u h
  ·rw [h]; exact ht
 have hnx : ∀ R B,nextF (F + 1) x A next = some (R,B)→R.length = 8∧(∀ t∈R,tOk F t = true)∧B.length≤30∧∀ t∈B,tOk F t = true:=by
  intro R B h
  unfold nextF at h
  split at h
  ·rename_i c
   rw [if_pos c] at c14
   have hb0 : A.box.length≠0:=fun e=>c14 (by rw [e]; rfl)
   injection h with h
   injection h with h1 h2
   subst h1; subst h2
   refine ⟨by rw [List.length_set]; exact q4,hreg ?_,by simp; omega,fun t ht=>q7 t (List.mem_of_mem_drop ht)⟩
   have : 0 < A.box.length:=by omega
   rw [List.getD_eq_getElem?_getD,List.getElem?_eq_getElem this,Option.getD_some]
   exact q7 _ (List.getElem_mem this)
  ·split at h
   ·split at h
    ·cases h
    ·split at h
     ·rename_i t _ ct
      injection h with h
      injection h with h1 h2
      subst h1; subst h2
      rw [tOk_fuel hF] at ct
      exact ⟨by rw [List.length_set]; exact q4,hreg ct,q6,q7⟩
     ·cases h
   ·injection h with h
    injection h with h1 h2
    subst h1; subst h2
    exact ⟨q4,q5,q6,q7⟩
 split
 ·exact ⟨ok,rfl,rfl,hf1⟩
 ·rename_i R B e
  obtain ⟨r1,r2,r3,r4⟩:=hnx R B e
  refine ⟨acOk_iff.2 ⟨q1,q2,?_,r1,r2,r3,r4,q8⟩,rfl,rfl,hacts⟩
  show 0≤(if jumpsF (F + 1) x A.regs = true then x.n else IntKind.wrap .i64 (A.pc + 1))∧(if jumpsF (F + 1) x A.regs = true then x.n else IntKind.wrap .i64 (A.pc + 1)) < (code.length : Int)
  split
  ·rename_i cj
   apply hjmp
   unfold jumpsF at cj
   split at cj
   ·rename_i c; exact .inl (by simpa using c)
   split at cj
   ·rename_i c; exact .inr (.inl (by simpa using c))
   ·exact .inr (.inr (.inl (by simpa using cj)))
  ·rename_i cj
   rw [w64i (by omega) (by omega)]
   refine ⟨by omega,?_⟩
   by_cases e1 : A.pc + 1 = (code.length : Int)
   ·rcases hlst e1 with h|h
    ·exact absurd h c19
    ·exfalso
     apply cj
     unfold jumpsF
     rw [if_neg (by simp; omega),if_neg (by simp; omega)]
     simp [h]
   ·omega
theorem at_same {v : Int} {l m : List Ac} (h : ¬ atL v 0 l < 0) (e : m.map (·.pid) = l.map (·.pid)) : ¬ atL v 0 m < 0:=by
 rcases atL_spec v l 0 with ⟨h1,_⟩|⟨k,hk,ek,pk⟩
 ·omega
 rcases atL_spec v m 0 with ⟨_,h2⟩|⟨k2,_,ek2,_⟩
 ·exfalso
  have hl : m.length = l.length:=by have:=congrArg List.length e; simpa using this
  have hk2 : k < m.length:=by omega
  have h3 : m[k].pid = l[k].pid:=by
   have h4 : (m.map (·.pid))[k]'(by simpa using hk2) = (l.map (·.pid))[k]'(by simpa using hk):=by simp only [e]
   simpa using h4
  exact h2 _ (List.getElem_mem hk2) (by rw [h3,pk])
 ·omega
theorem GP.act (hF : 1≤F) (g : GP F P) {pid : Int} {x : Acd} (hat : ¬ atL pid 0 P.acs < 0) (hx : ActG F P.code.length P.next x) : GP F (actP F pid x P).1∧((actP F pid x P).2 = true→¬ atL pid 0 (actP F pid x P).1.acs < 0)∧(actP F pid x P).1.code = P.code:=by
 have hpid : 1≤pid∧pid≤99999:=by
  rcases atL_spec pid P.acs 0 with ⟨h,_⟩|⟨k,hk,ek,pk⟩
  ·omega
  ·rw [← pk]; exact (acOk_iff.1 (g.ac _ (List.getElem_mem hk))).2.1
 have hend : ∀ (t : Tm),(endE t pid P).code = P.code:=fun t=>(endP_code _ _ _ _ _).1
 unfold actP
 split
 ·exact ⟨g,fun h=>(nomatch h),rfl⟩
 rename_i c2
 have c2 : x.kind≠2:=by simpa using c2
 split
 ·rename_i c3
  have c3 : x.kind = 3:=by simpa using c3
  refine ⟨g.told (hx.t (by omega) (by omega) (by omega)),fun _=>?_,rfl⟩
  show ¬ atL pid 0 (toldL x.pid x.t P.acs) < 0
  unfold toldL
  split
  ·exact hat
  ·rename_i cb
   unfold toldB at cb
   have hlt:=atL_lt x.pid P.acs 0
   have c' : ¬ atL x.pid 0 P.acs < 0:=fun h=>cb (by rw [if_pos (decide_eq_true h)])
   have hi : (atL x.pid 0 P.acs).toNat < P.acs.length:=by omega
   exact at_same hat (set_pid hi (by rw [aD hi]))
 rename_i c3
 have c3 : x.kind≠3:=by simpa using c3
 split
 ·rename_i c4
  have c4 : x.kind = 4:=by simpa using c4
  split
  ·exact ⟨g.ende (full_ok hF),fun h=>(nomatch h),hend _⟩
  ·rename_i cf
   obtain ⟨m1,m2⟩:=hx.m c4
   have c20 : P.acs.length < 20∧¬ P.next ≥ 90000:=by
    unfold fullB at cf
    split at cf
    ·exact absurd rfl cf
    ·rename_i c1
     simp at cf c1
     omega
   refine ⟨?_,fun _=>?_,rfl⟩
   ·rw [m1]
    exact g.make hF (hx.t (by omega) (by omega) (by omega)) m2 c20.1 (by omega)
   ·show ¬ atL pid 0 (P.acs++[_]) < 0
    rcases atL_spec pid P.acs 0 with ⟨h,_⟩|⟨k,hk,ek,pk⟩
    ·omega
    ·rcases atL_spec pid (P.acs++[newA F x.pid x.pc x.t]) 0 with ⟨_,h⟩|⟨k2,_,ek2,_⟩
     ·exact absurd pk (h _ (List.mem_append_left _ (List.getElem_mem hk)))
     ·omega
 rename_i c4
 have c4 : x.kind≠4:=by simpa using c4
 split
 ·rename_i c5
  have c5 : x.kind = 5:=by simpa using c5
  exact ⟨g.said (by omega) hpid (hx.t (by omega) (by omega) (by omega)),fun _=>hat,rfl⟩
 rename_i c5
 split
 ·refine ⟨g.link hat,fun _=>?_,rfl⟩
  show ¬ atL pid 0 (linkL pid x.pid P.acs) < 0
  unfold linkL
  split
  ·exact hat
  ·rename_i cb
   have hlt:=atL_lt pid P.acs 0
   have hlt2:=atL_lt x.pid P.acs 0
   unfold linkB at cb
   have c1 : ¬ atL x.pid 0 P.acs < 0:=fun h=>cb (by rw [if_pos (decide_eq_true h)])
   have hi : (atL pid 0 P.acs).toNat < P.acs.length:=by omega
   have hj : (atL x.pid 0 P.acs).toNat < P.acs.length:=by omega
   have e1:=set_pid (A:=setLk x.pid (P.acs.getD (atL pid 0 P.acs).toNat a0)) hi (by rw [aD hi]; rfl)
   have h1:=at_same hat e1
   have hj2 : (atL x.pid 0 P.acs).toNat < (P.acs.set (atL pid 0 P.acs).toNat (setLk x.pid (P.acs.getD (atL pid 0 P.acs).toNat a0))).length:=by simpa using hj
   refine at_same h1 (set_pid hj2 ?_)
   rw [aD hj]
   rw [List.getElem_set]
   split
   ·rename_i e
    rw [aD hi]
    show (P.acs[(atL x.pid 0 P.acs).toNat]).pid = (P.acs[(atL pid 0 P.acs).toNat]).pid
    simp only [e]
   ·rfl
 rename_i c6
 have c6 : x.kind≠6:=by simpa using c6
 split
 ·rename_i c7
  have c7 : x.kind = 7:=by simpa using c7
  exact ⟨g.ende (hx.t (by omega) (by omega) (by omega)),fun h=>(nomatch h),hend _⟩
 ·exact ⟨g,fun _=>hat,rfl⟩
end
theorem Chunks.imem {α : Type} {w : Nat} {P P' : Fp→AH→α→List Value→Prop} {S : Fp} {h : AH} {l : List α} {vs : List Value} (x : Chunks w P S h l vs) (f : ∀ y∈l,∀ C cs,P C h y cs→P' C h y cs) : Chunks w P' S h l vs:=by
 obtain ⟨C,h1,h2,h3⟩:=x
 exact ⟨C,h1,h2,fun i y hy=>f y (List.mem_of_getElem? hy) _ _ (h3 i y hy)⟩
theorem RowO.imem {α : Type} {base t w : Nat} {P P' : Fp→AH→α→List Value→Prop} {S : Fp} {h : AH} {l : List α} {a : Option Addr} (x : RowO base t w P S h l a) (f : ∀ y∈l,∀ C cs,P C h y cs→P' C h y cs) : RowO base t w P' S h l a:=by
 obtain ⟨vs,T,x1,x2,x3,x4,x5⟩:=x
 exact ⟨vs,T,x1,x2,x3,x4,x5.imem f⟩
theorem TmG.down {base : Nat} : ∀ (f : Nat) {S : Fp} {h : AH} {t : Tm} {cs : List Value},TmG base (f + 1) S h t cs→TmB f t→TmG base f S h t cs
 | 0,_,_,_,_,_,x=>x.elim
 | f + 1,S,h,.mk k n s l,cs,x,y=>by
  obtain ⟨h1,h2,a,e,r⟩:=x
  exact ⟨h1,h2,a,e,r.imem fun u hu C cs z=>TmG.down f z (y.2.2 u hu)⟩
theorem AcG.down {base F : Nat} {S : Fp} {h : AH} {A : Ac} {cs : List Value} (x : AcG base (F + 1) S h A cs) (h1 : ∀ t∈A.regs,TmB F t) (h2 : ∀ t∈A.box,TmB F t) : AcG base F S h A cs:=by
 obtain ⟨a,b,g,S1,S2,S3,e,r1,r2,r3⟩:=x
 exact ⟨a,b,g,S1,S2,S3,e,r1.imem fun u hu C cs z=>z.down F (h1 u hu),r2.imem fun u hu C cs z=>z.down F (h2 u hu),r3⟩
def stpR (F : Nat) (pid : Int) (P : Pl) : Ac × Acd:=stepF (F + 1) (P.code.getD (P.acs.getD (atL pid 0 P.acs).toNat a0).pc.toNat in0) (P.acs.getD (atL pid 0 P.acs).toNat a0) P.next
def stpP (F : Nat) (pid : Int) (P : Pl) : Pl × Bool:=actP F pid (stpR F pid P).2 ⟨P.code,P.acs.set (atL pid 0 P.acs).toNat (stpR F pid P).1,P.next,P.out⟩
def runP (F : Nat) (pid : Int) : Nat→Pl→Pl
 | 0,P=>P
 | n + 1,P=>if (stpP F pid P).2 = true then runP F pid n (stpP F pid P).1 else (stpP F pid P).1
theorem GP.stp {F : Nat} {P : Pl} (hF : 6≤F) (g : GP F P) {pid : Int} (hat : ¬ atL pid 0 P.acs < 0) : GP F (stpP F pid P).1∧((stpP F pid P).2 = true→¬ atL pid 0 (stpP F pid P).1.acs < 0)∧(stpP F pid P).1.code = P.code:=by
 have hlt:=atL_lt pid P.acs 0
 have hi : (atL pid 0 P.acs).toNat < P.acs.length:=by omega
 have hx:=g.nx
 obtain ⟨s1,s2,s3,s4⟩:=step_ok (next:=P.next) hF (g.ac _ (List.getElem_mem hi)) (by omega)
 unfold stpP stpR
 rw [aD hi]
 have g2:=g.setA hi s2 s3 s1
 exact GP.act (by omega) g2 (at_same hat (set_pid hi s2)) s4
theorem GP.run {F : Nat} (hF : 6≤F) {pid : Int} : ∀ (n : Nat) {P : Pl},GP F P→¬ atL pid 0 P.acs < 0→GP F (runP F pid n P)∧(runP F pid n P).code = P.code
 | 0,P,g,_=>⟨g,rfl⟩
 | n + 1,P,g,hat=>by
  obtain ⟨g2,a2,e2⟩:=g.stp hF hat
  rw [runP]
  split
  ·rename_i c
   obtain ⟨g3,e3⟩:=GP.run hF n g2 (a2 c)
   exact ⟨g3,by rw [e3,e2]⟩
  ·exact ⟨g2,e2⟩
theorem Hs.frz {base : Nat} {V : Fp} {h0 h : AH} {D : Ds} {R : List Rs} {S : Fp} {A : AH→Prop} (d : Hs base V h0 h D (⟨S,true,A⟩ :: R)) (A' : AH→Prop) (hA : A' h) (ok : ∀ (U : Fp) (h h' : AH),KB U h h'→(∀ b,S b→¬ U b)→A' h→A' h') : Hs base V h0 h D (⟨S,false,A'⟩ :: R):=
 ⟨d.ge,d.kb,d.own,d.nd,fun r hr=>by
  rcases List.mem_cons.1 hr with rfl|hr
  ·obtain ⟨_,_,x3,_,x5⟩:=d.res _ (.head _)
   exact ⟨hA,ok,x3,fun h=>(nomatch h),x5⟩
  ·exact d.res r (.tail _ hr),by
  obtain ⟨y1,y2⟩:=List.pairwise_cons.1 d.dj
  exact List.pairwise_cons.2 ⟨fun r hr _ b hb=>y1 r hr rfl b hb,y2⟩⟩
abbrev rCo (Sc : Fp) (mc : Bool) (a : Option Addr) (l : List In) : Rs:=⟨Sc,mc,fun y=>Sl y a (insR l)⟩
theorem l11Run_loop {base f pb n : Nat} {pid : Int} {a : Option Addr} {Sc : Fp} {mc : Bool} {V : Fp} {h0 : AH} (hF : 6≤f + 1) (hn : n≤1000000) : ∀ (m k : Nat) (again : Bool) (h : AH) (b g : Option Addr) (S So : Fp) (P : Pl),k + m = n→GP (f + 1) P→(again = true→¬ atL pid 0 P.acs < 0)→Hs base V h0 h [(pb,36,plV a P.code.length b P.acs.length P.next g P.out.length)] [rCo Sc mc a P.code,rAs base (f + 1) S P.acs b,rSs base (f + 1) So P.out g] →
  Wp (loopL (B176_0 base) [some (.pointer (at0 pb)),some (.int .i64 (n : Int)),some (.int .i64 pid),some (.bool again),some (.int .i64 (k : Int))] h) fun o=>o.1 = 2∧∃ b' g' S' So',Hs base V h0 o.2.2 [(pb,36,plV a P.code.length b' (if again = true then runP (f + 1) pid m P else P).acs.length (if again = true then runP (f + 1) pid m P else P).next g' (if again = true then runP (f + 1) pid m P else P).out.length)] [rCo Sc mc a P.code,rAs base (f + 1) S' (if again = true then runP (f + 1) pid m P else P).acs b',rSs base (f + 1) So' (if again = true then runP (f + 1) pid m P else P).out g']:=by
 intro m
 have off : ∀ (m k : Nat) (again : Bool) (h : AH) (b g : Option Addr) (S So : Fp) (P : Pl),(k = n∨again = false)→(if again = true then runP (f + 1) pid m P else P) = P→k≤n→Hs base V h0 h [(pb,36,plV a P.code.length b P.acs.length P.next g P.out.length)] [rCo Sc mc a P.code,rAs base (f + 1) S P.acs b,rSs base (f + 1) So P.out g] →
  Wp (loopL (B176_0 base) [some (.pointer (at0 pb)),some (.int .i64 (n : Int)),some (.int .i64 pid),some (.bool again),some (.int .i64 (k : Int))] h) fun o=>o.1 = 2∧∃ b' g' S' So',Hs base V h0 o.2.2 [(pb,36,plV a P.code.length b' (if again = true then runP (f + 1) pid m P else P).acs.length (if again = true then runP (f + 1) pid m P else P).next g' (if again = true then runP (f + 1) pid m P else P).out.length)] [rCo Sc mc a P.code,rAs base (f + 1) S' (if again = true then runP (f + 1) pid m P else P).acs b',rSs base (f + 1) So' (if again = true then runP (f + 1) pid m P else P).out g']:=by
  intro m k again h b g S So P hk e0 hkn d
  rw [e0]
  suffices w : Wp (B176_0 base [some (.pointer (at0 pb)),some (.int .i64 (n : Int)),some (.int .i64 pid),some (.bool again),some (.int .i64 (k : Int))] h) fun o=>o = (2,[],h) by
   obtain ⟨o,e,rfl⟩:=w
   exact ⟨_,loop_off (by decide) e,rfl,b,g,S,So,d⟩
  rw [B176_0_eq]
  refine W.join (W.ite (fun c=>?_) (fun c=>?_))
  ·have c : (k : Int) < (n : Int):=of_decide_eq_true c
   rcases hk with hk|hk
   ·omega
   ·subst hk
    refine W.il ?_
    ((with_reducible repeat refine W.a2 ?_))
    exact W.ifF (by decide) (W.ret rfl)
  ·refine W.il ?_
   ((with_reducible repeat refine W.a2 ?_))
   exact W.ifF (by decide) (W.ret rfl)
 induction m with
 | zero=>
  intro k again h b g S So P hk gp hat d
  exact off 0 k again h b g S So P (.inl (by omega)) (by split <;> rfl) (by omega) d
 | succ m ih=>
  intro k again h b g S So P hk gp hat d
  cases again with
  | false=>exact off (m + 1) k false h b g S So P (.inr rfl) (by rw [if_neg (by decide)]) (by omega) d
  | true=>
   have hat:=hat rfl
   obtain ⟨gq,aq,eq⟩:=gp.stp hF hat
   rw [if_pos rfl]
   suffices w : Wp (B176_0 base [some (.pointer (at0 pb)),some (.int .i64 (n : Int)),some (.int .i64 pid),some (.bool true),some (.int .i64 (k : Int))] h) fun o=>o.1 = 0∧o.2.1 = [some (.pointer (at0 pb)),some (.int .i64 (n : Int)),some (.int .i64 pid),some (.bool (stpP (f + 1) pid P).2),some (.int .i64 ((k + 1 : Nat) : Int))]∧∃ b' g' S' So',Hs base V h0 o.2.2 [(pb,36,plV a P.code.length b' (stpP (f + 1) pid P).1.acs.length (stpP (f + 1) pid P).1.next g' (stpP (f + 1) pid P).1.out.length)] [rCo Sc mc a P.code,rAs base (f + 1) S' (stpP (f + 1) pid P).1.acs b',rSs base (f + 1) So' (stpP (f + 1) pid P).1.out g'] by
    obtain ⟨⟨o1,o2,h'⟩,e,y1,y2,b',g',S',So',d'⟩:=w
    simp only at y1 y2 d'
    subst y1; subst y2
    rw [← eq] at d'
    obtain ⟨o,eo,q⟩:=ih (k + 1) (stpP (f + 1) pid P).2 h' b' g' S' So' (stpP (f + 1) pid P).1 (by omega) gq aq d'
    refine ⟨o,loop_on e eo,?_⟩
    rw [eq] at q
    rw [runP]
    exact q
   have hlt:=atL_lt pid P.acs 0
   have hi : (atL pid 0 P.acs).toNat < P.acs.length:=by omega
   have hx:=gp.nx
   have hsz:=gp.size
   have hl20:=gp.len
   have hok:=gp.ac _ (List.getElem_mem hi)
   obtain ⟨q1,q2,q3,q4,q5,q6,q7,q8⟩:=acOk_iff.1 hok
   have hlk:=(lkOk_iff.1 q8).1
   have hBA : AcB (f + 1) P.acs[(atL pid 0 P.acs).toNat]:=⟨by omega,by omega,by omega,fun t ht=>(tOk_B (q5 t ht)).1,fun t ht=>(tOk_B (q7 t ht)).1⟩
   obtain ⟨s1,s2,s3,s4⟩:=step_ok (next:=P.next) hF hok (by omega)
   obtain ⟨u1,u2,u3,u4,u5,u6,u7,u8⟩:=acOk_iff.1 s1
   rw [B176_0_eq]
   refine W.join (W.ifT (decide_eq_true (by omega)) ?_)
   refine W.il ?_
   ((with_reducible repeat refine W.a2 ?_))
   refine W.ifT rfl ?_
   ((with_reducible repeat first|refine W.a1 d ?_|refine W.bo ?_))
   obtain ⟨h2,e2,k2⟩:=l11At_run (base:=base) (P:=P) (v:=pid) (a:=a) (g:=g) (by omega) (RowO.asR (d.rs (i:=1) rfl)) d.ge
   have d:=d.kN k2
   refine W.bs e2 ?_
   ((with_reducible repeat first|refine W.a1 d ?_|refine W.a2 ?_|refine W.bo ?_|refine W.a8 ?_))
   have hSl:=d.rlt (i:=1) rfl
   have row : RowO base 54 5 (AcG base (f + 1)) S h2 P.acs b:=d.rs (i:=1) rfl
   obtain ⟨C,csA,ad,hA,hcl,rfl,cells,hCS,hSb,hCb,mod⟩:=row.mod (AcG.kp _ _) (by decide) hi hSl
   have hA0:=hA
   obtain ⟨ra,rb,rc,rfl⟩:=hA.form2
   refine W.bo ?_
   refine W.bI (cells 0 _ rfl) (W.bI (cells 1 _ rfl) (W.bS (cells 2 _ rfl) (W.bS (cells 3 _ rfl) (W.bS (cells 4 _ rfl) ?_))))
   ((with_reducible repeat first|refine W.a1 d ?_|refine W.bo ?_))
   refine W.wb (l9Step_run (f:=f) (next:=P.next) (d.rs (i:=0) rfl) hBA hA0 (fun b hb=>hSl b (hCS b hb)) d.ge hok) ?_
   generalize hR : stepF (f + 2) (P.code.getD P.acs[(atL pid 0 P.acs).toNat].pc.toNat in0) P.acs[(atL pid 0 P.acs).toNat] P.next = R at *
   rintro ⟨v,h6⟩ ⟨cs6,kv,nv,sv,av,mv,S6,T6,rfl,gA,gT,gd,gS,gT2,kk⟩
   have eR : stpR (f + 1) pid P = R:=by unfold stpR; rw [aD hi]; exact hR
   have gA:=gA.down (fun t ht=>(tOk_B (u5 t ht)).1) (fun t ht=>(tOk_B (u7 t ht)).1)
   have gT:=gT.down _ s4.b
   obtain ⟨a7,b7,g7,rfl⟩:=gA.form2
   obtain ⟨⟨kd,xp,xc,xt⟩,eR2⟩ : ∃ x,R.2 = x:=⟨_,rfl⟩
   obtain ⟨kx,nx,sx,lx⟩:=xt
   rw [eR2] at gT s4
   obtain ⟨tx,et,_⟩:=gT.tmR.parts
   injection et with et1 et
   injection et1 with _ et1
   injection et with et2 et
   injection et2 with _ et2
   injection et with et3 et
   injection et3 with et3
   injection et with et4 et
   injection et4 with et4 et5
   subst et1; subst et2; subst et3; subst et4; subst et5
   have d:=d.call2 kk S6 T6 (fun y=>AcG base (f + 1) S6 y R.1 _) (fun y=>TmG base (f + 1) T6 y _ _) gA gT (fun U y y' k hs x=>AcG.kp _ _ _ U y y' _ _ k hs x) (fun U y y' k hs x=>TmG.kp _ _ _ U y y' _ _ k hs x) gS gT2 gd
   rw [eR2]
   have hlk6 : h2.length≤h6.length:=kk.1
   have hadl:=hSl _ hSb
   ((try simp only [n1,n2,n3,n4,n5,n6] at d); (with_reducible repeat first|refine W.a2 ?_|refine W.a3 ?_|refine W.a7 ?_))
   refine W.gt (ne_A (Nat.ne_of_lt (Nat.lt_of_lt_of_le hadl hlk6))) ?_
   ((with_reducible repeat refine W.a7 ?_); (refine W.nD d fun h7 d _ kh7=>?_); (with_reducible repeat refine W.a7 ?_))
   have hlk7 : h6.length≤h7.length:=kh7.1
   refine W.gt (ne_A (Nat.ne_of_lt (show ad.block < h7.length by omega))) ?_
   ((with_reducible repeat refine W.a7 ?_); (refine W.nD d fun h8 d _ kh8=>?_); (with_reducible repeat first|refine W.a1 d ?_|refine W.bo ?_|refine W.a5 d fun hw d lw kw=>?_|refine W.a8 ?_))
   have row2 : RowO base 54 5 (AcG base (f + 1)) S hw P.acs (some ad):=d.rs (i:=1) rfl
   obtain ⟨C2,csB,ad2,hA2,hcl2,ead,cells2,hCS2,hSb2,hCb2,mod2⟩:=row2.mod (AcG.kp _ _) (by decide) hi (d.rlt (i:=1) rfl)
   injection ead with ead
   subst ead
   obtain ⟨rd,re,rf,rfl⟩:=hA2.form2
   have gA2 : AcG base (f + 1) S6 hw R.1 _:=d.rs (i:=3) rfl
   obtain ⟨h9,e9,r9,k9,l9⟩:=mod2 NoB S6 hw _ (acV R.1.pid R.1.pc a7 R.1.regs.length b7 R.1.box.length g7 R.1.links.length) 0 R.1 (KB.refl _ _) (fun b hb _=>hb.elim) (Nat.le_refl 5) (Nat.succ_pos 4) (by rfl) (fun h4 k4=>AcG.kp _ _ _ _ _ _ _ _ k4 (fun b hb e=>by
    have e : b = ad.block:=e
    have:=(gS b hb).1
    omega) gA2) (fun b hb hs=>by have:=(gS b hb).1; have:=hSl b hs; omega)
   refine W.bs e9 ?_
   have d:=d.joinO (AcG.kp _ _) (Upd.at (i:=3) rfl) (Upd.at (i:=1) rfl) rfl rfl k9 r9 (fun b hb=>.inl ((show b = ad.block from hb) ▸ hSb)) (fun b hb=>hb.elim .inl fun hb=>.inr (.inl hb))
   simp only [n1,n2,n3,n4,n5,n6] at d
   ((with_reducible repeat refine W.a1 d ?_))
   have d:=d.front (Del.at (i:=2) rfl)
   have d:=d.frontR (Del.at (i:=2) rfl)
   have d:=d.frontR (Del.at (i:=2) rfl)
   have d:=d.frontR (Del.at (i:=4) rfl)
   have d:=d.frz (fun y=>TmR y T6 (f + 1) (.mk kv nv sv lx) (termV kv nv sv av lx.length)) (TmG.tmR (d.rs (i:=0) rfl)) (fun U y y' k hs x=>TmR.keep k hs _ _ _ x)
   have gq2 : GP (f + 1) ⟨P.code,P.acs.set (atL pid 0 P.acs).toNat R.1,P.next,P.out⟩:=gp.setA hi s2 s3 s1
   have hat2 : ¬ atL pid 0 (P.acs.set (atL pid 0 P.acs).toNat R.1) < 0:=at_same hat (set_pid hi s2)
   have el : (P.acs.set (atL pid 0 P.acs).toNat R.1).length = P.acs.length:=List.length_set ..
   rw [← el] at d
   have d1:=Hs.part (D1:=[_]) (R1:=[_,_,_]) d
   refine W.wb (l11Act_run (base:=base) (x:=⟨kd,xp,xc,.mk kv nv sv lx⟩) (P:=⟨P.code,P.acs.set (atL pid 0 P.acs).toNat R.1,P.next,P.out⟩) (pid:=pid) rfl gq2.size hat2 s4.b d1) ?_
   rintro ⟨u,h10⟩ ⟨y1,b',g',S',So',d2⟩
   simp only at y1 d2
   subst y1
   have d:=Hs.back (D1:=[_]) (R1:=[_,_,_]) d d2 (im3 rfl rfl rfl)
   have es : stpP (f + 1) pid P = actP (f + 1) pid ⟨kd,xp,xc,.mk kv nv sv lx⟩ ⟨P.code,P.acs.set (atL pid 0 P.acs).toNat R.1,P.next,P.out⟩:=by unfold stpP; rw [eR,eR2]
   rw [es]
   generalize actP (f + 1) pid ⟨kd,xp,xc,.mk kv nv sv lx⟩ ⟨P.code,P.acs.set (atL pid 0 P.acs).toNat R.1,P.next,P.out⟩ = Q at d ⊢
   ((try simp only [n1,n2,n3,n4,n5,n6] at d); (with_reducible repeat refine W.a2 ?_))
   rw [w64i (n:=(k : Int) + 1) (by omega) (by omega)]
   refine W.ret ⟨rfl,rfl,b',g',S',So',?_⟩
   have d:=d.takeD 1
   have d:=d.frontR (Del.at (i:=3) rfl)
   exact d.subR (R':=[_,_,_]) ((List.Sublist.refl [_]).append ((List.Sublist.refl [_,_]).append (List.nil_sublist _) |>.cons _))
section
abbrev rArg (base : Nat) (hX : AH) : Rs:=⟨fun b=>b < base,false,fun y=>base≤y.length∧∀ b,b < base→hget y b = hget hX b⟩
def CurK (base cb : Nat) (hX : AH) (y : AH) : Prop:=∃ (a : Option Addr) (zs : List Int) (i hh : Int),Own base 154 y (at0 cb) [.slice a zs.length zs.length,.int .i64 i,.int .i64 hh]∧Sl hX a (iv .u8 zs)∧(zs = []∨∀ b,blk a b→b < base)∧zs.length≤9223372036854775806∧0≤i
abbrev rCur (base cb : Nat) (hX : AH) : Rs:=⟨fun b=>b = cb,true,CurK base cb hX⟩
theorem Sl.other {base : Nat} {h h' : AH} {a : Option Addr} {zs : List Int} (s : Sl h a (iv .u8 zs)) (hz : zs = []∨∀ b,blk a b→b < base) (e : ∀ b,b < base→hget h' b = hget h b) : Sl h' a (iv .u8 zs):=by
 rcases hz with hz|hz
 ·subst hz; exact .inl rfl
 ·rcases s with s|⟨ad,k,e1,e2,e3,e4⟩
  ·exact .inl s
  ·exact .inr ⟨ad,k,e1,by rw [e _ (hz _ ⟨ad,e1,rfl⟩)]; exact e2,e3,e4⟩
theorem CurR.k {base cb : Nat} {hX y : AH} (x : CurR base cb y) (e : ∀ b,b < base→hget y b = hget hX b) : CurK base cb hX y:=by
 obtain ⟨a,zs,i,hh,o,s,hz,hl,hi⟩:=x
 exact ⟨a,zs,i,hh,o,s.other hz fun b hb=>(e b hb).symm,hz,hl,hi⟩
theorem CurK.r {base cb : Nat} {hX y : AH} (x : CurK base cb hX y) (e : ∀ b,b < base→hget y b = hget hX b) : CurR base cb y:=by
 obtain ⟨a,zs,i,hh,o,s,hz,hl,hi⟩:=x
 exact ⟨a,zs,i,hh,o,s.other hz e,hz,hl,hi⟩
theorem CurK.kp {base cb : Nat} {hX : AH} : ∀ (U : Fp) (h h' : AH),KB U h h'→(∀ b,b = cb→¬ U b)→CurK base cb hX h→CurK base cb hX h':=fun U h h' k hs ⟨a,zs,i,hh,o,q⟩=>⟨a,zs,i,hh,o.keep k fun b hb=>hs b (blk_at0.1 hb),q⟩
theorem argOk {base : Nat} {hX : AH} : (rArg base hX).Ok:=fun U y y' k hs q=>⟨Nat.le_trans q.1 k.1,fun b hb=>by rw [k.2 b (Nat.lt_of_lt_of_le hb q.1) (hs b hb)]; exact q.2 b hb⟩
namespace Hs
variable {base : Nat} {W : Fp} {h0 h : AH} {D : Ds} {R : List Rs}
theorem startC {cb : Nat} (x : CurR base cb h) (hb : base≤h.length) : Hs base (· = cb) h h [] [rArg base h,rCur base cb h]:=by
 refine ⟨hb,KB.refl _ _,fun x hx=>(nomatch hx),by simp,fun r hr=>?_,?_⟩
 ·simp only [List.mem_cons,List.not_mem_nil,or_false] at hr
  rcases hr with rfl|rfl
  ·exact ⟨⟨hb,fun _ _=>rfl⟩,argOk,fun b hb2=>Nat.lt_of_lt_of_le hb2 hb,fun m=>(nomatch m),fun x hx=>nomatch hx⟩
  ·exact ⟨x.k fun _ _=>rfl,CurK.kp,fun b hb2=>by simp only at hb2; subst hb2; exact x.lt.2,fun _ b hb2=>.inl hb2,fun x hx=>nomatch hx⟩
 ·simp only [List.pairwise_cons,List.mem_cons,List.not_mem_nil,or_false]
  refine ⟨fun r hr=>?_,?_⟩
  ·subst hr
   intro _ b h1 h2
   simp only at h1 h2
   have:=x.lt.1
   omega
  ·simp
theorem cur {cb i j : Nat} {hX : AH} (d : Hs base W h0 h D R) (ej : R[j]? = some (rArg base hX)) (ei : R[i]? = some (rCur base cb hX)) : CurR base cb h:=CurK.r (d.rs ei) (d.rs ej).2
theorem drawn {cb i j : Nat} {hX h' : AH} (d : Hs base W h0 h D R) (ej : R[j]? = some (rArg base hX)) (ei : R[i]? = some (rCur base cb hX)) (x : CurR base cb h') (k : KB (· = cb) h h') : Hs base W h0 h' D R:=by
 have hcb:=x.lt.1
 have e : ∀ b,b < base→hget h' b = hget hX b:=fun b hb=>by
  have q:=d.rs ej
  rw [k.2 b (Nat.lt_of_lt_of_le hb q.1) (by omega)]
  exact q.2 b hb
 have d1:=d.upd (r:=rCur base cb hX) (r':=rCur base cb hX) (Upd.at ei) rfl rfl k (fun b hb=>.inl hb) (x.k e) CurK.kp (fun b hb=>.inl hb)
 have : R.set i (rCur base cb hX) = R:=by
  obtain ⟨hi,e⟩:=List.getElem?_eq_some_iff.1 ei
  rw [← e,List.set_getElem_self]
 rwa [this] at d1
theorem drawC {cb i j : Nat} {hX h' : AH} (d : Hs base W h0 h D R) (ej : R[j]? = some (rArg base hX)) (ei : R[i]? = some (rCur base cb hX)) (x : CurR base cb h') (k : KB (· = cb) h h') (S : Fp) (A : AH→Prop) (hA : A h') (ok : ∀ (U : Fp) (h h' : AH),KB U h h'→(∀ b,S b→¬ U b)→A h→A h') (hS : ∀ b,S b→h.length≤b∧b < h'.length) : Hs base W h0 h' D (R++[⟨S,true,A⟩]):=by
 have d':=d.drawn ej ei x k
 refine ⟨d'.ge,d'.kb,d'.own,d'.nd,fun r hr=>?_,?_⟩
 ·rcases List.mem_append.1 hr with hr|hr
  ·exact d'.res r hr
  ·rw [List.mem_singleton] at hr
   subst hr
   refine ⟨hA,ok,fun b hb=>(hS b hb).2,fun _ b hb=>.inr ?_,fun x hx hS'=>?_⟩
   ·have:=(hS b hb).1
    have:=d.kb.1
    omega
   ·have:=((d.own x hx).1.lt (blk_at0.2 rfl)).2
    have:=(hS _ hS').1
    omega
 ·rw [List.pairwise_append]
  refine ⟨d'.dj,by simp,fun r hr s hs e b h1 h2=>?_⟩
  rw [List.mem_singleton] at hs
  subst hs
  have:=(d.res r hr).2.2.1 b h1
  have:=(hS b h2).1
  omega
end Hs
end
section
def capT : Nat→Int
 | 0=>1
 | n + 1=>1 + 3 * capT n
theorem capT_pos : ∀ n,1≤capT n
 | 0=>by decide
 | n + 1=>by have:=capT_pos n; rw [capT]; omega
def Gt (n : Nat) (t : Tm) : Prop:=∀ (F : Nat) (d x : Int),n + 1≤F→(n : Int) + 1≤d→capT n≤x→x - capT n≤lk F t d x
theorem Gt.leaf {k m : Int} {s : ByteArray} (h : shB k m s 0 = true) (n : Nat) : Gt n (.mk k m s []):=by
 intro F d x hF hd hx
 have:=capT_pos n
 cases F with
 | zero=>omega
 | succ F=>
  rw [lk,if_neg (by simp [h]; omega),lkS]
  omega
theorem Gt.lks {n : Nat} {F : Nat} {d : Int} (hF : n + 1≤F) (hd : (n : Int) + 1≤d) : ∀ (l : List Tm) (x : Int),(∀ t∈l,Gt n t)→(l.length : Int) * capT n≤x→x - (l.length : Int) * capT n≤lkS (lk F) l d x
 | [],x,_,h=>by simp [lkS]
 | t :: r,x,hl,h=>by
  have hc:=capT_pos n
  have e : ((t :: r).length : Int) * capT n = capT n + (r.length : Int) * capT n:=by rw [List.length_cons,Int.natCast_succ,Int.add_mul]; omega
  rw [e] at h ⊢
  have hr : 0≤(r.length : Int) * capT n:=Int.mul_nonneg (by omega) (by omega)
  have h1:=hl t (.head _) F d x hF hd (by omega)
  rw [lkS,if_pos (by omega)]
  have h2:=Gt.lks hF hd r (lk F t d x) (fun u hu=>hl u (.tail _ hu)) (by omega)
  omega
theorem Gt.node {n : Nat} {k : Int} {l : List Tm} (hk : k = 4∨k = 5) (hl : l.length≤3) (h : ∀ t∈l,Gt n t) : Gt (n + 1) (.mk k 0 ⟨#[]⟩ l):=by
 intro F d x hF hd hx
 have hc:=capT_pos n
 cases F with
 | zero=>omega
 | succ F=>
  rw [capT] at hx ⊢
  have hs : shB k 0 ⟨#[]⟩ l.length = true:=by
   have h8 : decide (((l.length : Nat) : Int)≤(8 : Int)) = true:=by simp; omega
   have h20 : decide (((l.length : Nat) : Int)≤(20 : Int)) = true:=by simp; omega
   rcases hk with rfl|rfl
   ·unfold shB; simp [h8]
   ·unfold shB; simp [h20]
  rw [lk,if_neg (by simp [hs]; omega)]
  have hm : (l.length : Int) * capT n≤3 * capT n:=Int.mul_le_mul_of_nonneg_right (by omega) (by omega)
  have:=Gt.lks (F:=F) (d:=d - 1) (by omega) (by omega) l (x - 1) h (by omega)
  omega
theorem Gt.up {n : Nat} {t : Tm} (h : Gt n t) : Gt (n + 1) t:=fun F d x hF hd hx=>by
 have hc:=capT_pos n
 rw [capT] at hx ⊢
 have:=h F d x (by omega) (by omega) (by omega)
 omega
theorem Gt.ok {t : Tm} (h : Gt 2 t) {F : Nat} (hF : 3≤F) : tOk F t = true:=decide_eq_true (by
 have:=h F 6 100 (by omega) (by omega) (by decide)
 have e : capT 2 = 13:=by decide
 omega)
namespace Hs
variable {base cb : Nat} {W : Fp} {hX h0 h : AH} {D : Ds} {R : List Rs}
theorem cur0 (d : Hs base W h0 h D (rArg base hX :: rCur base cb hX :: R)) : CurR base cb h:=d.cur (j:=0) (i:=1) rfl rfl
theorem drawn0 {h' : AH} (d : Hs base W h0 h D (rArg base hX :: rCur base cb hX :: R)) (x : CurR base cb h') (k : KB (· = cb) h h') : Hs base W h0 h' D (rArg base hX :: rCur base cb hX :: R):=d.drawn (j:=0) (i:=1) rfl rfl x k
theorem neC {b t : Nat} {cs : List Value} (d : Hs base W h0 h D (rArg base hX :: rCur base cb hX :: R)) (m : (b,t,cs)∈D) : b≠cb:=(d.res _ (.tail _ (.head _))).2.2.2.2 _ m
theorem below {n : Int} (d : Hs base W h0 h D (rArg base hX :: rCur base cb hX :: R)) (hn : n≤256) : ∃ z h',run (Et base) 133 [.pointer (at0 cb),.int .i64 n] h = some (.int .i64 z,h')∧0≤z∧(0 < n→z < n)∧z≤255∧Hs base W h0 h' D (rArg base hX :: rCur base cb hX :: R)∧KB (· = cb) h h':=by
 obtain ⟨z,h',e,a,b,c,x,k,_⟩:=l1Below_run (n:=n) d.cur0 hn
 exact ⟨z,h',e,a,b,c,d.drawn0 x k,k⟩
theorem once {n : Int} (d : Hs base W h0 h D (rArg base hX :: rCur base cb hX :: R)) (hn : n≤256) : ∃ b h',run (Et base) 156 [.pointer (at0 cb),.int .i64 n] h = some (.bool b,h')∧Hs base W h0 h' D (rArg base hX :: rCur base cb hX :: R)∧KB (· = cb) h h':=by
 obtain ⟨z,h',e,x,k,_⟩:=l1Once_run (n:=n) d.cur0 hn
 exact ⟨z,h',e,d.drawn0 x k,k⟩
theorem pick {b : Nat} {zs : List Int} (d : Hs base W h0 h D (rArg base hX :: rCur base cb hX :: R)) (m : (b,3,iv .i64 zs)∈D) (l0 : 0 < zs.length) (l1 : zs.length≤256) : ∃ z h',run (Et base) 135 [.pointer (at0 cb),.slice (at0 b) zs.length zs.length] h = some (.int .i64 z,h')∧z∈zs∧Hs base W h0 h' D (rArg base hX :: rCur base cb hX :: R)∧KB (· = cb) h h':=by
 obtain ⟨z,h',e,a,x,k,_⟩:=l1Int_run d.cur0 (d.ol m).sl (fun c hc=>by rw [blk_at0] at hc; subst hc; exact d.neC m) l0 l1
 exact ⟨z,h',e,a,d.drawn0 x k,k⟩
theorem pickS {b : Nat} {zs : List ByteArray} (d : Hs base W h0 h D (rArg base hX :: rCur base cb hX :: R)) (m : (b,9,zs.map .string)∈D) (l0 : 0 < zs.length) (l1 : zs.length≤256) : ∃ z h',run (Et base) 172 [.pointer (at0 cb),.slice (at0 b) zs.length zs.length] h = some (.string z,h')∧z∈zs∧Hs base W h0 h' D (rArg base hX :: rCur base cb hX :: R)∧KB (· = cb) h h':=by
 obtain ⟨z,h',e,a,x,k,_⟩:=l1Str_run d.cur0 (d.ol m).sl (fun c hc=>by rw [blk_at0] at hc; subst hc; exact d.neC m) l0 l1
 exact ⟨z,h',e,a,d.drawn0 x k,k⟩
end Hs
def DrawQ (base cb n : Nat) : Prop:=∀ h,CurR base cb h→∃ t cs h',run (Et base) 132 [.pointer (at0 cb),.int .i64 (n : Int)] h = some (.agg cs.toArray,h')∧TmG base (n + 1) (iS h.length h'.length) h' t cs∧Gt n t∧CurR base cb h'∧KB (· = cb) h h'
theorem Hs.draw {base cb n : Nat} {W : Fp} {hX h0 h : AH} {D : Ds} {R : List Rs} (q : DrawQ base cb n) (d : Hs base W h0 h D (rArg base hX :: rCur base cb hX :: R)) : ∃ t cs h' S,run (Et base) 132 [.pointer (at0 cb),.int .i64 (n : Int)] h = some (.agg cs.toArray,h')∧Gt n t∧Hs base W h0 h' D (rArg base hX :: rCur base cb hX :: R++[⟨S,true,fun y=>TmG base (n + 1) S y t cs⟩])∧KB (· = cb) h h':=by
 obtain ⟨t,cs,h',e,g,gt,x,k⟩:=q h d.cur0
 exact ⟨t,cs,h',_,e,gt,d.drawC (j:=0) (i:=1) rfl rfl x k _ (fun y=>TmG base (n + 1) (iS h.length h'.length) y t cs) g (fun U y y' ky hs z=>TmG.kp _ _ _ U y y' _ _ ky hs z) (fun b hb=>hb),k⟩
theorem drawQ_loop {base cb zb tb m : Nat} {kk : Int} {hX h0 : AH} {V : Fp} (hm : m≤100) (ih : ∀ n,m = n + 1→DrawQ base cb n) : ∀ (k : Nat) (h : AH) (l : List Tm) (ao : Option Addr) (S2 : Fp),l.length + k≤3→(∀ n,m = n + 1→∀ t∈l,Gt n t)→(m = 0→l = [])→Hs base V h0 h [(tb,42,termV kk 0 ⟨#[]⟩ ao l.length),(zb,42,termV 0 0 ⟨#[]⟩ none 0)] [rArg base hX,rCur base cb hX,⟨S2,true,fun y=>RowO base 42 4 (TmG base m) S2 y l ao⟩] →
  Wp (loopL (B132_0 base) [some (.pointer (at0 cb)),some (.int .i64 (m : Int)),some (.pointer (at0 zb)),some (.pointer (at0 tb)),some (.int .i64 (k : Int))] h) fun o=>∃ l' a' S',o.1 = 3∧o.2.1 = [some (.pointer (at0 zb)),some (.pointer (at0 tb))]∧l'.length≤3∧(∀ n,m = n + 1→∀ t∈l',Gt n t)∧(m = 0→l' = [])∧Hs base V h0 o.2.2 [(tb,42,termV kk 0 ⟨#[]⟩ a' l'.length),(zb,42,termV 0 0 ⟨#[]⟩ none 0)] [rArg base hX,rCur base cb hX,⟨S',true,fun y=>RowO base 42 4 (TmG base m) S' y l' a'⟩]:=by
 intro k
 induction k with
 | zero=>
  intro h l ao S2 hl hg h0l d
  suffices w : Wp (B132_0 base [some (.pointer (at0 cb)),some (.int .i64 (m : Int)),some (.pointer (at0 zb)),some (.pointer (at0 tb)),some (.int .i64 ((0 : Nat) : Int))] h) fun o=>o = (3,[some (.pointer (at0 zb)),some (.pointer (at0 tb))],h) by
   obtain ⟨o,e,rfl⟩:=w
   exact ⟨_,loop_off (by decide) e,l,ao,S2,rfl,rfl,by omega,hg,h0l,d⟩
  rw [B132_0_eq]
  refine W.join (W.ifF (by decide) (W.il ?_))
  ((with_reducible repeat refine W.a2 ?_))
  exact W.ifF (by decide) (W.ret rfl)
 | succ k ihk=>
  intro h l ao S2 hl hg h0l d
  cases m with
  | zero=>
   suffices w : Wp (B132_0 base [some (.pointer (at0 cb)),some (.int .i64 ((0 : Nat) : Int)),some (.pointer (at0 zb)),some (.pointer (at0 tb)),some (.int .i64 ((k + 1 : Nat) : Int))] h) fun o=>o = (3,[some (.pointer (at0 zb)),some (.pointer (at0 tb))],h) by
    obtain ⟨o,e,rfl⟩:=w
    exact ⟨_,loop_off (by decide) e,l,ao,S2,rfl,rfl,by omega,hg,h0l,d⟩
   rw [B132_0_eq]
   refine W.join (W.ifT (decide_eq_true (by omega)) (W.il ?_))
   ((with_reducible repeat refine W.a2 ?_))
   exact W.ifF (by decide) (W.ret rfl)
  | succ n=>
   suffices w : Wp (B132_0 base [some (.pointer (at0 cb)),some (.int .i64 ((n + 1 : Nat) : Int)),some (.pointer (at0 zb)),some (.pointer (at0 tb)),some (.int .i64 ((k + 1 : Nat) : Int))] h) fun o=>∃ t a' S',o.1 = 0∧o.2.1 = [some (.pointer (at0 cb)),some (.int .i64 ((n + 1 : Nat) : Int)),some (.pointer (at0 zb)),some (.pointer (at0 tb)),some (.int .i64 (k : Int))]∧Gt n t∧Hs base V h0 o.2.2 [(tb,42,termV kk 0 ⟨#[]⟩ a' (l.length + 1)),(zb,42,termV 0 0 ⟨#[]⟩ none 0)] [rArg base hX,rCur base cb hX,⟨S',true,fun y=>RowO base 42 4 (TmG base (n + 1)) S' y (l++[t]) a'⟩] by
    obtain ⟨⟨o1,o2,h'⟩,e,t,a',S',y1,y2,gt,d'⟩:=w
    simp only at y1 y2 d'
    subst y1; subst y2
    have el : (l++[t]).length = l.length + 1:=by simp
    obtain ⟨o,eo,q⟩:=ihk h' (l++[t]) a' S' (by omega) (fun n' e' u hu=>by
     have : n = n':=by omega
     subst this
     rcases List.mem_append.1 hu with hu|hu
     ·exact hg n rfl u hu
     ·rw [List.mem_singleton] at hu; subst hu; exact gt) (fun e'=>by omega) (by rw [el]; exact d')
    exact ⟨o,loop_on e eo,q⟩
   rw [B132_0_eq]
   refine W.join (W.ifT (decide_eq_true (by omega)) (W.il ?_))
   ((with_reducible repeat refine W.a2 ?_))
   refine W.ifT (decide_eq_true (by omega)) ?_
   ((with_reducible repeat refine W.a1 d ?_))
   rw [w64i (n:=((n + 1 : Nat) : Int) - 1) (by omega) (by omega),show ((n + 1 : Nat) : Int) - 1 = (n : Int) from by omega]
   obtain ⟨t,cs,h2,S',e2,gt,d,_⟩:=d.draw (ih n rfl)
   refine W.bs e2 ?_
   obtain ⟨k1,k2,k3,k4,k5,rfl⟩:=(d.rs (i:=3) rfl : TmG base (n + 1) S' h2 t _).form
   ((try simp only [n1,n2,n3,n4,n5,n6] at d); (with_reducible repeat first|refine W.a2 ?_|refine W.a6 d ?_|refine W.a7 ?_); (refine W.nD d fun h4 d _ kh4=>?_))
   obtain ⟨a5,h5,S5,e5,d,_,_,_⟩:=d.app1 (i:=2) (j:=3) (bytes:=56) (TmG.kp _ _) rfl rfl (by decide) (.head _) rfl (by decide) rfl (by omega) (by omega)
   refine W.bs e5 ?_
   ((try simp only [n1,n2,n3,n4,n5,n6] at d); (with_reducible repeat first|refine W.a2 ?_|refine W.a5 d fun hw d lw kw=>?_))
   have d:=(d.tl).takeR 3
   rw [w64i (n:=((k + 1 : Nat) : Int) - 1) (by omega) (by omega),show ((k + 1 : Nat) : Int) - 1 = (k : Int) from by omega]
   exact W.ret ⟨t,a5,S5,rfl,rfl,gt,d⟩
theorem drawQ_key {base cb m : Nat} (hm : m≤100) (ih : ∀ n,m = n + 1→DrawQ base cb n) : DrawQ base cb m:=by
 intro h x
 have hlt:=x.lt
 have hb : base≤h.length:=by omega
 have d:=Hs.startC x hb
 suffices w : Wp (run (Et base) 132 [.pointer (at0 cb),.int .i64 (m : Int)] h) fun o=>∃ t cs S,o.1 = .agg cs.toArray∧Gt m t∧TmG base (m + 1) S o.2 t cs∧(∀ b,S b→h.length≤b∧b < o.2.length)∧CurR base cb o.2∧KB (· = cb) h o.2 by
  obtain ⟨⟨o1,o2⟩,e,t,cs,S,y1,y2,y3,y4,y5,y6⟩:=w
  simp only at y1 y3 y4 y5 y6
  subst y1
  exact ⟨t,cs,o2,e,TmG.mo _ _ _ _ _ _ _ (fun b hb=>y4 b hb) y3,y2,y5,y6⟩
 have leafE : ∀ {h' : AH} {D : Ds} {k n : Int} {s : ByteArray},Hs base (· = cb) h h' D [rArg base h,rCur base cb h]→s.size≤maxLen→shB k n s 0 = true→∃ t cs S,Value.agg (termV k n s none 0).toArray = .agg cs.toArray∧Gt m t∧TmG base (m + 1) S h' t cs∧(∀ b,S b→h.length≤b∧b < h'.length)∧CurR base cb h'∧KB (· = cb) h h':=fun d hs hsh=>
  ⟨.mk _ _ _ [],_,fun _=>False,rfl,Gt.leaf hsh m,⟨hs,by decide,none,rfl,RowO.nil⟩,fun _ h=>h.elim,d.cur0,d.kb⟩
 refine W.of (fun r hx=>Am.r132 hx) ?_
 ((refine W.nD d fun h1 d _ kh1=>?_))
 obtain ⟨n,h2,e2,z0,z1,z2,d,k2⟩:=d.below (n:=9) (by omega)
 have z1:=z1 (by omega)
 refine W.bs e2 ?_
 ((with_reducible repeat refine W.a2 ?_))
 apply W.jb (decide (n = 0∨n = 1∨n = 2)) d
 ·refine W.ite (fun c=>?_) (fun c=>?_)
  ·have c : n = 0:=by simpa using c
   exact W.lb rfl (by simp [c]) (KB.refl _ _)
  refine W.ite (fun c1=>?_) (fun c1=>?_)
  ·have c1 : n = 1:=by simpa using c1
   exact W.lb rfl (by simp [c1]) (KB.refl _ _)
  ·have c : ¬ n = 0:=by simpa using c
   have c1 : ¬ n = 1:=by simpa using c1
   refine W.lb rfl ?_ (KB.refl _ _)
   by_cases c2 : n = 2
   ·simp [c2]
   ·simp [c,c1,c2]
 intro h3 d n3
 ((with_reducible repeat refine W.a2 ?_))
 refine W.ite (fun cB=>?_) (fun cB=>?_)
 ·obtain ⟨v,h4,e4,v0,v1,v2,d,k4⟩:=d.below (n:=100) (by omega)
  have v1:=v1 (by omega)
  refine W.bs e4 ?_
  ((with_reducible repeat refine W.a2 ?_); (refine W.nD d fun h5 d _ kh5=>?_))
  obtain ⟨u,h6,e6,hu,d,k6⟩:=d.pick (b:=h4.length) (zs:=[0,1,-1,7,1000000,-1000000,v]) (.head _) (by simp) (by simp)
  refine W.bs e6 ?_
  ((with_reducible repeat first|refine W.a1 d ?_|refine W.a2 ?_|refine W.a5 d fun hw d lw kw=>?_))
  refine W.ret (leafE d (by decide) ?_)
  have : -1000000≤u∧u≤1000000:=by
   simp only [List.mem_cons,List.not_mem_nil,or_false] at hu
   omega
  unfold shB inB
  simp [this.1,this.2]
 apply W.jb (decide (n = 3∨n = 4)) d
 ·refine W.ite (fun c=>?_) (fun c=>?_)
  ·have c : n = 3:=by simpa using c
   exact W.lb rfl (by simp [c]) (KB.refl _ _)
  ·have c : ¬ n = 3:=by simpa using c
   refine W.lb rfl ?_ (KB.refl _ _)
   by_cases c2 : n = 4
   ·simp [c2]
   ·simp [c,c2]
 intro h4 d n4
 ((with_reducible repeat refine W.a2 ?_))
 refine W.ite (fun cC=>?_) (fun cC=>?_)
 ·((refine W.nD d fun h5 d _ kh5=>?_))
  obtain ⟨u,h6,e6,hu,d,k6⟩:=d.pickS (b:=h4.length) (zs:=[⟨#[111,107]⟩,⟨#[97]⟩,⟨#[115,116,111,112]⟩,⟨#[104,105,50]⟩]) (.head _) (by simp) (by simp)
  refine W.bs e6 ?_
  ((with_reducible repeat first|refine W.a1 d ?_|refine W.a2 ?_|refine W.a5 d fun hw d lw kw=>?_))
  have hq : ∀ s∈([⟨#[111,107]⟩,⟨#[97]⟩,⟨#[115,116,111,112]⟩,⟨#[104,105,50]⟩] : List ByteArray),s.size≤maxLen∧shB 2 0 s 0 = true:=by
   simp only [List.forall_mem_cons]
   exact ⟨⟨by decide,by decide⟩,⟨by decide,by decide⟩,⟨by decide,by decide⟩,⟨by decide,by decide⟩,fun _ h=>nomatch h⟩
  exact W.ret (leafE d (hq u hu).1 (hq u hu).2)
 refine W.ite (fun c5=>?_) (fun c5=>?_)
 ·obtain ⟨v,h5,e5,v0,v1,v2,d,k5⟩:=d.below (n:=4) (by omega)
  have v1:=v1 (by omega)
  refine W.bs e5 ?_
  ((with_reducible repeat first|refine W.a1 d ?_|refine W.a2 ?_|refine W.a5 d fun hw d lw kw=>?_))
  refine W.ret (leafE d (by decide) ?_)
  have : 0≤v∧v≤99999:=by omega
  unfold shB inB
  simp [this.1,this.2]
 refine W.ite (fun c6=>?_) (fun c6=>?_)
 ·((refine W.nD d fun h5 d _ kh5=>?_))
  obtain ⟨u,h6,e6,hu,d,k6⟩:=d.pickS (b:=h4.length) (zs:=[⟨#[]⟩,⟨#[120]⟩,⟨#[0,255]⟩,⟨#[104,101,108,108,111]⟩]) (.head _) (by simp) (by simp)
  refine W.bs e6 ?_
  ((with_reducible repeat first|refine W.a1 d ?_|refine W.a2 ?_|refine W.a5 d fun hw d lw kw=>?_))
  have hq : ∀ s∈([⟨#[]⟩,⟨#[120]⟩,⟨#[0,255]⟩,⟨#[104,101,108,108,111]⟩] : List ByteArray),s.size≤maxLen∧shB 6 0 s 0 = true:=by
   simp only [List.forall_mem_cons]
   exact ⟨⟨by decide,by decide⟩,⟨by decide,by decide⟩,⟨by decide,by decide⟩,⟨by decide,by decide⟩,fun _ h=>nomatch h⟩
  exact W.ret (leafE d (hq u hu).1 (hq u hu).2)
 ((refine W.nD d fun h5 d _ kh5=>?_))
 obtain ⟨u,h6,e6,hu,d,k6⟩:=d.pick (b:=h4.length) (zs:=[4,5]) (.head _) (by simp) (by simp)
 have hu : u = 4∨u = 5:=by simpa using hu
 refine W.bs e6 ?_
 ((with_reducible repeat refine W.a2 ?_); (refine W.nD d fun h7 d _ kh7=>?_); (with_reducible repeat refine W.a5 d fun hw d lw kw=>?_))
 obtain ⟨v,h8,e8,v0,v1,v2,d,k8⟩:=d.below (n:=4) (by omega)
 have v1:=v1 (by omega)
 refine W.bs e8 ?_
 ((try simp only [n1,n2,n3,n4,n5,n6] at d); (with_reducible repeat refine W.a2 ?_))
 have d : Hs base (· = cb) h h8 [(h6.length,42,termV u 0 ⟨#[]⟩ none 0),(h4.length,3,iv .i64 [4,5]),(h.length,42,termV 0 0 ⟨#[]⟩ none 0)] [rArg base h,rCur base cb h]:=d
 have d:=d.front (Del.at (i:=2) rfl)
 simp only [n5,n6] at d
 have d:=d.front (Del.at (i:=1) rfl)
 simp only [n5,n6] at d
 have d:=d.takeD 2
 have d:=d.call (KB.refl NoB _) (fun _=>False) (fun y=>RowO base 42 4 (TmG base m) (fun _=>False) y [] none) RowO.nil (fun U y y' k hs x=>x.keep (TmG.kp _ _) k hs) (fun _ h=>h.elim)
 have wl:=drawQ_loop (base:=base) (kk:=u) (m:=m) hm ih v.toNat h8 [] none (fun _=>False) (by simp; omega) (fun _ _ t ht=>nomatch ht) (fun _=>rfl) d
 rw [show ((v.toNat : Nat) : Int) = v from by omega] at wl
 refine W.wb wl ?_
 rintro ⟨o1,o2,h9⟩ ⟨l',a',S',y1,y2,y3,y4,y5,d⟩
 simp only at y1 y2 d
 subst y1; subst y2
 refine W.ifT rfl ?_
 ((with_reducible repeat first|refine W.a1 d ?_|refine W.a2 ?_|refine W.a5 d fun hw d lw kw=>?_))
 have row : RowO base 42 4 (TmG base m) S' hw l' a':=d.rs (i:=2) rfl
 have fr:=d.rfr (i:=2) rfl rfl
 have lt:=d.rlt (i:=2) rfl
 have hdj : ∀ b,S' b→b≠cb:=fun b hb e=>by
  have dj:=d.dj
  simp only [List.pairwise_cons] at dj
  exact dj.2.1 _ (.head _) rfl b e hb
 refine W.ret ⟨.mk u 0 ⟨#[]⟩ l',_,S',rfl,?_,⟨by decide,Nat.le_trans y3 (by decide),a',rfl,row⟩,fun b hb=>⟨(fr b hb).resolve_left (hdj b hb),lt b hb⟩,d.cur0,d.kb⟩
 cases m with
 | zero=>
  rw [y5 rfl]
  refine Gt.leaf ?_ 0
  rcases hu with rfl|rfl <;> (unfold shB; simp)
 | succ n=>exact Gt.node hu y3 (y4 n rfl)
theorem drawQ {base cb : Nat} : ∀ m,m≤100→DrawQ base cb m
 | 0,_=>drawQ_key (by omega) fun n e=>by omega
 | m + 1,h=>drawQ_key h fun n e=>by
  have : m = n:=by omega
  subst this
  exact drawQ m (by omega)
end
theorem sb_getD (s : ByteArray) (i : Nat) : (((s.data.toList.getD i 0).toNat : Nat) : Int) = (sb s).getD i 0:=by
 unfold sb
 simp only [List.getD,List.getElem?_map]
 cases s.data.toList[i]? <;> rfl
theorem sb_bytes (s : ByteArray) : ∀ x∈sb s,0≤x∧x≤255:=by
 intro x hx
 simp only [sb,List.mem_map] at hx
 obtain ⟨b,_,rfl⟩:=hx
 have:=b.toNat_lt
 omega
theorem extract_sb (s : ByteArray) (i j : Nat) : s.extract i j = bstr (((sb s).drop i).take (j - i)):=by
 apply ByteArray.ext
 apply Array.toList_inj.1
 rw [bstr_data,ByteArray.data_extract,Array.toList_extract]
 unfold sb
 rw [← List.map_drop,← List.map_take,List.map_map]
 conv=>lhs; rw [← List.map_id (List.extract _ _ _)]
 simp only [List.extract_eq_take_drop]
 apply List.map_congr_left
 intro x _
 simp
abbrev strsV (ws : List (List Int)) : List Value:=ws.map fun w=>Value.string (bstr w)
def splitF (zs : List Int) (c : Int) : Nat→Nat→Nat→List (List Int)→List (List Int)
 | 0,_,_,out=>out
 | d + 1,i,from_,out=>if (i == zs.length || zs.getD i 0 == c) = true then splitF zs c d (i + 1) (i + 1) (out++[(zs.drop from_).take (i - from_)]) else splitF zs c d (i + 1) from_ out
def splitL (zs : List Int) (c : Int) : List (List Int):=splitF zs c (zs.length + 1) 0 0 []
theorem splitF_len (zs : List Int) (c : Int) : ∀ (d i f : Nat) (out : List (List Int)),(splitF zs c d i f out).length≤out.length + d
 | 0,_,_,out=>Nat.le_refl _
 | d + 1,i,f,out=>by
  rw [splitF]
  split
  ·have:=splitF_len zs c d (i + 1) (i + 1) (out++[(zs.drop f).take (i - f)])
   simp at this
   omega
  ·have:=splitF_len zs c d (i + 1) f out
   omega
theorem splitF_pos (zs : List Int) (c : Int) : ∀ (d i f : Nat) (out : List (List Int)),i + d = zs.length + 1→0 < d∨0 < out.length→0 < (splitF zs c d i f out).length
 | 0,_,_,out,hi,h=>by rcases h with h|h; exact absurd h (Nat.lt_irrefl 0); exact h
 | d + 1,i,f,out,hi,h=>by
  rw [splitF]
  split
  ·exact splitF_pos zs c d (i + 1) _ _ (by omega) (.inr (by simp))
  ·rename_i hc
   refine splitF_pos zs c d (i + 1) _ _ (by omega) (.inl ?_)
   rcases Nat.eq_zero_or_pos d with h0|h0
   ·exfalso
    apply hc
    have : i = zs.length:=by omega
    subst this
    simp
   ·exact h0
theorem splitF_bytes {zs : List Int} (hz : ∀ x∈zs,0≤x∧x≤255) (c : Int) : ∀ (d i f : Nat) (out : List (List Int)),(∀ w∈out,∀ x∈w,0≤x∧x≤255)→∀ w∈splitF zs c d i f out,∀ x∈w,0≤x∧x≤255
 | 0,_,_,out,h=>h
 | d + 1,i,f,out,h=>by
  rw [splitF]
  split
  ·refine splitF_bytes hz c d _ _ _ fun w hw=>?_
   rcases List.mem_append.1 hw with hw|hw
   ·exact h w hw
   ·rw [List.mem_singleton] at hw
    subst hw
    exact fun x hx=>hz x (List.mem_of_mem_drop (List.mem_of_mem_take hx))
  ·exact splitF_bytes hz c d _ _ _ h
theorem splitF_short {zs : List Int} (c : Int) : ∀ (d i f : Nat) (out : List (List Int)),(∀ w∈out,w.length≤zs.length)→∀ w∈splitF zs c d i f out,w.length≤zs.length
 | 0,_,_,out,h=>h
 | d + 1,i,f,out,h=>by
  rw [splitF]
  split
  ·refine splitF_short c d _ _ _ fun w hw=>?_
   rcases List.mem_append.1 hw with hw|hw
   ·exact h w hw
   ·rw [List.mem_singleton] at hw
    subst hw
    simp
    omega
  ·exact splitF_short c d _ _ _ h
theorem split_loop {base lo : Nat} {s : ByteArray} {c : Int} (hs : s.size≤1048576) (hlo : base≤lo) : ∀ (d i f : Nat) (h : AH) (ao : Option Addr) (out : List (List Int)),i + d = (sb s).length + 1→f≤i→out.length≤i→Own base 9 h ao (strsV out)→(∀ b,blk ao b→lo≤b)→lo≤h.length →
  ∃ h' ao',loopL (B202_0 base) [some (.string s),some (.int .u8 c),some (.slice ao out.length out.length),some (.int .i64 (f : Int)),some (.int .i64 (i : Int))] h = some (2,[some (.slice ao' (splitF (sb s) c d i f out).length (splitF (sb s) c d i f out).length)],h')∧Own base 9 h' ao' (strsV (splitF (sb s) c d i f out))∧(∀ b,blk ao' b→lo≤b)∧KB (fun b=>lo≤b) h h':=by
 have hl:=sb_len s
 intro d
 induction d with
 | zero=>
  intro i f h ao out hi hf ho ow hao hlh
  refine ⟨h,ao,loop_off (by decide) ?_,ow,hao,KB.refl _ _⟩
  rw [B202_0_eq]
  exact ifF (by simp; omega) rfl
 | succ d ih=>
  intro i f h ao out hi hf ho ow hao hlh
  have hle : (i : Int)≤(s.size : Int):=by omega
  have hj : ((if ((i : Int) == (s.size : Int)) = true then
    some (Sum.inl ([some (.string s),some (.int .u8 c),some (.slice ao out.length out.length),some (.int .i64 (f : Int)),some (.int .i64 (i : Int)),some (.bool true)],h))
    else
    (if 0≤(i : Int)∧(i : Int) < (s.size : Int) then
    some (.inl ([some (.string s),some (.int .u8 c),some (.slice ao out.length out.length),some (.int .i64 (f : Int)),some (.int .i64 (i : Int)),some (.bool (((s.data.toList.getD (Int.toNat (i : Int)) 0).toNat : Int) == c))],h))
    else none)) : Option (Sum (Slots × AH) (Sum (Slots × AH) (Nat × Slots × AH)))) = some (.inl ([some (.string s),some (.int .u8 c),some (.slice ao out.length out.length),some (.int .i64 (f : Int)),some (.int .i64 (i : Int)),some (.bool (i == (sb s).length || (sb s).getD i 0 == c))],h)):=by
   by_cases e : i = (sb s).length
   ·refine ifT (by simp; omega) ?_
    have : (i == (sb s).length) = true:=by simpa using e
    rw [this]
    rfl
   ·refine ifF (by simp; omega) (ifT ⟨by omega,by omega⟩ ?_)
    have : (i == (sb s).length) = false:=by simpa using e
    rw [this,Int.toNat_natCast,sb_getD]
    rfl
  rw [splitF]
  by_cases e : (i == (sb s).length || (sb s).getD i 0 == c) = true
  ·rw [if_pos e]
   rw [e] at hj
   obtain ⟨a6,h6,e6,o6,k6,b6,n6⟩:=Am.app1 (bytes:=16) ow (n:=out.length) (sz:=1) (cs:=[.string (bstr (((sb s).drop f).take (i - f)))]) (by simp) rfl (by decide) rfl (by omega) (by omega) (by omega)
   have eV : strsV out++[Value.string (bstr (((sb s).drop f).take (i - f)))] = strsV (out++[((sb s).drop f).take (i - f)]):=by simp [strsV]
   rw [eV] at o6
   obtain ⟨h7,a7,e7,o7,f7,k7⟩:=ih (i + 1) (i + 1) h6 a6 (out++[((sb s).drop f).take (i - f)]) (by omega) (Nat.le_refl _) (by simp; omega) o6 (fun b hb=>by have:=b6 b hb; omega) (by omega)
   refine ⟨h7,a7,loop_on ?_ e7,o7,f7,KB.trans k6 k7 (fun b _ hb=>hao b hb) (fun _ _ h=>h)⟩
   rw [B202_0_eq]
   refine ifT (decide_eq_true hle) ?_
   refine bj (q:=([some (.string s),some (.int .u8 c),some (.slice a6 (out++[((sb s).drop f).take (i - f)]).length (out++[((sb s).drop f).take (i - f)]).length),some (.int .i64 ((i + 1 : Nat) : Int)),some (.int .i64 (i : Int))],h6)) ?_ ?_
   ·refine bj _ hj (bT rfl (bI rfl (bS rfl (bI rfl (bI rfl (bB rfl (ifT rfl (ifT ⟨by omega,by omega,hle⟩ ?_))))))))
    rw [Int.toNat_natCast,Int.toNat_natCast,extract_sb]
    refine lets fun y ey=>?_
    subst ey
    refine bs e6 (bS rfl ?_)
    rw [w64i (n:=(i : Int) + 1) (by omega) (by omega)]
    simp
   ·refine bT rfl (bI rfl (bS rfl (bI rfl (bI rfl ?_))))
    dsimp only
    rw [w64i (n:=(i : Int) + 1) (by omega) (by omega)]
    rfl
  ·rw [if_neg e]
   have e' : (i == (sb s).length || (sb s).getD i 0 == c) = false:=by simpa using e
   rw [e'] at hj
   obtain ⟨h7,a7,e7,o7,f7,k7⟩:=ih (i + 1) f h ao out (by omega) (by omega) (by omega) ow hao hlh
   refine ⟨h7,a7,loop_on ?_ e7,o7,f7,k7⟩
   rw [B202_0_eq]
   refine ifT (decide_eq_true hle) ?_
   refine bj (q:=([some (.string s),some (.int .u8 c),some (.slice ao out.length out.length),some (.int .i64 (f : Int)),some (.int .i64 (i : Int))],h)) ?_ ?_
   ·exact bj _ hj (bT rfl (bI rfl (bS rfl (bI rfl (bI rfl (bB rfl (ifF (by decide) rfl)))))))
   ·refine bT rfl (bI rfl (bS rfl (bI rfl (bI rfl ?_))))
    dsimp only
    rw [w64i (n:=(i : Int) + 1) (by omega) (by omega)]
    rfl
theorem l8Split_run {base : Nat} {h : AH} {s : ByteArray} {c : Int} (hs : s.size≤1048576) (hb : base≤h.length) :
  ∃ ao h',run (Et base) 202 [.string s,.int .u8 c] h = some (.slice ao (splitL (sb s) c).length (splitL (sb s) c).length,h')∧Own base 9 h' ao (strsV (splitL (sb s) c))∧(∀ b,blk ao b→h.length≤b)∧KB NoB h h':=by
 obtain ⟨o1,k1,q1⟩:=box_own (base:=base) (t:=9) (h:=h) (cs:=[]) hb rfl
 generalize hh1 : h++[some (⟨[],9⟩ : Blk)] = h1 at o1 k1 q1
 obtain ⟨h2,a2,e2,o2,f2,k2⟩:=split_loop (base:=base) (lo:=h.length) (c:=c) hs hb ((sb s).length + 1) 0 0 h1 (at0 h.length) [] (by omega) (Nat.le_refl _) (Nat.zero_le _) o1 (fun b hb'=>by rw [blk_at0] at hb'; omega) (by omega)
 rw [show ((0 : Nat) : Int) = 0 from rfl] at e2
 refine ⟨a2,h2,Am.r202 (lets fun y ey=>?_),o2,f2,kFresh k1 k2 fun i hi=>hi⟩
 rw [hh1] at ey
 subst ey
 exact bs e2 (ifT rfl (bS rfl rfl))
def numF (zs : List Int) : Nat→Nat→Int→Int
 | 0,_,n=>n
 | d + 1,i,n=>if inB (zs.getD i 0) 48 57 = true then numF zs d (i + 1) (n * 10 + (zs.getD i 0 - 48)) else -1
def numL (zs : List Int) : Int:=if (!inB (zs.length : Int) 1 7 || (decide ((zs.length : Int) > 1) && zs.getD 0 0 == 48)) = true then -1 else numF zs zs.length 0 0
theorem num_loop {base : Nat} {h : AH} {s : ByteArray} (hs : s.size≤7) : ∀ (d i : Nat) (n : Int),i + d = s.size→0≤n→n < 10 ^ i →
  ∃ e,loopL (B239_0 base) [some (.string s),some (.int .i64 n),some (.int .i64 (i : Int))] h = some (e,[some (.int .i64 (numF (sb s) d i n))],h)∧(e = 1∨e = 2)∧-1≤numF (sb s) d i n∧numF (sb s) d i n≤10000000:=by
 intro d
 induction d with
 | zero=>
  intro i n hi h0 h1
  refine ⟨2,loop_off (by decide) ?_,.inr rfl,by simp only [numF]; omega,?_⟩
  ·rw [B239_0_eq]
   exact ifF (by simp; omega) rfl
  ·simp only [numF]
   have : (10 : Int) ^ i≤10 ^ 7:=by
    have h7 : i≤7:=by omega
    match i,h7 with
    | 0,_=>decide
    | 1,_=>decide
    | 2,_=>decide
    | 3,_=>decide
    | 4,_=>decide
    | 5,_=>decide
    | 6,_=>decide
    | 7,_=>decide
    | n + 8,h=>omega
   have e : (10 : Int) ^ 7 = 10000000:=by decide
   omega
 | succ d ih=>
  intro i n hi h0 h1
  have hlt : (0 : Int)≤(i : Int)∧(i : Int) < (s.size : Int):=⟨by omega,by omega⟩
  have hb : 0≤(sb s).getD i 0∧(sb s).getD i 0≤255:=by
   have hl : i < (sb s).length:=by rw [sb_len]; omega
   have : (sb s).getD i 0 = (sb s)[i]:=by simp [List.getD,hl]
   rw [this]
   exact sb_bytes s _ (List.getElem_mem hl)
  have hn7 : n < 10000000:=by
   have h7 : i≤6:=by omega
   have : (10 : Int) ^ i≤1000000:=by
    match i,h7 with
    | 0,_=>decide
    | 1,_=>decide
    | 2,_=>decide
    | 3,_=>decide
    | 4,_=>decide
    | 5,_=>decide
    | 6,_=>decide
    | n + 7,h=>omega
   omega
  have hin:=l1In_run (base:=base) (h:=h) (x:=(sb s).getD i 0) (a:=48) (b:=57)
  have hw : IntKind.wrap .i64 ((s.data.toList.getD (Int.toNat (i : Int)) 0).toNat : Int) = (sb s).getD i 0:=by
   rw [Int.toNat_natCast,sb_getD]
   exact w64i (by omega) (by omega)
  rw [numF]
  cases c : inB ((sb s).getD i 0) 48 57 with
  | false=>
   rw [c] at hin
   rw [if_neg (by decide)]
   refine ⟨1,loop_off (by decide) ?_,.inl rfl,by decide,by decide⟩
   rw [B239_0_eq]
   refine ifT (decide_eq_true hlt.2) (ifT hlt ?_)
   rw [hw]
   exact bs hin (bB rfl (ifT rfl rfl))
  | true=>
   rw [c] at hin
   rw [if_pos rfl]
   simp only [inB,Bool.and_eq_true,decide_eq_true_eq] at c
   have hp : (10 : Int) ^ (i + 1) = 10 * 10 ^ i:=by rw [Int.pow_succ]; omega
   obtain ⟨e,y1,y2,y3,y4⟩:=ih (i + 1) (n * 10 + ((sb s).getD i 0 - 48)) (by omega) (by omega) (by omega)
   refine ⟨e,loop_on ?_ y1,y2,y3,y4⟩
   rw [B239_0_eq]
   refine ifT (decide_eq_true hlt.2) (ifT hlt ?_)
   rw [hw]
   refine bs hin (bB rfl (ifF (by decide) (ifT hlt ?_)))
   have w1 : IntKind.wrap .u8 (((s.data.toList.getD (Int.toNat (i : Int)) 0).toNat : Int) - (48 : Int)) = (sb s).getD i 0 - 48:=by
    rw [Int.toNat_natCast,sb_getD]
    exact wu8 (by omega) (by omega)
   rw [w1,w64i (n:=(sb s).getD i 0 - 48) (by omega) (by omega),w64i (n:=n * 10) (by omega) (by omega),w64i (n:=n * 10 + ((sb s).getD i 0 - 48)) (by omega) (by omega),w64i (n:=(i : Int) + 1) (by omega) (by omega)]
   rfl
theorem l1Number_run {base : Nat} {h : AH} {s : ByteArray} (hs : s.size≤1048576) : run (Et base) 239 [.string s] h = some (.int .i64 (numL (sb s)),h)∧-1≤numL (sb s)∧numL (sb s)≤10000000:=by
 have hl:=sb_len s
 have hin:=l1In_run (base:=base) (h:=h) (x:=(s.size : Int)) (a:=1) (b:=7)
 have hj : ((run (Et base) 90 [(.int .i64 (s.size : Int)),(.int .i64 (1 : Int)),(.int .i64 (7 : Int))] h).bind fun r2=>
   ((some r2.1).bind getB).bind fun b3=>
   (if (!b3) = true then
   some (Sum.inl ([some (.string s),some (.bool true)],r2.2))
   else
   (if (decide ((s.size : Int) > (1 : Int))) = true then
   (if 0≤(0 : Int)∧(0 : Int) < (s.size : Int) then
   some (.inl ([some (.string s),some (.bool (((s.data.toList.getD (Int.toNat (0 : Int)) 0).toNat : Int) == (48 : Int)))],r2.2))
   else none)
   else
   some (.inl ([some (.string s),some (.bool false)],r2.2)))) : Option (Sum (Slots × AH) (Value × AH))) = some (.inl ([some (.string s),some (.bool (!inB ((sb s).length : Int) 1 7 || (decide (((sb s).length : Int) > 1) && (sb s).getD 0 0 == 48)))],h)):=by
  rw [hl]
  refine bs hin (bB rfl ?_)
  cases c : inB (s.size : Int) 1 7 with
  | false=>exact ifT rfl rfl
  | true=>
   refine ifF (by decide) ?_
   by_cases c2 : (s.size : Int) > 1
   ·refine ifT (decide_eq_true c2) (ifT ⟨by decide,by omega⟩ ?_)
    rw [decide_eq_true c2,Int.toNat_zero,sb_getD]
    rfl
   ·refine ifF (by simpa using c2) ?_
    rw [decide_eq_false c2]
    rfl
 unfold numL
 cases c : (!inB ((sb s).length : Int) 1 7 || (decide (((sb s).length : Int) > 1) && (sb s).getD 0 0 == 48)) with
 | true=>
  rw [c] at hj
  rw [if_pos rfl]
  exact ⟨Am.r239 (bj _ hj (bT rfl (bB rfl (ifT rfl rfl)))),by decide,by decide⟩
 | false=>
  rw [c] at hj
  rw [if_neg (by decide)]
  have h7 : s.size≤7:=by
   rw [hl] at c
   simp only [Bool.or_eq_false_iff,Bool.not_eq_false',inB,Bool.and_eq_true,decide_eq_true_eq] at c
   omega
  obtain ⟨e,y1,y2,y3,y4⟩:=num_loop (base:=base) (h:=h) h7 s.size 0 0 (by omega) (by omega) (by decide)
  rw [show ((0 : Nat) : Int) = 0 from rfl] at y1
  rw [hl]
  refine ⟨Am.r239 (bj _ hj (bT rfl (bB rfl (ifF (by decide) (bs y1 ?_))))),y3,y4⟩
  rcases y2 with rfl|rfl
  ·exact ifT rfl (bI rfl rfl)
  ·exact ifF (show ¬ (2 : Nat) = 1 by decide) (ifT rfl (bI rfl rfl))
def wholeL (zs : List Int) : Int × Bool:=if (decide ((zs.length : Int) > 1) && zs.getD 0 0 == 45) = true then (-(numL (zs.drop 1)),decide (numL (zs.drop 1) > 0)) else (numL zs,decide (numL zs ≥ 0))
theorem l8Whole_run {base : Nat} {h : AH} {s : ByteArray} (hs : s.size≤1048576) : run (Et base) 235 [.string s] h = some (.tuple #[.int .i64 (wholeL (sb s)).1,.bool (wholeL (sb s)).2],h):=by
 have hl:=sb_len s
 have hj : ((if (decide ((s.size : Int) > (1 : Int))) = true then
   (if 0≤(0 : Int)∧(0 : Int) < (s.size : Int) then
   some (Sum.inl ([some (.string s),some (.bool (((s.data.toList.getD (Int.toNat (0 : Int)) 0).toNat : Int) == (45 : Int)))],h))
   else none)
   else
   some (.inl ([some (.string s),some (.bool false)],h)) : Option (Sum (Slots × AH) (Value × AH)))) = some (.inl ([some (.string s),some (.bool (decide (((sb s).length : Int) > 1) && (sb s).getD 0 0 == 45))],h)):=by
  rw [hl]
  by_cases c2 : (s.size : Int) > 1
  ·refine ifT (decide_eq_true c2) (ifT ⟨by decide,by omega⟩ ?_)
   rw [decide_eq_true c2,Int.toNat_zero,sb_getD]
   rfl
  ·refine ifF (by simpa using c2) ?_
   rw [decide_eq_false c2]
   rfl
 unfold wholeL
 cases c : (decide (((sb s).length : Int) > 1) && (sb s).getD 0 0 == 45) with
 | true=>
  rw [c] at hj
  rw [if_pos rfl]
  have c1 : (s.size : Int) > 1:=by
   rw [hl] at c
   simp only [Bool.and_eq_true,decide_eq_true_eq] at c
   exact c.1
  have ed : sb (bstr ((sb s).drop 1)) = (sb s).drop 1:=sb_bstr fun x hx=>sb_bytes s x (List.mem_of_mem_drop hx)
  have hx : s.extract (Int.toNat (1 : Int)) (Int.toNat (s.size : Int)) = bstr ((sb s).drop 1):=by
   rw [extract_sb,Int.toNat_natCast]
   congr 1
   exact List.take_of_length_le (by simp [sb_len])
  obtain ⟨e,b1,b2⟩:=l1Number_run (base:=base) (h:=h) (s:=bstr ((sb s).drop 1)) (by rw [bstr_size]; simp [sb_len]; omega)
  rw [ed] at e b1 b2
  refine Am.r235 (bj _ hj (bT rfl (bB rfl (ifT rfl (ifT ⟨by decide,by omega,Int.le_refl _⟩ ?_)))))
  rw [hx]
  refine bs e (bI rfl ?_)
  rw [w64i (by omega) (by omega)]
  simp
 | false=>
  rw [c] at hj
  rw [if_neg (by decide)]
  obtain ⟨e,b1,b2⟩:=l1Number_run (base:=base) (h:=h) hs
  exact Am.r235 (bj _ hj (bT rfl (bB rfl (ifF (by decide) (bs e (bI rfl rfl))))))
def setI (x : In) (c : Int) (w : List Int) : In × Bool:=
 if (c == (83 : Int)) = true then ({ x with s:=bstr w },true)
 else if (c == (65 : Int)) = true then ({ x with a:=(wholeL w).1 },(wholeL w).2)
 else if (c == (66 : Int)) = true then ({ x with b:=(wholeL w).1 },(wholeL w).2)
 else if (c == (67 : Int)) = true then ({ x with c:=(wholeL w).1 },(wholeL w).2)
 else ({ x with n:=(wholeL w).1 },(wholeL w).2)
theorem l8Set_run {base xb : Nat} {h : AH} {x : In} {c : Int} {w : List Int} (hw : ∀ z∈w,0≤z∧z≤255) (hl : w.length≤1048576) (o : Own base 143 h (at0 xb) (inV x)) :
  ∃ h',run (Et base) 224 [.pointer (at0 xb),.int .u8 c,.string (bstr w)] h = some (.bool (setI x c w).2,h')∧Own base 143 h' (at0 xb) (inV (setI x c w).1)∧KB (· = xb) h h'∧h'.length = h.length:=by
 have hwh:=l8Whole_run (base:=base) (h:=h) (s:=bstr w) (by rw [bstr_size]; exact hl)
 rw [sb_bstr hw] at hwh
 unfold setI
 by_cases c0 : (c == (83 : Int)) = true
 ·rw [if_pos c0]
  obtain ⟨h',e,o',k,l⟩:=o.wr0 (i:=5) (new:=[.string (bstr w)]) (by simp) (by simp)
  exact ⟨h',Am.r224 (ifT c0 (bs rfl (bs e rfl))),o',k.mono fun b _ hb=>by omega,l⟩
 ·rw [if_neg c0]
  by_cases c1 : (c == (65 : Int)) = true
  ·rw [if_pos c1]
   obtain ⟨h',e,o',k,l⟩:=o.wr0 (i:=1) (new:=[.int .i64 (wholeL w).1]) (by simp) (by simp)
   exact ⟨h',Am.r224 (ifF c0 (bs hwh (bs rfl (bI rfl (bB rfl (bj (q:=([some (.bool (wholeL w).2)],h')) (ifT c1 (bs rfl (bs e rfl))) (bB rfl rfl))))))),o',k.mono fun b _ hb=>by omega,l⟩
  ·rw [if_neg c1]
   by_cases c2 : (c == (66 : Int)) = true
   ·rw [if_pos c2]
    obtain ⟨h',e,o',k,l⟩:=o.wr0 (i:=2) (new:=[.int .i64 (wholeL w).1]) (by simp) (by simp)
    exact ⟨h',Am.r224 (ifF c0 (bs hwh (bs rfl (bI rfl (bB rfl (bj (q:=([some (.bool (wholeL w).2)],h')) (ifF c1 (ifT c2 (bs rfl (bs e rfl)))) (bB rfl rfl))))))),o',k.mono fun b _ hb=>by omega,l⟩
   ·rw [if_neg c2]
    by_cases c3 : (c == (67 : Int)) = true
    ·rw [if_pos c3]
     obtain ⟨h',e,o',k,l⟩:=o.wr0 (i:=3) (new:=[.int .i64 (wholeL w).1]) (by simp) (by simp)
     exact ⟨h',Am.r224 (ifF c0 (bs hwh (bs rfl (bI rfl (bB rfl (bj (q:=([some (.bool (wholeL w).2)],h')) (ifF c1 (ifF c2 (ifT c3 (bs rfl (bs e rfl))))) (bB rfl rfl))))))),o',k.mono fun b _ hb=>by omega,l⟩
    ·rw [if_neg c3]
     obtain ⟨h',e,o',k,l⟩:=o.wr0 (i:=4) (new:=[.int .i64 (wholeL w).1]) (by simp) (by simp)
     exact ⟨h',Am.r224 (ifF c0 (bs hwh (bs rfl (bI rfl (bB rfl (bj (q:=([some (.bool (wholeL w).2)],h')) (ifF c1 (ifF c2 (ifF c3 (bs rfl (bs e rfl))))) (bB rfl rfl))))))),o',k.mono fun b _ hb=>by omega,l⟩
def setsF (us : List Int) (ws : List (List Int)) : Nat→Nat→In→Bool→In × Bool
 | 0,_,x,ok=>(x,ok)
 | d + 1,k,x,ok=>if ok = true then setsF us ws d (k + 1) (setI x (us.getD k 0) (ws.getD (k + 1) [])).1 (setI x (us.getD k 0) (ws.getD (k + 1) [])).2 else (x,false)
theorem strs_at {base t : Nat} {h : AH} {a : Option Addr} {ws : List (List Int)} (s : Sl h a (strsV ws)) {i : Nat} (hi : i < ws.length) : ∃ ad,a = some ad∧Am.cell h ad.block (ad.off + i) = some (.string (bstr (ws.getD i []))):=by
 have : (strsV ws)[i]? = some (.string (bstr (ws.getD i []))):=by simp [strsV,List.getD,hi]
 exact s.cell this
theorem sets_loop {base b0 xb : Nat} {us : ByteArray} {ws : List (List Int)} {aw : Option Addr} (hus : us.size≤3) (hws : ∀ w∈ws,w.length≤1048576∧∀ z∈w,0≤z∧z≤255) (haw : ∀ b,blk aw b→b≠xb) : ∀ (d k : Nat) (h : AH) (x : In) (ok : Bool),k + d = us.size→(ok = true→0 < d→ws.length = us.size + 1)→Sl h aw (strsV ws)→Own base 143 h (at0 xb) (inV x) →
  ∃ h',loopL (B203_1 base) [some (.pointer (at0 b0)),some (.slice aw ws.length ws.length),some (.string us),some (.pointer (at0 xb)),some (.bool ok),some (.int .i64 (k : Int))] h = some (4,[some (.pointer (at0 b0)),some (.pointer (at0 xb)),some (.bool (setsF (sb us) ws d k x ok).2)],h')∧Own base 143 h' (at0 xb) (inV (setsF (sb us) ws d k x ok).1)∧KB (· = xb) h h'∧h'.length = h.length:=by
 intro d
 induction d with
 | zero=>
  intro k h x ok hk hlen hs o
  refine ⟨h,loop_off (by decide) ?_,o,KB.refl _ _,rfl⟩
  rw [B203_1_eq]
  refine bj (q:=([some (.pointer (at0 b0)),some (.slice aw ws.length ws.length),some (.string us),some (.pointer (at0 xb)),some (.bool ok),some (.int .i64 (k : Int)),some (.bool false)],h)) (ifF (by simp; omega) rfl) ?_
  exact bs rfl (bS rfl (bT rfl (bs rfl (bB rfl (bI rfl (bB rfl (ifF (by decide) rfl)))))))
 | succ d ih=>
  intro k h x ok hk hlen hs o
  rw [setsF]
  cases ok with
  | false=>
   rw [if_neg (by decide)]
   refine ⟨h,loop_off (by decide) ?_,o,KB.refl _ _,rfl⟩
   rw [B203_1_eq]
   refine bj (q:=([some (.pointer (at0 b0)),some (.slice aw ws.length ws.length),some (.string us),some (.pointer (at0 xb)),some (.bool false),some (.int .i64 (k : Int)),some (.bool false)],h)) (ifT (decide_eq_true (by omega)) rfl) ?_
   exact bs rfl (bS rfl (bT rfl (bs rfl (bB rfl (bI rfl (bB rfl (ifF (by decide) rfl)))))))
  | true=>
   rw [if_pos rfl]
   have hl:=hlen rfl (Nat.succ_pos _)
   obtain ⟨ad,rfl,g⟩:=strs_at (base:=base) (t:=0) hs (i:=k + 1) (by omega)
   have hmem : ws.getD (k + 1) []∈ws:=by
    have hk1 : k + 1 < ws.length:=by omega
    have : ws.getD (k + 1) [] = ws[k + 1]:=by simp [List.getD,hk1]
    rw [this]
    exact List.getElem_mem _
   obtain ⟨w1,w2⟩:=hws _ hmem
   obtain ⟨h1,e1,o1,k1,l1⟩:=l8Set_run (base:=base) (c:=(sb us).getD k 0) w2 w1 o
   obtain ⟨h2,e2,o2,k2,l2⟩:=ih (k + 1) h1 _ _ (by omega) (fun _ _=>hl) (hs.keep k1 fun b hb hk=>haw b hb hk) o1
   refine ⟨h2,loop_on ?_ e2,o2,KB.trans k1 k2 (fun _ _ h=>h) (fun _ _ h=>h),by omega⟩
   rw [B203_1_eq]
   refine bj (q:=([some (.pointer (at0 b0)),some (.slice (some ad) ws.length ws.length),some (.string us),some (.pointer (at0 xb)),some (.bool true),some (.int .i64 (k : Int)),some (.bool true)],h)) (ifT (decide_eq_true (by omega)) rfl) ?_
   refine bs rfl (bS rfl (bT rfl (bs rfl (bB rfl (bI rfl (bB rfl (ifT rfl (ifT ⟨by omega,by omega⟩ ?_))))))))
   rw [w64i (n:=(k : Int) + 1) (by omega) (by omega),show (k : Int) + 1 = ((k + 1 : Nat) : Int) from by omega,Int.toNat_natCast,Int.toNat_natCast,Nat.mul_one,sb_getD]
   exact ifT ⟨by omega,by omega⟩ (bs rfl (bT g (bs e1 (bB rfl rfl))))
def nmL : List (List Int):=[[105,110,116],[97,116,111,109],[109,111,118,101],[116,117,112,108,101],[99,111,110,115],[101,108,101,109],[104,101,97,100],[116,97,105,108],[97,100,100],[115,97,109,101],[107,105,110,100],[106,117,109,112],[115,101,110,100],[116,97,107,101],[115,101,108,102],[109,97,107,101],[115,97,121],[108,105,110,107],[101,110,100],[110,105,108]]
theorem nm_bytes : ∀ w∈nmL,∀ z∈w,0≤z∧z≤255:=by decide
def insF (ws : List (List Int)) : Nat→Nat→In × Bool
 | 0,_=>(⟨0,0,0,0,0,⟨#[]⟩⟩,false)
 | d + 1,i=>if nmL.getD i [] = ws.getD 0 [] then setsF (sb (shp ((i : Int) + 1))) ws (shp ((i : Int) + 1)).size 0 ⟨(i : Int) + 1,0,0,0,0,⟨#[]⟩⟩ (ws.length == (shp ((i : Int) + 1)).size + 1) else insF ws d (i + 1)
theorem ins_loop {base b0 : Nat} {ws : List (List Int)} {aw an : Option Addr} {lo : Nat} (hws : ∀ w∈ws,w.length≤1048576∧∀ z∈w,0≤z∧z≤255) (h0 : 0 < ws.length) (hlen : ws.length≤1048577) (hlo : base≤lo) (hb0 : b0 < lo) (haw : ∀ b,blk aw b→b < lo∧b≠b0) (han : ∀ b,blk an b→b < lo∧b≠b0) : ∀ (d i : Nat) (h : AH),i + d = 20→lo≤h.length→Sl h aw (strsV ws)→Sl h an (strsV nmL)→Own base 143 h (at0 b0) (inV ⟨0,0,0,0,0,⟨#[]⟩⟩) →
  ∃ h',((loopL (B203_0 base) [some (.pointer (at0 b0)),some (.slice aw ws.length ws.length),some (.slice an 20 20),some (.int .i64 (i : Int))] h = some (1,[some (.pointer (at0 b0)),some (.bool (insF ws d i).2)],h') ∨
    (loopL (B203_0 base) [some (.pointer (at0 b0)),some (.slice aw ws.length ws.length),some (.slice an 20 20),some (.int .i64 (i : Int))] h = some (2,[some (.pointer (at0 b0))],h')∧insF ws d i = (⟨0,0,0,0,0,⟨#[]⟩⟩,false))))∧Own base 143 h' (at0 b0) (inV (insF ws d i).1)∧KB (fun b=>b = b0∨lo≤b) h h':=by
 intro d
 induction d with
 | zero=>
  intro i h hi hlh hs hn o
  refine ⟨h,.inr ⟨loop_off (by decide) ?_,rfl⟩,o,KB.refl _ _⟩
  rw [B203_0_eq]
  exact ifF (by simp; omega) rfl
 | succ d ih=>
  intro i h hi hlh hs hn o
  have hI : (0 : Int)≤(i : Int)∧(i : Int) < ((20 : Nat) : Int):=⟨by omega,by omega⟩
  obtain ⟨o1,k1,q1⟩:=box_own (base:=base) (t:=9) (h:=h) (cs:=usesV) (by omega) rfl
  generalize hh1 : h++[some (⟨usesV,9⟩ : Blk)] = h1 at o1 k1 q1
  have e1 : run (Et base) 181 [] h = some (.slice (at0 h.length) 20 20,h1):=Am.r181 (lets fun y ey=>by
   have : y = h1:=ey.trans hh1
   rw [this])
  have hs1:=hs.keepN k1
  have hn1:=hn.keepN k1
  have gu : Am.cell h1 h.length (0 + i * 1) = some (.string (shp ((i : Int) + 1))):=by
   have:=uses_at (op:=(i : Int) + 1) (by omega)
   rw [show Int.toNat ((i : Int) + 1 - 1) = i from by omega] at this
   rw [Nat.zero_add,Nat.mul_one]
   exact o1.at0 this
  obtain ⟨adn,rfl,gn⟩:=strs_at (base:=base) (t:=0) hn1 (i:=i) (by show i < 20; omega)
  obtain ⟨adw,rfl,gw⟩:=strs_at (base:=base) (t:=0) hs1 (i:=0) h0
  have hnb : ∀ z∈nmL.getD i [],0≤z∧z≤255:=by
   have hl : i < nmL.length:=by show i < 20; omega
   have : nmL.getD i [] = nmL[i]:=by simp [List.getD,hl]
   rw [this]
   exact nm_bytes _ (List.getElem_mem hl)
  have hwb : ∀ z∈ws.getD 0 [],0≤z∧z≤255:=by
   have : ws.getD 0 [] = ws[0]:=by simp [List.getD,h0]
   rw [this]
   exact (hws _ (List.getElem_mem h0)).2
  have heq:=bstr_inj hnb hwb
  have hu3 : (shp ((i : Int) + 1)).size≤3:=by
   rcases op_cases (op:=(i : Int) + 1) (by omega) with e|e|e|e|e|e|e|e|e|e|e|e|e|e|e|e|e|e|e|e <;> rw [e] <;> decide
  rw [insF]
  by_cases c : nmL.getD i [] = ws.getD 0 []
  ·rw [if_pos c]
   rw [decide_eq_true c] at heq
   obtain ⟨o9,k9,q9⟩:=box_own (base:=base) (t:=143) (h:=h1) (cs:=inV ⟨0,0,0,0,0,⟨#[]⟩⟩) (by omega) rfl
   generalize hh9 : h1++[some (⟨inV ⟨0,0,0,0,0,⟨#[]⟩⟩,143⟩ : Blk)] = h9 at o9 k9 q9
   obtain ⟨h10,e10,o10,k10,l10⟩:=o9.wr0 (i:=0) (new:=inV ⟨(i : Int) + 1,0,0,0,0,⟨#[]⟩⟩) (by simp) (by simp)
   have hz : setAt (inV ⟨0,0,0,0,0,⟨#[]⟩⟩) 0 (inV ⟨(i : Int) + 1,0,0,0,0,⟨#[]⟩⟩) = inV ⟨(i : Int) + 1,0,0,0,0,⟨#[]⟩⟩:=rfl
   rw [hz] at o10
   have k110 : KB NoB h1 h10:=kFresh k9 k10 fun b hb=>by omega
   have e11w : ((((ws.length : Nat) : Int) == IntKind.wrap .i64 (((shp ((i : Int) + 1)).size : Int) + (1 : Int)))) = (ws.length == (shp ((i : Int) + 1)).size + 1):=by
    rw [w64i (by omega) (by omega)]
    by_cases cc : ws.length = (shp ((i : Int) + 1)).size + 1
    ·have : ((ws.length : Nat) : Int) = ((shp ((i : Int) + 1)).size : Int) + 1:=by omega
     rw [beq_iff_eq.2 cc,beq_iff_eq.2 this]
    ·have : ((ws.length : Nat) : Int)≠((shp ((i : Int) + 1)).size : Int) + 1:=by omega
     rw [beq_eq_false_iff_ne.2 cc,beq_eq_false_iff_ne.2 this]
   obtain ⟨h11,e11,o11,k11,l11⟩:=sets_loop (base:=base) (b0:=b0) (xb:=h1.length) (us:=shp ((i : Int) + 1)) hu3 hws (fun b hb=>by have:=(haw b hb).1; omega) (shp ((i : Int) + 1)).size 0 h10 ⟨(i : Int) + 1,0,0,0,0,⟨#[]⟩⟩ (ws.length == (shp ((i : Int) + 1)).size + 1) (by omega) (fun h _=>by simpa using h) (hs1.keepN k110) o10
   rw [show ((0 : Nat) : Int) = 0 from rfl] at e11
   generalize setsF (sb (shp ((i : Int) + 1))) ws (shp ((i : Int) + 1)).size 0 ⟨(i : Int) + 1,0,0,0,0,⟨#[]⟩⟩ (ws.length == (shp ((i : Int) + 1)).size + 1) = p at e11 o11
   have k011 : KB (fun b=>lo≤b) h h11:=KB.trans (kN k1 k110) k11 (fun _ _ h=>h.elim) (fun b _ hb=>by omega)
   obtain ⟨h21,e21,o21,k21,l21⟩:=(o.keep k011 fun b hb hk=>by rw [blk_at0] at hb; omega).wr0 (i:=0) (new:=inV p.1) (by simp) (by simp)
   have hz2 : setAt (inV ⟨0,0,0,0,0,⟨#[]⟩⟩) 0 (inV p.1) = inV p.1:=rfl
   rw [hz2] at o21
   refine ⟨h21,.inl (loop_off (by decide) ?_),o21,KB.trans k011 k21 (fun _ _ h=>.inr h) (fun b _ hb=>.inl (by omega))⟩
   rw [B203_0_eq]
   refine ifT (decide_eq_true hI.2) (bs e1 (bS rfl (ifT hI (bs rfl ?_))))
   rw [Int.toNat_natCast]
   refine bT gu (ifT hI (bs rfl ?_))
   rw [Nat.mul_one]
   refine bT gn (ifT ⟨by decide,by omega⟩ (bs rfl ?_))
   rw [Int.toNat_zero,Nat.zero_mul]
   refine bT gw (ifF (by rw [heq]; decide) (lets fun y ey=>?_))
   rw [hh9] at ey
   subst ey
   rw [w64i (n:=(i : Int) + 1) (by omega) (by omega)]
   refine bs e10 ?_
   rw [e11w]
   exact bs e11 (ifT rfl (bs rfl (bs rfl (bB rfl (qi o11 (bs e21 rfl))))))
  ·rw [if_neg c]
   rw [decide_eq_false c] at heq
   obtain ⟨h2,e2,o2,k2⟩:=ih (i + 1) h1 (by omega) (by omega) hs1 hn1 (o.keepN k1)
   have step : B203_0 base [some (.pointer (at0 b0)),some (.slice (some adw) ws.length ws.length),some (.slice (some adn) 20 20),some (.int .i64 (i : Int))] h = some (0,[some (.pointer (at0 b0)),some (.slice (some adw) ws.length ws.length),some (.slice (some adn) 20 20),some (.int .i64 ((i + 1 : Nat) : Int))],h1):=by
    rw [B203_0_eq]
    refine ifT (decide_eq_true hI.2) (bs e1 (bS rfl (ifT hI (bs rfl ?_))))
    rw [Int.toNat_natCast]
    refine bT gu (ifT hI (bs rfl ?_))
    rw [Nat.mul_one]
    refine bT gn (ifT ⟨by decide,by omega⟩ (bs rfl ?_))
    rw [Int.toNat_zero,Nat.zero_mul]
    refine bT gw (ifT (by rw [heq]; decide) ?_)
    rw [w64i (n:=(i : Int) + 1) (by omega) (by omega)]
    rfl
   exact ⟨h2,e2.imp (loop_on step) fun ⟨a,b⟩=>⟨loop_on step a,b⟩,o2,KB.trans k1 k2 (fun _ _ h=>h.elim) (fun _ _ h=>h)⟩
def insL (zs : List Int) : In × Bool:=insF (splitL zs 32) 20 0
theorem splitL_ok {zs : List Int} (hz : ∀ x∈zs,0≤x∧x≤255) (hl : zs.length≤1048576) (c : Int) : (∀ w∈splitL zs c,w.length≤1048576∧∀ z∈w,0≤z∧z≤255)∧0 < (splitL zs c).length∧(splitL zs c).length≤1048577:=by
 refine ⟨fun w hw=>⟨?_,?_⟩,?_,?_⟩
 ·have:=splitF_short c (zs.length + 1) 0 0 [] (fun w hw=>nomatch hw) w hw
  omega
 ·exact splitF_bytes hz c (zs.length + 1) 0 0 [] (fun w hw=>nomatch hw) w hw
 ·exact splitF_pos zs c (zs.length + 1) 0 0 [] (by omega) (.inl (by omega))
 ·have:=splitF_len zs c (zs.length + 1) 0 0 []
  simp at this
  unfold splitL
  omega
theorem l8Ins_run {base : Nat} {h : AH} {zs : List Int} (hz : ∀ x∈zs,0≤x∧x≤255) (hl : zs.length≤1048576) (hb : base≤h.length) :
  ∃ h',run (Et base) 203 [.string (bstr zs)] h = some (.tuple #[.agg (inV (insL zs).1).toArray,.bool (insL zs).2],h')∧KB NoB h h':=by
 obtain ⟨s1,s2,s3⟩:=splitL_ok hz hl 32
 obtain ⟨o1,k1,q1⟩:=box_own (base:=base) (t:=143) (h:=h) (cs:=inV ⟨0,0,0,0,0,⟨#[]⟩⟩) hb rfl
 generalize hh1 : h++[some (⟨inV ⟨0,0,0,0,0,⟨#[]⟩⟩,143⟩ : Blk)] = h1 at o1 k1 q1
 obtain ⟨a2,h2,e2,o2,f2,k2⟩:=l8Split_run (base:=base) (h:=h1) (s:=bstr zs) (c:=32) (by rw [bstr_size]; exact hl) (by omega)
 rw [sb_bstr hz] at e2 o2
 have n2:=k2.1
 obtain ⟨o4,k4,q4⟩:=box_own (base:=base) (t:=9) (h:=h2) (cs:=strsV nmL) (by omega) rfl
 generalize hh4 : h2++[some (⟨strsV nmL,9⟩ : Blk)] = h4 at o4 k4 q4
 have e4 : run (Et base) 223 [] h2 = some (.slice (at0 h2.length) 20 20,h4):=Am.r223 (lets fun y ey=>by
  have : y = h4:=ey.trans hh4
  rw [this])
 have k14:=kN k2 k4
 obtain ⟨h6,e6,o6,k6⟩:=ins_loop (base:=base) (b0:=h.length) (lo:=h4.length) s1 s2 s3 (by omega) (by omega) (fun b hb=>by have:=f2 b hb; have:=(o2.lt hb).2; omega) (fun b hb=>by rw [blk_at0] at hb; omega) 20 0 h4 (by omega) (Nat.le_refl _) (o2.keepN k4).sl o4.sl (o1.keepN k14)
 rw [show ((0 : Nat) : Int) = 0 from rfl] at e6
 have k06 : KB NoB h h6:=kFresh (kN k1 k14) k6 fun i hi=>by omega
 unfold insL
 rcases e6 with e6|⟨e6,ez⟩
 ·refine ⟨h6,Am.r203 (lets fun y ey=>?_),k06⟩
  rw [hh1] at ey
  subst ey
  exact bs e2 (bS rfl (bs e4 (bS rfl (bs e6 (ifT rfl (bs rfl (bB rfl (qi o6 rfl))))))))
 ·rw [ez] at o6 ⊢
  obtain ⟨h16,e16,o16,k16,l16⟩:=o6.wr0 (i:=0) (new:=inV ⟨0,0,0,0,0,⟨#[]⟩⟩) (by simp) (by simp)
  have hz2 : setAt (inV ⟨0,0,0,0,0,⟨#[]⟩⟩) 0 (inV ⟨0,0,0,0,0,⟨#[]⟩⟩) = inV ⟨0,0,0,0,0,⟨#[]⟩⟩:=rfl
  rw [hz2] at o16
  refine ⟨h16,Am.r203 (lets fun y ey=>?_),kFresh k06 k16 fun i hi=>by omega⟩
  rw [hh1] at ey
  subst ey
  exact bs e2 (bS rfl (bs e4 (bS rfl (bs e6 (ifF (show ¬ (2 : Nat) = 1 by decide) (ifT rfl (bs rfl (bs e16 (qi o16 rfl)))))))))
theorem setI_size {x : In} {c : Int} {w : List Int} {B : Nat} (hx : x.s.size≤B) (hw : w.length≤B) : (setI x c w).1.s.size≤B:=by
 unfold setI
 split
 ·show (bstr w).size≤B
  rw [bstr_size]; exact hw
 ·split
  ·exact hx
  ·split
   ·exact hx
   ·split
    ·exact hx
    ·exact hx
theorem setsF_size {us : List Int} {ws : List (List Int)} {B : Nat} (hw : ∀ w∈ws,w.length≤B) : ∀ (d k : Nat) (x : In) (ok : Bool),x.s.size≤B→(setsF us ws d k x ok).1.s.size≤B
 | 0,_,_,_,h=>h
 | d + 1,k,x,ok,h=>by
  rw [setsF]
  split
  ·refine setsF_size hw d _ _ _ (setI_size h ?_)
   by_cases hk : k + 1 < ws.length
   ·have : ws.getD (k + 1) [] = ws[k + 1]:=by simp [List.getD,hk]
    rw [this]
    exact hw _ (List.getElem_mem hk)
   ·have : ws.getD (k + 1) [] = []:=by simp [List.getD,hk]
    rw [this]
    exact Nat.zero_le _
  ·exact h
theorem insF_size {ws : List (List Int)} {B : Nat} (hw : ∀ w∈ws,w.length≤B) : ∀ (d i : Nat),(insF ws d i).1.s.size≤B
 | 0,_=>Nat.zero_le _
 | d + 1,i=>by
  rw [insF]
  split
  ·exact setsF_size hw _ _ _ _ (Nat.zero_le _)
  ·exact insF_size hw d _
def pcF (ls : List (List Int)) : Nat→Nat→List In→Option (List In)
 | 0,_,out=>some out
 | d + 1,i,out=>if (insL (ls.getD i [])).2 = true then pcF ls d (i + 1) (out++[(insL (ls.getD i [])).1]) else none
def parseL (zs : List Int) : List In × Bool:=
 if (!emp (bstr ((splitL zs 10).getD ((splitL zs 10).length - 1) []))) = true then ([],false) else match pcF (splitL zs 10) ((splitL zs 10).length - 1) 0 [] with
  | some o=>if codeOk o = true then (o,true) else ([],false)
  | none=>([],false)
theorem parse_loop {base lo : Nat} {ls : List (List Int)} {al a4 : Option Addr} (hls : ∀ w∈ls,w.length≤1048576∧∀ z∈w,0≤z∧z≤255) (hlen : ls.length≤1048577) (hlo : base≤lo) (hal : ∀ b,blk al b→b < lo) {N : Nat} (hN : N≤ls.length) : ∀ (d i : Nat) (h : AH) (ao : Option Addr) (out : List In),i + d = N→out.length = i→lo≤h.length→Sl h al (strsV ls)→Own base 143 h ao (insR out)→(∀ b,blk ao b→lo≤b)→(∀ x∈out,x.s.size≤1048576) →
  ∃ h',KB (fun b=>lo≤b) h h'∧(match pcF ls d i out with
   | some o=>∃ ao',loopL (B169_0 base) [some (.slice a4 0 0),some (.slice al ls.length ls.length),some (.int .i64 (N : Int)),some (.slice ao out.length out.length),some (.int .i64 (i : Int))] h = some (2,[some (.slice a4 0 0),some (.slice ao' o.length o.length)],h')∧Own base 143 h' ao' (insR o)∧(∀ b,blk ao' b→lo≤b)∧(∀ x∈o,x.s.size≤1048576)∧o.length≤N
   | none=>loopL (B169_0 base) [some (.slice a4 0 0),some (.slice al ls.length ls.length),some (.int .i64 (N : Int)),some (.slice ao out.length out.length),some (.int .i64 (i : Int))] h = some (1,[some (.slice a4 0 0),some (.bool false)],h')):=by
 intro d
 induction d with
 | zero=>
  intro i h ao out hi ho hlh hs ow hao hsz
  refine ⟨h,KB.refl _ _,ao,loop_off (by decide) ?_,ow,hao,hsz,by omega⟩
  rw [B169_0_eq]
  exact ifF (by simp; omega) rfl
 | succ d ih=>
  intro i h ao out hi ho hlh hs ow hao hsz
  have hI : (0 : Int)≤(i : Int)∧(i : Int) < ((ls.length : Nat) : Int):=⟨by omega,by omega⟩
  have hmem : ls.getD i []∈ls:=by
   have hl : i < ls.length:=by omega
   have : ls.getD i [] = ls[i]:=by simp [List.getD,hl]
   rw [this]
   exact List.getElem_mem hl
  obtain ⟨w1,w2⟩:=hls _ hmem
  obtain ⟨ad,rfl,g⟩:=strs_at (base:=base) (t:=0) hs (i:=i) (by omega)
  obtain ⟨h3,e3,k3⟩:=l8Ins_run (base:=base) (h:=h) w2 w1 (by omega)
  have n3:=k3.1
  have hxs : (insL (ls.getD i [])).1.s.size≤1048576:=insF_size (fun w hw=>((splitL_ok w2 w1 32).1 w hw).1) _ _
  rw [pcF]
  generalize insL (ls.getD i []) = p at e3 hxs
  obtain ⟨x,ok⟩:=p
  simp only at e3 hxs ⊢
  obtain ⟨o13,k13,q13⟩:=box_own (base:=base) (t:=143) (h:=h3) (cs:=inV ⟨0,0,0,0,0,⟨#[]⟩⟩) (by omega) rfl
  generalize hh13 : h3++[some (⟨inV ⟨0,0,0,0,0,⟨#[]⟩⟩,143⟩ : Blk)] = h13 at o13 k13 q13
  obtain ⟨h14,e14,o14,k14,l14⟩:=o13.wr0 (i:=0) (new:=inV x) (by simp) (by simp)
  have hz : setAt (inV ⟨0,0,0,0,0,⟨#[]⟩⟩) 0 (inV x) = inV x:=rfl
  rw [hz] at o14
  have k314 : KB NoB h3 h14:=kFresh k13 k14 fun b hb=>by omega
  have k014:=kN k3 k314
  have n14:=k314.1
  have head : ∀ {r : Nat × Slots × AH},((if (!ok) = true then
    some (1,[some (Value.slice a4 0 0),some (.bool false)],h14)
    else
    ((Am.cell h14 h3.length 0).bind (getI .i64)).bind fun n15=>
    ((Am.cell h14 h3.length 1).bind (getI .i64)).bind fun n16=>
    ((Am.cell h14 h3.length 2).bind (getI .i64)).bind fun n17=>
    ((Am.cell h14 h3.length 3).bind (getI .i64)).bind fun n18=>
    ((Am.cell h14 h3.length 4).bind (getI .i64)).bind fun n19=>
    ((Am.cell h14 h3.length 5).bind getStr).bind fun s20=>
    (some (h14++[some ⟨[(.int .i64 n15),(.int .i64 n16),(.int .i64 n17),(.int .i64 n18),(.int .i64 n19),(.string s20)],143⟩])).bind fun h21=>
    (Am.app base h21 143 6 56 ao out.length (rawAt h21 (some ⟨(List.length h14),0,none⟩) (1 * 6)) 1).bind fun p22=>
    ((some p22.1).bind getS).bind fun l23=>
    some (0,[some (.slice a4 0 0),some (.slice (some ad) ls.length ls.length),some (.int .i64 (N : Int)),some (.slice l23.1 l23.2 l23.2),some (.int .i64 (IntKind.wrap .i64 ((i : Int) + (1 : Int))))],p22.2)) = some r) →
    B169_0 base [some (.slice a4 0 0),some (.slice (some ad) ls.length ls.length),some (.int .i64 (N : Int)),some (.slice ao out.length out.length),some (.int .i64 (i : Int))] h = some r:=by
   intro r hr
   rw [B169_0_eq]
   refine ifT (decide_eq_true (by omega)) (ifT hI (bs rfl ?_))
   rw [Int.toNat_natCast,Nat.mul_one]
   refine bT g (bs e3 (bs rfl (bs (v:=inV x) rfl (bI rfl (bI rfl (bI rfl (bI rfl (bI rfl (bT rfl (bB rfl (lets fun y ey=>?_))))))))))) 
   rw [hh13] at ey
   subst ey
   exact bs e14 hr
  cases ok with
  | false=>
   rw [if_neg (by decide)]
   exact ⟨h14,k014.mono fun _ _ h=>h.elim,loop_off (by decide) (head (ifT rfl rfl))⟩
  | true=>
   rw [if_pos rfl]
   have ow14:=ow.keepN k014
   obtain ⟨a6,h6,e6,o6,k6,b6,n6⟩:=Am.app1 (bytes:=56) ow14 (n:=out.length) (sz:=6) (cs:=inV x) (insR_len out) rfl (by decide) rfl (by omega) (by omega) (by omega)
   have eR : insR out++inV x = insR (out++[x]):=by rw [insR_app]; rfl
   rw [eR] at o6
   have k06 : KB (fun b=>lo≤b) h h6:=KB.trans k014 k6 (fun _ _ h=>h.elim) (fun b _ hb=>hao b hb)
   obtain ⟨h7,k7,m7⟩:=ih (i + 1) h6 a6 (out++[x]) (by omega) (by simp; omega) (by omega) (hs.keep k06 fun b hb hk=>by have:=hal b hb; omega) o6 (fun b hb=>by have:=b6 b hb; omega) (fun z hz'=>by
    rcases List.mem_append.1 hz' with h|h
    ·exact hsz z h
    ·rw [List.mem_singleton] at h; subst h; exact hxs)
   have body : B169_0 base [some (.slice a4 0 0),some (.slice (some ad) ls.length ls.length),some (.int .i64 (N : Int)),some (.slice ao out.length out.length),some (.int .i64 (i : Int))] h = some (0,[some (.slice a4 0 0),some (.slice (some ad) ls.length ls.length),some (.int .i64 (N : Int)),some (.slice a6 (out++[x]).length (out++[x]).length),some (.int .i64 ((i + 1 : Nat) : Int))],h6):=by
    refine head (ifF (by decide) (qi o14 (lets fun y ey=>?_)))
    subst ey
    refine bs e6 (bS rfl ?_)
    rw [w64i (n:=(i : Int) + 1) (by omega) (by omega)]
    simp
   refine ⟨h7,KB.trans k06 k7 (fun _ _ h=>h) (fun _ _ h=>h),?_⟩
   cases hp : pcF ls d (i + 1) (out++[x]) with
   | none=>rw [hp] at m7; exact loop_on body m7
   | some o=>rw [hp] at m7; obtain ⟨ao',y1,y2⟩:=m7; exact ⟨ao',loop_on body y1,y2⟩
theorem specParse_run {base : Nat} {h : AH} {s : ByteArray} (hs : s.size≤1048576) (hb : base≤h.length) :
  ∃ ao h',run (Et base) 169 [.string s] h = some (.tuple #[.slice ao (parseL (sb s)).1.length (parseL (sb s)).1.length,.bool (parseL (sb s)).2],h')∧Own base 143 h' ao (insR (parseL (sb s)).1)∧(∀ b,blk ao b→h.length≤b)∧(∀ x∈(parseL (sb s)).1,x.s.size≤1048576)∧KB NoB h h':=by
 obtain ⟨s1,s2,s3⟩:=splitL_ok (sb_bytes s) (by rw [sb_len]; exact hs) 10
 obtain ⟨o1,k1,q1⟩:=box_own (base:=base) (t:=143) (h:=h) (cs:=[]) hb rfl
 generalize hh1 : h++[some (⟨[],143⟩ : Blk)] = h1 at o1 k1 q1
 obtain ⟨al,h2,e2,o2,f2,k2⟩:=l8Split_run (base:=base) (h:=h1) (c:=10) hs (by omega)
 have n2:=k2.1
 unfold parseL
 generalize splitL (sb s) 10 = ls at e2 o2 s1 s2 s3
 have hw : IntKind.wrap .i64 (((ls.length : Nat) : Int) - 1) = ((ls.length - 1 : Nat) : Int):=by rw [w64i (by omega) (by omega)]; omega
 obtain ⟨ad,rfl,g⟩:=strs_at (base:=base) (t:=0) o2.sl (i:=ls.length - 1) (by omega)
 have o1':=o1.keepN k2
 have k02:=kN k1 k2
 have fl : ∀ b,blk (at0 h.length) b→h.length≤b:=fun b hb'=>by rw [blk_at0] at hb'; omega
 have start : ∀ {r : Value × AH},((if (!emp (bstr (ls.getD (ls.length - 1) []))) = true then
   some (Value.tuple #[(.slice (some ⟨(List.length h),0,none⟩) 0 0),(.bool false)],h2)
   else
   (some (h2++[some ⟨[],143⟩])).bind fun h6=>
   (loopL (B169_0 base) [some (.slice (some ⟨(List.length h),0,none⟩) 0 0),some (.slice (some ad) ls.length ls.length),some (.int .i64 ((ls.length - 1 : Nat) : Int)),some (.slice (some ⟨(List.length h2),0,none⟩) 0 0),some (.int .i64 (0 : Int))] h6).bind fun q7=>
   (if q7.1 = 1 then
   ((sget q7.2.1 0).bind getS).bind fun l8=>
   ((sget (q7.2.1.tail) 0).bind getB).bind fun b9=>
   some ((.tuple #[(.slice l8.1 l8.2 l8.2),(.bool b9)]),q7.2.2)
   else
   (if q7.1 = 2 then
   ((sget q7.2.1 0).bind getS).bind fun l10=>
   ((sget (q7.2.1.tail) 0).bind getS).bind fun l11=>
   (run (Et base) 89 [(.slice l11.1 l11.2 l11.2)] q7.2.2).bind fun r12=>
   ((some r12.1).bind getB).bind fun b13=>
   (if (!b13) = true then
   some ((.tuple #[(.slice l10.1 l10.2 l10.2),(.bool false)]),r12.2)
   else
   some ((.tuple #[(.slice l11.1 l11.2 l11.2),(.bool true)]),r12.2))
   else
   none))) = some r)→run (Et base) 169 [.string s] h = some r:=by
  intro r hr
  refine Am.r169 (lets fun y ey=>?_)
  rw [hh1] at ey
  subst ey
  refine bs e2 (bS rfl ?_)
  rw [hw]
  refine ifT ⟨by omega,by omega⟩ (bs rfl ?_)
  rw [Int.toNat_natCast,Nat.mul_one]
  exact bT g hr
 cases c0 : emp (bstr (ls.getD (ls.length - 1) [])) with
 | false=>
  rw [c0] at start
  rw [if_pos (by decide)]
  exact ⟨at0 h.length,h2,start (ifT rfl rfl),o1',fl,fun x hx=>(by cases hx),k02⟩
 | true=>
  rw [c0] at start
  rw [if_neg (by decide)]
  obtain ⟨o6,k6,q6'⟩:=box_own (base:=base) (t:=143) (h:=h2) (cs:=[]) (by omega) rfl
  generalize hh6 : h2++[some (⟨[],143⟩ : Blk)] = h6 at o6 k6 q6'
  obtain ⟨h7,k7,m7⟩:=parse_loop (base:=base) (lo:=h2.length) (a4:=at0 h.length) s1 s3 (by omega) (fun b hb'=>(o2.lt hb').2) (N:=ls.length - 1) (by omega) (ls.length - 1) 0 h6 (at0 h2.length) [] (by omega) rfl (by omega) (o2.keepN k6).sl o6 (fun b hb'=>by rw [blk_at0] at hb'; omega) (fun x hx=>(by cases hx))
  have n7:=k7.1
  have k07 : KB NoB h h7:=kFresh (kN k02 k6) k7 fun i hi=>by omega
  have o17:=(o1'.keepN k6).keep k7 fun b hb' hk=>by rw [blk_at0] at hb'; omega
  cases hp : pcF ls (ls.length - 1) 0 [] with
  | none=>
   rw [hp] at m7
   refine ⟨at0 h.length,h7,start (ifF (by decide) (lets fun y ey=>?_)),o17,fl,fun x hx=>(by cases hx),k07⟩
   have ey2 : y = h6:=by rw [ey]; exact hh6
   subst ey2
   exact bs m7 (ifT rfl (bS rfl (bB rfl rfl)))
  | some o=>
   rw [hp] at m7
   obtain ⟨ao',y1,y2,y3,y4,y5⟩:=m7
   obtain ⟨h12,e12,k12⟩:=specCodeOk_run (base:=base) (fun x hx=>by have:=y4 x hx; omega) (by omega) y2.sl (by omega)
   simp only
   cases cc : codeOk o with
   | false=>
    rw [cc] at e12
    rw [if_neg (by decide)]
    refine ⟨at0 h.length,h12,start (ifF (by decide) (lets fun y ey=>?_)),o17.keepN k12,fl,fun x hx=>(by cases hx),kN k07 k12⟩
    have ey2 : y = h6:=by rw [ey]; exact hh6
    subst ey2
    exact bs y1 (ifF (show ¬ (2 : Nat) = 1 by decide) (ifT rfl (bS rfl (bS rfl (bs e12 (bB rfl (ifT rfl rfl)))))))
   | true=>
    rw [cc] at e12
    rw [if_pos rfl]
    refine ⟨ao',h12,start (ifF (by decide) (lets fun y ey=>?_)),y2.keepN k12,fun b hb'=>by have:=y3 b hb'; omega,y4,kN k07 k12⟩
    have ey2 : y = h6:=by rw [ey]; exact hh6
    subst ey2
    exact bs y1 (ifF (show ¬ (2 : Nat) = 1 by decide) (ifT rfl (bS rfl (bS rfl (bs e12 (bB rfl (ifF (by decide) rfl)))))))
theorem emp_size (s : ByteArray) : emp s = (s.size == 0):=by
 unfold emp
 rw [toList_data,toList_data]
 show (s.data.toList == []) = (s.size == 0)
 have : s.size = s.data.toList.length:=by simp
 rw [this]
 cases s.data.toList <;> rfl
def specB2 (x : In) (n : Int) : Bool:=
 inB n 1 200 && (inB x.op 1 20 && (regB (shp x.op) 65 x.a && (regB (shp x.op) 67 x.c && ((if (x.op == (11 : Int)) = true then inB x.b 1 6 else regB (shp x.op) 66 x.b) && ((if (x.op == (2 : Int)) = true then atomOk x.s else (x.s.size == 0)) && numB x n)))))
theorem specB2_eq (x : In) (n : Int) : specB2 x n = specB x n:=by
 unfold specB2 specB
 rw [emp_size]
def allIns2 (n : Int) : List In→Bool
 | []=>true
 | x :: r=>specB2 x n && allIns2 n r
theorem allIns2_eq (n : Int) : ∀ l,allIns2 n l = allIns n l
 | []=>rfl
 | x :: r=>by rw [allIns2,allIns,specB2_eq,allIns2_eq n r]
def codeOk2 (l : List In) : Bool:=inB (l.length : Int) 1 200 && ((lastOp l == (19 : Int) || lastOp l == (12 : Int)) && allIns2 (l.length : Int) l)
theorem codeOk2_eq (l : List In) : codeOk2 l = codeOk l:=by unfold codeOk2 codeOk; rw [allIns2_eq]
def parse2 (zs : List Int) : Bool:=((splitL zs 10).getD ((splitL zs 10).length - 1) []).isEmpty && (match pcF (splitL zs 10) ((splitL zs 10).length - 1) 0 [] with
  | some o=>codeOk2 o
  | none=>false)
theorem parse2_ok {zs : List Int} (h : parse2 zs = true) : (parseL zs).2 = true:=by
 unfold parse2 at h
 rw [Bool.and_eq_true] at h
 obtain ⟨h1,h2⟩:=h
 unfold parseL
 have e : (splitL zs 10).getD ((splitL zs 10).length - 1) [] = []:=List.isEmpty_iff.1 h1
 rw [e,if_neg (by rw [emp_size,bstr_size]; decide)]
 cases hp : pcF (splitL zs 10) ((splitL zs 10).length - 1) 0 [] with
 | none=>rw [hp] at h2; cases h2
 | some o=>
  rw [hp] at h2
  simp only at h2 ⊢
  rw [codeOk2_eq] at h2
  rw [if_pos h2]
theorem parse_ok {zs : List Int} (h : (parseL zs).2 = true) : codeOk (parseL zs).1 = true:=by
 unfold parseL at h ⊢
 split
 ·rename_i c; rw [if_pos c] at h; cases h
 ·rename_i c
  rw [if_neg c] at h
  split
  ·rename_i o ho
   rw [ho] at h
   simp only at h
   split
   ·rename_i c2; exact c2
   ·rename_i c2; rw [if_neg c2] at h; cases h
  ·rename_i ho
   rw [ho] at h
   cases h
def cdL : List ByteArray:=[⟨#[116,97,107,101,32,48,10,107,105,110,100,32,48,32,50,32,53,10,115,97,121,32,48,10,106,117,109,112,32,48,10,110,105,108,32,49,10,104,101,97,100,32,49,32,48,10,116,97,105,108,32,50,32,48,10,115,97,121,32,49,10,106,117,109,112,32,48,10]⟩,⟨#[116,97,107,101,32,48,10,115,101,108,102,32,49,10,105,110,116,32,50,32,49,10,116,117,112,108,101,32,51,32,48,32,51,10,101,108,101,109,32,52,32,51,32,50,10,97,100,100,32,53,32,52,32,50,10,115,97,121,32,51,10,115,97,109,101,32,48,32,49,32,49,48,10,115,101,110,100,32,49,32,53,10,106,117,109,112,32,48,10,115,101,110,100,32,48,32,51,10,106,117,109,112,32,48,10]⟩,⟨#[105,110,116,32,49,32,48,10,116,97,107,101,32,48,10,107,105,110,100,32,48,32,49,32,53,10,97,100,100,32,49,32,49,32,48,10,106,117,109,112,32,49,10,115,97,121,32,49,10,101,110,100,32,48,10]⟩,⟨#[116,97,107,101,32,48,10,109,97,107,101,32,49,32,48,32,52,10,108,105,110,107,32,49,10,106,117,109,112,32,48,10,115,101,108,102,32,50,10,115,97,121,32,48,10,116,97,107,101,32,51,10,101,110,100,32,51,10]⟩,⟨#[110,105,108,32,49,10,116,97,107,101,32,48,10,99,111,110,115,32,49,32,48,32,49,10,115,97,121,32,49,10,106,117,109,112,32,49,10]⟩,⟨#[116,97,107,101,32,48,10,101,110,100,32,48,10]⟩]
def czL : List (List Int):=[[116,97,107,101,32,48,10,107,105,110,100,32,48,32,50,32,53,10,115,97,121,32,48,10,106,117,109,112,32,48,10,110,105,108,32,49,10,104,101,97,100,32,49,32,48,10,116,97,105,108,32,50,32,48,10,115,97,121,32,49,10,106,117,109,112,32,48,10],[116,97,107,101,32,48,10,115,101,108,102,32,49,10,105,110,116,32,50,32,49,10,116,117,112,108,101,32,51,32,48,32,51,10,101,108,101,109,32,52,32,51,32,50,10,97,100,100,32,53,32,52,32,50,10,115,97,121,32,51,10,115,97,109,101,32,48,32,49,32,49,48,10,115,101,110,100,32,49,32,53,10,106,117,109,112,32,48,10,115,101,110,100,32,48,32,51,10,106,117,109,112,32,48,10],[105,110,116,32,49,32,48,10,116,97,107,101,32,48,10,107,105,110,100,32,48,32,49,32,53,10,97,100,100,32,49,32,49,32,48,10,106,117,109,112,32,49,10,115,97,121,32,49,10,101,110,100,32,48,10],[116,97,107,101,32,48,10,109,97,107,101,32,49,32,48,32,52,10,108,105,110,107,32,49,10,106,117,109,112,32,48,10,115,101,108,102,32,50,10,115,97,121,32,48,10,116,97,107,101,32,51,10,101,110,100,32,51,10],[110,105,108,32,49,10,116,97,107,101,32,48,10,99,111,110,115,32,49,32,48,32,49,10,115,97,121,32,49,10,106,117,109,112,32,49,10],[116,97,107,101,32,48,10,101,110,100,32,48,10]]
theorem cd_cz : cdL.map sb = czL:=by kernel_rfl
theorem cz_ok : czL.all parse2 = true:=by kernel_rfl
theorem cd_size : ∀ s∈cdL,s.size≤1048576:=by decide
theorem regB_of {s : ByteArray} {c z : Int} (h0 : 0≤z) (h1 : z < 8) : regB s c (if hasL s c = true then z else 0) = true:=by
 unfold regB
 cases h : hasL s c with
 | false=>rfl
 | true=>
  simp only [Bool.not_true,if_true,inB,Bool.and_eq_true,decide_eq_true_eq,Bool.false_eq_true,if_false]
  omega
theorem strs3_ok {s : ByteArray} (h : s∈([⟨#[111,107]⟩,⟨#[97]⟩,⟨#[98,97,100]⟩] : List ByteArray)) : atomOk s = true∧s.size≤12:=by
 have : ∀ s∈([⟨#[111,107]⟩,⟨#[97]⟩,⟨#[98,97,100]⟩] : List ByteArray),atomOk s = true∧s.size≤12:=by
  simp only [List.forall_mem_cons]
  exact ⟨⟨by decide,by decide⟩,⟨by decide,by decide⟩,⟨by decide,by decide⟩,fun _ h=>nomatch h⟩
 exact this s h
theorem l8Draw_run {base cb : Nat} {h : AH} {n : Int} (x : CurR base cb h) (hn0 : 1≤n) (hn : n≤200) : ∃ (y : In) (h' : AH),run (Et base) 171 [.pointer (at0 cb),.int .i64 n] h = some (.agg (inV y).toArray,h')∧specB y n = true∧CurR base cb h'∧KB (· = cb) h h':=by
 have hlt:=x.lt
 obtain ⟨o1,k1,q1⟩:=box_own (base:=base) (t:=143) (h:=h) (cs:=inV ⟨0,0,0,0,0,⟨#[]⟩⟩) (by omega) rfl
 generalize hh1 : h++[some (⟨inV ⟨0,0,0,0,0,⟨#[]⟩⟩,143⟩ : Blk)] = h1 at o1 k1 q1
 obtain ⟨z,h2,e2,z0,z1,_,x2,k2,l2⟩:=l1Below_run (n:=20) (x.keepN k1) (by omega)
 have z1:=z1 (by omega)
 obtain ⟨op,hop⟩ : ∃ op : Int,op = 1 + z:=⟨_,rfl⟩
 have hw : IntKind.wrap .i64 ((1 : Int) + z) = op:=by rw [hop]; exact w64i (by omega) (by omega)
 obtain ⟨o4,k4,q4⟩:=box_own (base:=base) (t:=143) (h:=h2) (cs:=inV ⟨0,0,0,0,0,⟨#[]⟩⟩) (by omega) rfl
 generalize hh4 : h2++[some (⟨inV ⟨0,0,0,0,0,⟨#[]⟩⟩,143⟩ : Blk)] = h4 at o4 k4 q4
 obtain ⟨h5,e5,o5,k5,l5⟩:=o4.wr0 (i:=0) (new:=inV ⟨op,0,0,0,0,⟨#[]⟩⟩) (by simp) (by simp)
 have hz5 : setAt (inV ⟨0,0,0,0,0,⟨#[]⟩⟩) 0 (inV ⟨op,0,0,0,0,⟨#[]⟩⟩) = inV ⟨op,0,0,0,0,⟨#[]⟩⟩:=rfl
 rw [hz5] at o5
 have k25 : KB NoB h2 h5:=kFresh k4 k5 fun b hb=>by omega
 obtain ⟨o6,k6,q6⟩:=box_own (base:=base) (t:=9) (h:=h5) (cs:=usesV) (by omega) rfl
 generalize hh6 : h5++[some (⟨usesV,9⟩ : Blk)] = h6 at o6 k6 q6
 have e6 : run (Et base) 181 [] h5 = some (.slice (at0 h5.length) 20 20,h6):=Am.r181 (lets fun y ey=>by
  have : y = h6:=ey.trans hh6
  rw [this])
 have gu : Am.cell h6 h5.length (0 + Int.toNat (op - 1) * 1) = some (.string (shp op)):=by
  rw [Nat.zero_add,Nat.mul_one]
  exact o6.at0 (uses_at (op:=op) (by omega))
 have hus : (shp op).size≤9223372036854775807:=by
  rcases op_cases (op:=op) (by omega) with e|e|e|e|e|e|e|e|e|e|e|e|e|e|e|e|e|e|e|e <;> rw [e] <;> decide
 have st : ∀ {hh : AH} {y : In} (j : Nat) (c : Int) (f : Int→In) (L : Slots),Own base 143 hh (at0 h2.length) (inV y)→Own base 143 hh (at0 h.length) (inV ⟨0,0,0,0,0,⟨#[]⟩⟩)→CurR base cb hh→KB (· = cb) h hh→(∀ z,setAt (inV y) j [.int .i64 z] = inV (f z))→j < 6 →
   ∃ hh' z,0≤z∧z < 4∧((run (Et base) 204 [(.string (shp op)),(.int .u8 c)] hh).bind fun r12=>
    ((some r12.1).bind getB).bind fun b13=>
    (if b13 = true then
    (run (Et base) 133 [(.pointer (at0 cb)),(.int .i64 (4 : Int))] r12.2).bind fun r14=>
    ((some r14.1).bind (getI .i64)).bind fun n15=>
    (Am.wr base r14.2 h2.length j [(.int .i64 n15)]).bind fun h16=>
    some (Sum.inl (L,h16))
    else
    some (Sum.inl (L,r12.2))) : Option (Sum (Slots × AH) (Value × AH))) = some (Sum.inl (L,hh'))∧Own base 143 hh' (at0 h2.length) (inV (if hasL (shp op) c = true then f z else y))∧Own base 143 hh' (at0 h.length) (inV ⟨0,0,0,0,0,⟨#[]⟩⟩)∧CurR base cb hh'∧KB (· = cb) h hh':=by
  intro hh y j c f L oy or_ xx kk hf hj
  have el:=l8Letter_run (base:=base) (h:=hh) (s:=shp op) (c:=c) hus
  cases hb : hasL (shp op) c with
  | false=>
   rw [hb] at el
   exact ⟨hh,0,by omega,by omega,bs el (bB rfl (ifF (by decide) rfl)),by rw [if_neg (by decide)]; exact oy,or_,xx,kk⟩
  | true=>
   rw [hb] at el
   obtain ⟨z,h3,e3,z0,z1,_,x3,k3,l3⟩:=l1Below_run (n:=4) xx (by omega)
   have z1:=z1 (by omega)
   obtain ⟨h4',e4',o4',k4',l4'⟩:=(oy.keep k3 fun b hb hk=>by rw [blk_at0] at hb; omega).wr0 (i:=j) (new:=[.int .i64 z]) (by simp; omega) (by simp)
   rw [hf] at o4'
   exact ⟨h4',z,z0,z1,bs el (bB rfl (ifT rfl (bs e3 (bI rfl (bs e4' rfl))))),by rw [if_pos rfl]; exact o4',(or_.keep k3 fun b hb hk=>by rw [blk_at0] at hb; omega).keep k4' fun b hb hk=>by rw [blk_at0] at hb; omega,x3.keep k4' fun b hb=>by omega,kCF (kC kk k3) k4' fun b hb=>by omega⟩
 have k05 : KB (· = cb) h h5:=KB.trans (kNB k1 k2) k25 (fun _ _ h=>h) (fun _ _ h=>h.elim)
 have k06 : KB (· = cb) h h6:=KB.trans k05 k6 (fun _ _ h=>h) (fun _ _ h=>h.elim)
 have or6:=(((o1.keep k2 fun b hb hk=>by rw [blk_at0] at hb; omega).keepN k25).keepN k6)
 obtain ⟨h11,za,a0,a1,ea,oa,ra,xa,ka⟩:=st (y:=⟨op,0,0,0,0,⟨#[]⟩⟩) 1 65 (fun z=>⟨op,z,0,0,0,⟨#[]⟩⟩) [some (.pointer (at0 cb)),some (.int .i64 n),some (.pointer (at0 h.length)),some (.pointer (at0 h2.length)),some (.string (shp op))] (o5.keepN k6) or6 ((x2.keepN k25).keepN k6) k06 (fun z=>rfl) (by decide)
 have oa' : Own base 143 h11 (at0 h2.length) (inV ⟨op,if hasL (shp op) 65 = true then za else 0,0,0,0,⟨#[]⟩⟩):=by
  cases hb : hasL (shp op) 65 <;> rw [hb] at oa <;> exact oa
 have rA:=regB_of (s:=shp op) (c:=65) a0 (by omega : za < 8)
 have rA2 : 0≤(if hasL (shp op) 65 = true then za else 0)∧(if hasL (shp op) 65 = true then za else 0) < 4:=by split <;> omega
 generalize (if hasL (shp op) 65 = true then za else 0) = A at oa' rA rA2
 obtain ⟨h22,zb,b0,b1,eb,ob,rb,xb,kb⟩:=st (y:=⟨op,A,0,0,0,⟨#[]⟩⟩) 2 66 (fun z=>⟨op,A,z,0,0,⟨#[]⟩⟩) [some (.pointer (at0 cb)),some (.int .i64 n),some (.pointer (at0 h.length)),some (.pointer (at0 h2.length)),some (.string (shp op))] oa' ra xa ka (fun z=>rfl) (by decide)
 have ob' : Own base 143 h22 (at0 h2.length) (inV ⟨op,A,if hasL (shp op) 66 = true then zb else 0,0,0,⟨#[]⟩⟩):=by
  cases hb : hasL (shp op) 66 <;> rw [hb] at ob <;> exact ob
 have rB:=regB_of (s:=shp op) (c:=66) b0 (by omega : zb < 8)
 have rB2 : 0≤(if hasL (shp op) 66 = true then zb else 0)∧(if hasL (shp op) 66 = true then zb else 0) < 4:=by split <;> omega
 generalize (if hasL (shp op) 66 = true then zb else 0) = B at ob' rB rB2
 obtain ⟨h33,zc,c0,c1,ec,oc,rc,xc,kc⟩:=st (y:=⟨op,A,B,0,0,⟨#[]⟩⟩) 3 67 (fun z=>⟨op,A,B,z,0,⟨#[]⟩⟩) [some (.pointer (at0 cb)),some (.int .i64 n),some (.pointer (at0 h.length)),some (.pointer (at0 h2.length))] ob' rb xb kb (fun z=>rfl) (by decide)
 have oc' : Own base 143 h33 (at0 h2.length) (inV ⟨op,A,B,if hasL (shp op) 67 = true then zc else 0,0,⟨#[]⟩⟩):=by
  cases hb : hasL (shp op) 67 <;> rw [hb] at oc <;> exact oc
 have rC:=regB_of (s:=shp op) (c:=67) c0 (by omega : zc < 8)
 generalize (if hasL (shp op) 67 = true then zc else 0) = C at oc' rC
 have start : ∀ {q : Slots × AH} {r : Value × AH},(((((Am.cell h33 h2.length (0 + 0)).bind (getI .i64)).bind fun n44=>
   (if (n44 == (1 : Int)) = true then
   (some (h33++[some ⟨[(.int .i64 (0 : Int)),(.int .i64 (1 : Int)),(.int .i64 (-1 : Int)),(.int .i64 (1000000 : Int))],3⟩])).bind fun h45=>
   (run (Et base) 135 [(.pointer (at0 cb)),(.slice (some ⟨(List.length h33),0,none⟩) 4 4)] h45).bind fun r46=>
   ((some r46.1).bind (getI .i64)).bind fun n47=>
   (Am.wr base r46.2 h2.length (0 + 4) [(.int .i64 n47)]).bind fun h48=>
   some (.inl ([some (.pointer (some ⟨h.length,0,none⟩)),some (.pointer (some ⟨h2.length,0,none⟩))],h48))
   else
   (if (n44 == (2 : Int)) = true then
   (some (h33++[some ⟨[(.string (⟨#[111,107]⟩ : ByteArray)),(.string (⟨#[97]⟩ : ByteArray)),(.string (⟨#[98,97,100]⟩ : ByteArray))],9⟩])).bind fun h49=>
   (run (Et base) 172 [(.pointer (at0 cb)),(.slice (some ⟨(List.length h33),0,none⟩) 3 3)] h49).bind fun r50=>
   ((some r50.1).bind getStr).bind fun s51=>
   (Am.wr base r50.2 h2.length (0 + 5) [(.string s51)]).bind fun h52=>
   some (.inl ([some (.pointer (some ⟨h.length,0,none⟩)),some (.pointer (some ⟨h2.length,0,none⟩))],h52))
   else
   ((if (n44 == (4 : Int)) = true then
   some (.inl ([some (.pointer (at0 cb)),some (.int .i64 n),some (.pointer (some ⟨h.length,0,none⟩)),some (.pointer (some ⟨h2.length,0,none⟩)),some (.int .i64 n44),some (.bool (n44 == (4 : Int)))],h33))
   else
   some (.inl ([some (.pointer (at0 cb)),some (.int .i64 n),some (.pointer (some ⟨h.length,0,none⟩)),some (.pointer (some ⟨h2.length,0,none⟩)),some (.int .i64 n44),some (.bool (n44 == (6 : Int)))],h33))) : Option (Sum (Slots × AH) (Sum (Slots × AH) (Value × AH)))).bind fun j53=>joinK j53 fun j53=>
   ((sget j53.1 0).bind getP).bind fun p54=>
   ((sget (j53.1.tail) 0).bind (getI .i64)).bind fun n55=>
   ((sget (j53.1.tail.tail) 0).bind getA).bind fun d56=>
   ((sget (j53.1.tail.tail.tail) 0).bind getA).bind fun d57=>
   ((sget (j53.1.tail.tail.tail.tail) 0).bind (getI .i64)).bind fun n58=>
   ((sget (j53.1.tail.tail.tail.tail.tail) 0).bind getB).bind fun b59=>
   (if b59 = true then
   (run (Et base) 133 [(.pointer p54),(.int .i64 (4 : Int))] j53.2).bind fun r60=>
   ((some r60.1).bind (getI .i64)).bind fun n61=>
   (Am.wr base r60.2 d57.block (d57.off + 4) [(.int .i64 n61)]).bind fun h62=>
   some (.inl ([some (.pointer (some d56)),some (.pointer (some d57))],h62))
   else
   (if (n58 == (11 : Int)) = true then
   (run (Et base) 133 [(.pointer p54),(.int .i64 (6 : Int))] j53.2).bind fun r63=>
   ((some r63.1).bind (getI .i64)).bind fun n64=>
   (Am.wr base r63.2 d57.block (d57.off + 2) [(.int .i64 (IntKind.wrap .i64 ((1 : Int) + n64)))]).bind fun h65=>
   (run (Et base) 133 [(.pointer p54),(.int .i64 n55)] h65).bind fun r66=>
   ((some r66.1).bind (getI .i64)).bind fun n67=>
   (Am.wr base r66.2 d57.block (d57.off + 4) [(.int .i64 n67)]).bind fun h68=>
   some (.inl ([some (.pointer (some d56)),some (.pointer (some d57))],h68))
   else
   ((if (n58 == (10 : Int)) = true then
   some (.inl ([some (.pointer p54),some (.int .i64 n55),some (.pointer (some d56)),some (.pointer (some d57)),some (.bool (n58 == (10 : Int)))],j53.2))
   else
   (if (n58 == (12 : Int)) = true then
   some (.inl ([some (.pointer p54),some (.int .i64 n55),some (.pointer (some d56)),some (.pointer (some d57)),some (.bool (n58 == (12 : Int)))],j53.2))
   else
   some (.inl ([some (.pointer p54),some (.int .i64 n55),some (.pointer (some d56)),some (.pointer (some d57)),some (.bool (n58 == (16 : Int)))],j53.2)))) : Option (Sum (Slots × AH) (Sum (Slots × AH) (Value × AH)))).bind fun j69=>joinK j69 fun j69=>
   ((sget j69.1 0).bind getP).bind fun p70=>
   ((sget (j69.1.tail) 0).bind (getI .i64)).bind fun n71=>
   ((sget (j69.1.tail.tail) 0).bind getA).bind fun d72=>
   ((sget (j69.1.tail.tail.tail) 0).bind getA).bind fun d73=>
   ((sget (j69.1.tail.tail.tail.tail) 0).bind getB).bind fun b74=>
   (if b74 = true then
   (run (Et base) 133 [(.pointer p70),(.int .i64 n71)] j69.2).bind fun r75=>
   ((some r75.1).bind (getI .i64)).bind fun n76=>
   (Am.wr base r75.2 d73.block (d73.off + 4) [(.int .i64 n76)]).bind fun h77=>
   some (.inl ([some (.pointer (some d72)),some (.pointer (some d73))],h77))
   else
   some (.inl ([some (.pointer (some d72)),some (.pointer (some d73))],j69.2)))))))) : Option (Sum (Slots × AH) (Value × AH))) = some (Sum.inl q))→((((sget q.1 0).bind getA).bind fun d78=>
   ((sget (q.1.tail) 0).bind getA).bind fun d79=>
   ((Am.cell q.2 d79.block d79.off).bind (getI .i64)).bind fun n80=>
   ((Am.cell q.2 d79.block (d79.off + 1)).bind (getI .i64)).bind fun n81=>
   ((Am.cell q.2 d79.block ((d79.off + 1) + 1)).bind (getI .i64)).bind fun n82=>
   ((Am.cell q.2 d79.block (((d79.off + 1) + 1) + 1)).bind (getI .i64)).bind fun n83=>
   ((Am.cell q.2 d79.block ((((d79.off + 1) + 1) + 1) + 1)).bind (getI .i64)).bind fun n84=>
   ((Am.cell q.2 d79.block (((((d79.off + 1) + 1) + 1) + 1) + 1)).bind getStr).bind fun s85=>
   (Am.wr base q.2 d78.block d78.off [(.int .i64 n80),(.int .i64 n81),(.int .i64 n82),(.int .i64 n83),(.int .i64 n84),(.string s85)]).bind fun h86=>
   ((Am.cell h86 d78.block d78.off).bind (getI .i64)).bind fun n87=>
   ((Am.cell h86 d78.block (d78.off + 1)).bind (getI .i64)).bind fun n88=>
   ((Am.cell h86 d78.block ((d78.off + 1) + 1)).bind (getI .i64)).bind fun n89=>
   ((Am.cell h86 d78.block (((d78.off + 1) + 1) + 1)).bind (getI .i64)).bind fun n90=>
   ((Am.cell h86 d78.block ((((d78.off + 1) + 1) + 1) + 1)).bind (getI .i64)).bind fun n91=>
   ((Am.cell h86 d78.block (((((d78.off + 1) + 1) + 1) + 1) + 1)).bind getStr).bind fun s92=>
   some (Value.agg #[(.int .i64 n87),(.int .i64 n88),(.int .i64 n89),(.int .i64 n90),(.int .i64 n91),(.string s92)],h86)) = some r)→run (Et base) 171 [.pointer (at0 cb),.int .i64 n] h = some r:=by
  intro q r hq hr
  refine Am.r171 (lets fun y ey=>?_)
  rw [hh1] at ey
  subst ey
  refine bs e2 (bI rfl (lets fun y ey=>?_))
  rw [hh4] at ey
  subst ey
  rw [hw]
  refine bs e5 (bs e6 (bS rfl ?_))
  rw [gate_pos (same_keep k6 (o5.at0 (i:=0) rfl))]
  refine bI ((o5.keepN k6).at0 (i:=0) rfl) ?_
  rw [w64i (n:=op - 1) (by omega) (by omega)]
  refine ifT ⟨by omega,by omega⟩ (bs rfl (bT gu ?_))
  refine bj _ ea (bs rfl (bI rfl (bs rfl (bs rfl (bT rfl ?_)))))
  refine bj _ eb (bs rfl (bI rfl (bs rfl (bs rfl (bT rfl ?_)))))
  refine bj _ ec (bs rfl (bI rfl (bs rfl (bs rfl ?_))))
  exact bj _ hq hr
 have fin : ∀ {hj : AH} {y : In} {S : Nat→Prop},(((((Am.cell h33 h2.length (0 + 0)).bind (getI .i64)).bind fun n44=>
   (if (n44 == (1 : Int)) = true then
   (some (h33++[some ⟨[(.int .i64 (0 : Int)),(.int .i64 (1 : Int)),(.int .i64 (-1 : Int)),(.int .i64 (1000000 : Int))],3⟩])).bind fun h45=>
   (run (Et base) 135 [(.pointer (at0 cb)),(.slice (some ⟨(List.length h33),0,none⟩) 4 4)] h45).bind fun r46=>
   ((some r46.1).bind (getI .i64)).bind fun n47=>
   (Am.wr base r46.2 h2.length (0 + 4) [(.int .i64 n47)]).bind fun h48=>
   some (.inl ([some (.pointer (some ⟨h.length,0,none⟩)),some (.pointer (some ⟨h2.length,0,none⟩))],h48))
   else
   (if (n44 == (2 : Int)) = true then
   (some (h33++[some ⟨[(.string (⟨#[111,107]⟩ : ByteArray)),(.string (⟨#[97]⟩ : ByteArray)),(.string (⟨#[98,97,100]⟩ : ByteArray))],9⟩])).bind fun h49=>
   (run (Et base) 172 [(.pointer (at0 cb)),(.slice (some ⟨(List.length h33),0,none⟩) 3 3)] h49).bind fun r50=>
   ((some r50.1).bind getStr).bind fun s51=>
   (Am.wr base r50.2 h2.length (0 + 5) [(.string s51)]).bind fun h52=>
   some (.inl ([some (.pointer (some ⟨h.length,0,none⟩)),some (.pointer (some ⟨h2.length,0,none⟩))],h52))
   else
   ((if (n44 == (4 : Int)) = true then
   some (.inl ([some (.pointer (at0 cb)),some (.int .i64 n),some (.pointer (some ⟨h.length,0,none⟩)),some (.pointer (some ⟨h2.length,0,none⟩)),some (.int .i64 n44),some (.bool (n44 == (4 : Int)))],h33))
   else
   some (.inl ([some (.pointer (at0 cb)),some (.int .i64 n),some (.pointer (some ⟨h.length,0,none⟩)),some (.pointer (some ⟨h2.length,0,none⟩)),some (.int .i64 n44),some (.bool (n44 == (6 : Int)))],h33))) : Option (Sum (Slots × AH) (Sum (Slots × AH) (Value × AH)))).bind fun j53=>joinK j53 fun j53=>
   ((sget j53.1 0).bind getP).bind fun p54=>
   ((sget (j53.1.tail) 0).bind (getI .i64)).bind fun n55=>
   ((sget (j53.1.tail.tail) 0).bind getA).bind fun d56=>
   ((sget (j53.1.tail.tail.tail) 0).bind getA).bind fun d57=>
   ((sget (j53.1.tail.tail.tail.tail) 0).bind (getI .i64)).bind fun n58=>
   ((sget (j53.1.tail.tail.tail.tail.tail) 0).bind getB).bind fun b59=>
   (if b59 = true then
   (run (Et base) 133 [(.pointer p54),(.int .i64 (4 : Int))] j53.2).bind fun r60=>
   ((some r60.1).bind (getI .i64)).bind fun n61=>
   (Am.wr base r60.2 d57.block (d57.off + 4) [(.int .i64 n61)]).bind fun h62=>
   some (.inl ([some (.pointer (some d56)),some (.pointer (some d57))],h62))
   else
   (if (n58 == (11 : Int)) = true then
   (run (Et base) 133 [(.pointer p54),(.int .i64 (6 : Int))] j53.2).bind fun r63=>
   ((some r63.1).bind (getI .i64)).bind fun n64=>
   (Am.wr base r63.2 d57.block (d57.off + 2) [(.int .i64 (IntKind.wrap .i64 ((1 : Int) + n64)))]).bind fun h65=>
   (run (Et base) 133 [(.pointer p54),(.int .i64 n55)] h65).bind fun r66=>
   ((some r66.1).bind (getI .i64)).bind fun n67=>
   (Am.wr base r66.2 d57.block (d57.off + 4) [(.int .i64 n67)]).bind fun h68=>
   some (.inl ([some (.pointer (some d56)),some (.pointer (some d57))],h68))
   else
   ((if (n58 == (10 : Int)) = true then
   some (.inl ([some (.pointer p54),some (.int .i64 n55),some (.pointer (some d56)),some (.pointer (some d57)),some (.bool (n58 == (10 : Int)))],j53.2))
   else
   (if (n58 == (12 : Int)) = true then
   some (.inl ([some (.pointer p54),some (.int .i64 n55),some (.pointer (some d56)),some (.pointer (some d57)),some (.bool (n58 == (12 : Int)))],j53.2))
   else
   some (.inl ([some (.pointer p54),some (.int .i64 n55),some (.pointer (some d56)),some (.pointer (some d57)),some (.bool (n58 == (16 : Int)))],j53.2)))) : Option (Sum (Slots × AH) (Sum (Slots × AH) (Value × AH)))).bind fun j69=>joinK j69 fun j69=>
   ((sget j69.1 0).bind getP).bind fun p70=>
   ((sget (j69.1.tail) 0).bind (getI .i64)).bind fun n71=>
   ((sget (j69.1.tail.tail) 0).bind getA).bind fun d72=>
   ((sget (j69.1.tail.tail.tail) 0).bind getA).bind fun d73=>
   ((sget (j69.1.tail.tail.tail.tail) 0).bind getB).bind fun b74=>
   (if b74 = true then
   (run (Et base) 133 [(.pointer p70),(.int .i64 n71)] j69.2).bind fun r75=>
   ((some r75.1).bind (getI .i64)).bind fun n76=>
   (Am.wr base r75.2 d73.block (d73.off + 4) [(.int .i64 n76)]).bind fun h77=>
   some (.inl ([some (.pointer (some d72)),some (.pointer (some d73))],h77))
   else
   some (.inl ([some (.pointer (some d72)),some (.pointer (some d73))],j69.2)))))))) : Option (Sum (Slots × AH) (Value × AH))) = some (Sum.inl ([some (.pointer (at0 h.length)),some (.pointer (at0 h2.length))],hj)))→Own base 143 hj (at0 h2.length) (inV y)→KB S h33 hj→(∀ b,S b→b = cb∨b = h2.length)→CurR base cb hj→specB y n = true→∃ (y : In) (h' : AH),run (Et base) 171 [.pointer (at0 cb),.int .i64 n] h = some (.agg (inV y).toArray,h')∧specB y n = true∧CurR base cb h'∧KB (· = cb) h h':=by
  intro hj y S ej oj kj hS xj hy
  obtain ⟨h86,e86,o86,k86,l86⟩:=(rc.keep kj fun b hb hk=>by rw [blk_at0] at hb; have:=hS b hk; omega).wr0 (i:=0) (new:=inV y) (by simp) (by simp)
  have hz86 : setAt (inV ⟨0,0,0,0,0,⟨#[]⟩⟩) 0 (inV y) = inV y:=rfl
  rw [hz86] at o86
  exact ⟨y,h86,start ej (bs rfl (bs rfl (qi oj (bs e86 (qi o86 rfl))))),hy,xj.keep k86 fun b hb=>by omega,kCF (KB.trans kc kj (fun _ _ h=>h) (fun b hb hk=>by have:=hS b hk; omega)) k86 fun b hb=>by omega⟩
 have inN : inB n 1 200 = true:=by simp only [inB,Bool.and_eq_true,decide_eq_true_eq]; omega
 have inO : inB op 1 20 = true:=by simp only [inB,Bool.and_eq_true,decide_eq_true_eq]; omega
 have g0:=oc'.at0 (i:=0) rfl
 have w33 : ∀ b,blk (at0 h2.length) b→b≠cb:=fun b hb=>by rw [blk_at0] at hb; omega
 by_cases d1 : op = 1
 ·obtain ⟨o45,k45,q45⟩:=box_own (base:=base) (t:=3) (h:=h33) (cs:=iv .i64 [0,1,-1,1000000]) (by have:=oc'.lt (blk_at0.2 rfl); omega) rfl
  generalize hh45 : h33++[some (⟨iv .i64 [0,1,-1,1000000],3⟩ : Blk)] = h45 at o45 k45 q45
  obtain ⟨v,h46,e46,hv,x46,k46,l46⟩:=l1Int_run (xc.keepN k45) o45.sl (fun b hb=>by rw [blk_at0] at hb; have:=xc.lt; omega) (by simp) (by simp)
  obtain ⟨h48,e48,o48,k48,l48⟩:=((oc'.keepN k45).keep k46 fun b hb hk=>w33 b hb hk).wr0 (i:=4) (new:=[.int .i64 v]) (by simp) (by simp)
  have hz48 : setAt (inV ⟨op,A,B,C,0,⟨#[]⟩⟩) 4 [.int .i64 v] = inV ⟨op,A,B,C,v,⟨#[]⟩⟩:=rfl
  rw [hz48] at o48
  refine fin (bI g0 (ifT (by simpa using d1) (lets fun y ey=>?_))) o48 (KB.trans (T:=fun b=>b = cb∨b = h2.length) (kNB k45 k46) k48 (fun _ _ h=>.inl h) (fun _ _ h=>.inr h)) (fun b h=>h) (x46.keep k48 fun b hb=>by omega) ?_
  ·have ey2 : y = h45:=by rw [ey]; exact hh45
   subst ey2
   exact bs e46 (bI rfl (bs e48 rfl))
  ·unfold specB
   simp only [inN,inO,rA,rC,rB,Bool.true_and]
   have hvb : inB v (-1000000) 1000000 = true:=by
    simp only [List.mem_cons,List.not_mem_nil,or_false] at hv
    rcases hv with rfl|rfl|rfl|rfl <;> decide
   subst d1
   unfold numB
   simp [hvb,emp]
 by_cases d2 : op = 2
 ·obtain ⟨o45,k45,q45⟩:=box_own (base:=base) (t:=9) (h:=h33) (cs:=[⟨#[111,107]⟩,⟨#[97]⟩,⟨#[98,97,100]⟩].map Value.string) (by have:=oc'.lt (blk_at0.2 rfl); omega) rfl
  generalize hh45 : h33++[some (⟨[⟨#[111,107]⟩,⟨#[97]⟩,⟨#[98,97,100]⟩].map Value.string,9⟩ : Blk)] = h45 at o45 k45 q45
  obtain ⟨v,h46,e46,hv,x46,k46,l46⟩:=l1Str_run (xc.keepN k45) o45.sl (fun b hb=>by rw [blk_at0] at hb; have:=xc.lt; omega) (by simp) (by simp)
  obtain ⟨h48,e48,o48,k48,l48⟩:=((oc'.keepN k45).keep k46 fun b hb hk=>w33 b hb hk).wr0 (i:=5) (new:=[.string v]) (by simp) (by simp)
  have hz48 : setAt (inV ⟨op,A,B,C,0,⟨#[]⟩⟩) 5 [.string v] = inV ⟨op,A,B,C,0,v⟩:=rfl
  rw [hz48] at o48
  refine fin (bI g0 (ifF (by simpa using d1) (ifT (by simpa using d2) (lets fun y ey=>?_)))) o48 (KB.trans (T:=fun b=>b = cb∨b = h2.length) (kNB k45 k46) k48 (fun _ _ h=>.inl h) (fun _ _ h=>.inr h)) (fun b h=>h) (x46.keep k48 fun b hb=>by omega) ?_
  ·have ey2 : y = h45:=by rw [ey]; exact hh45
   subst ey2
   exact bs e46 (bT rfl (bs e48 rfl))
  ·unfold specB
   simp only [inN,inO,rA,rC,rB,Bool.true_and]
   have hva:=(strs3_ok hv).1
   subst d2
   unfold numB
   simp [hva]
 have pre : ∀ {X : Option (Sum (Slots × AH) (Value × AH))} {r : Sum (Slots × AH) (Value × AH)} {F : Int→Option (Sum (Slots × AH) (Value × AH))},True:=fun {_ _ _}=>trivial
 have j53 : ((if (op == (4 : Int)) = true then
   some (Sum.inl ([some (.pointer (at0 cb)),some (.int .i64 n),some (.pointer (at0 h.length)),some (.pointer (at0 h2.length)),some (.int .i64 op),some (.bool (op == (4 : Int)))],h33))
   else
   some (.inl ([some (.pointer (at0 cb)),some (.int .i64 n),some (.pointer (at0 h.length)),some (.pointer (at0 h2.length)),some (.int .i64 op),some (.bool (op == (6 : Int)))],h33)) : Option (Sum (Slots × AH) (Sum (Slots × AH) (Value × AH))))) = some (.inl ([some (.pointer (at0 cb)),some (.int .i64 n),some (.pointer (at0 h.length)),some (.pointer (at0 h2.length)),some (.int .i64 op),some (.bool (op == (4 : Int) || op == (6 : Int)))],h33)):=by
  by_cases c : op = 4
  ·refine ifT (by simpa using c) ?_
   rw [beq_iff_eq.2 c]
   rfl
  ·refine ifF (by simpa using c) ?_
   rw [beq_eq_false_iff_ne.2 c]
   rfl
 have j69 : ((if (op == (10 : Int)) = true then
   some (Sum.inl ([some (.pointer (at0 cb)),some (.int .i64 n),some (.pointer (at0 h.length)),some (.pointer (at0 h2.length)),some (.bool (op == (10 : Int)))],h33))
   else
   (if (op == (12 : Int)) = true then
   some (.inl ([some (.pointer (at0 cb)),some (.int .i64 n),some (.pointer (at0 h.length)),some (.pointer (at0 h2.length)),some (.bool (op == (12 : Int)))],h33))
   else
   some (.inl ([some (.pointer (at0 cb)),some (.int .i64 n),some (.pointer (at0 h.length)),some (.pointer (at0 h2.length)),some (.bool (op == (16 : Int)))],h33))) : Option (Sum (Slots × AH) (Sum (Slots × AH) (Value × AH))))) = some (.inl ([some (.pointer (at0 cb)),some (.int .i64 n),some (.pointer (at0 h.length)),some (.pointer (at0 h2.length)),some (.bool (op == (10 : Int) || (op == (12 : Int) || op == (16 : Int))))],h33)):=by
  by_cases c : op = 10
  ·refine ifT (by simpa using c) ?_
   rw [beq_iff_eq.2 c]
   rfl
  ·refine ifF (by simpa using c) ?_
   rw [beq_eq_false_iff_ne.2 c]
   by_cases c2 : op = 12
   ·refine ifT (by simpa using c2) ?_
    rw [beq_iff_eq.2 c2]
    rfl
   ·refine ifF (by simpa using c2) ?_
    rw [beq_eq_false_iff_ne.2 c2]
    rfl
 by_cases d3 : (op == (4 : Int) || op == (6 : Int)) = true
 ·obtain ⟨v,h60,e60,v0,v1,_,x60,k60,l60⟩:=l1Below_run (n:=4) xc (by omega)
  have v1:=v1 (by omega)
  obtain ⟨h62,e62,o62,k62,l62⟩:=(oc'.keep k60 fun b hb hk=>w33 b hb hk).wr0 (i:=4) (new:=[.int .i64 v]) (by simp) (by simp)
  have hz62 : setAt (inV ⟨op,A,B,C,0,⟨#[]⟩⟩) 4 [.int .i64 v] = inV ⟨op,A,B,C,v,⟨#[]⟩⟩:=rfl
  rw [hz62] at o62
  rw [d3] at j53
  refine fin (bI g0 (ifF (by simpa using d1) (ifF (by simpa using d2) (bj _ j53 (bs rfl (bI rfl (bs rfl (bs rfl (bI rfl (bB rfl (ifT rfl (bs e60 (bI rfl (bs e62 rfl))))))))))))))  o62 (KB.trans (T:=fun b=>b = cb∨b = h2.length) k60 k62 (fun _ _ h=>.inl h) (fun _ _ h=>.inr h)) (fun b h=>h) (x60.keep k62 fun b hb=>by omega) ?_
  unfold specB
  simp only [inN,inO,rA,rC,rB,Bool.true_and]
  have n8 : inB v 0 8 = true:=by simp only [inB,Bool.and_eq_true,decide_eq_true_eq]; omega
  have n7 : inB v 0 7 = true:=by simp only [inB,Bool.and_eq_true,decide_eq_true_eq]; omega
  have hwv : IntKind.wrap .i64 (B + v)≤8:=by rw [w64i (by omega) (by omega)]; omega
  simp only [Bool.or_eq_true,beq_iff_eq] at d3
  rcases d3 with d3|d3 <;> subst d3 <;> unfold numB <;> simp [n8,n7,hwv,emp]
 have d3' : (op == (4 : Int) || op == (6 : Int)) = false:=by simpa using d3
 rw [d3'] at j53
 simp only [Bool.or_eq_false_iff,beq_eq_false_iff_ne] at d3'
 by_cases d4 : op = 11
 ·obtain ⟨v,h63,e63,v0,v1,_,x63,k63,l63⟩:=l1Below_run (n:=6) xc (by omega)
  have v1:=v1 (by omega)
  obtain ⟨h65,e65,o65,k65,l65⟩:=(oc'.keep k63 fun b hb hk=>w33 b hb hk).wr0 (i:=2) (new:=[.int .i64 (1 + v)]) (by simp) (by simp)
  have hz65 : setAt (inV ⟨op,A,B,C,0,⟨#[]⟩⟩) 2 [.int .i64 (1 + v)] = inV ⟨op,A,1 + v,C,0,⟨#[]⟩⟩:=rfl
  rw [hz65] at o65
  obtain ⟨u,h66,e66,u0,u1,_,x66,k66,l66⟩:=l1Below_run (n:=n) (x63.keep k65 fun b hb=>by omega) (by omega)
  have u1:=u1 (by omega)
  obtain ⟨h68,e68,o68,k68,l68⟩:=(o65.keep k66 fun b hb hk=>w33 b hb hk).wr0 (i:=4) (new:=[.int .i64 u]) (by simp) (by simp)
  have hz68 : setAt (inV ⟨op,A,1 + v,C,0,⟨#[]⟩⟩) 4 [.int .i64 u] = inV ⟨op,A,1 + v,C,u,⟨#[]⟩⟩:=rfl
  rw [hz68] at o68
  have kk : KB (fun b=>b = cb∨b = h2.length) h33 h68:=KB.trans (KB.trans (T:=fun b=>b = cb∨b = h2.length) k63 k65 (fun _ _ h=>.inl h) (fun _ _ h=>.inr h)) (KB.trans (T:=fun b=>b = cb∨b = h2.length) k66 k68 (fun _ _ h=>.inl h) (fun _ _ h=>.inr h)) (fun _ _ h=>h) (fun _ _ h=>h)
  refine fin (bI g0 (ifF (by simpa using d1) (ifF (by simpa using d2) (bj _ j53 (bs rfl (bI rfl (bs rfl (bs rfl (bI rfl (bB rfl (ifF (by decide) (ifT (by simpa using d4) (bs e63 (bI rfl ?_))))))))))))))  o68 kk (fun b h=>h) (x66.keep k68 fun b hb=>by omega) ?_
  ·rw [w64i (by omega) (by omega)]
   exact bs e65 (bs e66 (bI rfl (bs e68 rfl)))
  ·unfold specB
   simp only [inN,inO,rA,rC,Bool.true_and]
   have n8 : inB (1 + v) 1 6 = true:=by simp only [inB,Bool.and_eq_true,decide_eq_true_eq]; omega
   subst d4
   unfold numB
   simp [n8,emp,u0,u1]
 by_cases d5 : (op == (10 : Int) || (op == (12 : Int) || op == (16 : Int))) = true
 ·obtain ⟨u,h66,e66,u0,u1,_,x66,k66,l66⟩:=l1Below_run (n:=n) xc (by omega)
  have u1:=u1 (by omega)
  obtain ⟨h68,e68,o68,k68,l68⟩:=(oc'.keep k66 fun b hb hk=>w33 b hb hk).wr0 (i:=4) (new:=[.int .i64 u]) (by simp) (by simp)
  have hz68 : setAt (inV ⟨op,A,B,C,0,⟨#[]⟩⟩) 4 [.int .i64 u] = inV ⟨op,A,B,C,u,⟨#[]⟩⟩:=rfl
  rw [hz68] at o68
  rw [d5] at j69
  refine fin (bI g0 (ifF (by simpa using d1) (ifF (by simpa using d2) (bj _ j53 (bs rfl (bI rfl (bs rfl (bs rfl (bI rfl (bB rfl (ifF (by decide) (ifF (by simpa using d4) (bj _ j69 (bs rfl (bI rfl (bs rfl (bs rfl (bB rfl (ifT rfl (bs e66 (bI rfl (bs e68 rfl)))))))))))))))))))))) o68 (KB.trans (T:=fun b=>b = cb∨b = h2.length) k66 k68 (fun _ _ h=>.inl h) (fun _ _ h=>.inr h)) (fun b h=>h) (x66.keep k68 fun b hb=>by omega) ?_
  unfold specB
  simp only [inN,inO,rA,rC,rB,Bool.true_and]
  simp only [Bool.or_eq_true,beq_iff_eq] at d5
  rcases d5 with d5|d5|d5 <;> subst d5 <;> unfold numB <;> simp [emp,u0,u1]
 ·have d5' : (op == (10 : Int) || (op == (12 : Int) || op == (16 : Int))) = false:=by simpa using d5
  rw [d5'] at j69
  refine fin (bI g0 (ifF (by simpa using d1) (ifF (by simpa using d2) (bj _ j53 (bs rfl (bI rfl (bs rfl (bs rfl (bI rfl (bB rfl (ifF (by decide) (ifF (by simpa using d4) (bj _ j69 (bs rfl (bI rfl (bs rfl (bs rfl (bB rfl (ifF (by decide) rfl))))))))))))))))))) oc' (KB.refl NoB h33) (fun b h=>h.elim) xc ?_
  unfold specB
  simp only [inN,inO,rA,rC,rB,Bool.true_and]
  simp only [Bool.or_eq_false_iff,beq_eq_false_iff_ne] at d5'
  obtain ⟨d51,d52,d53⟩:=d5'
  obtain ⟨d31,d32⟩:=d3'
  unfold numB
  simp [d1,d2,d31,d32,d4,d51,d52,d53,emp]
theorem allIns_of {n : Int} : ∀ {l : List In},(∀ x∈l,specB x n = true)→allIns n l = true
 | [],_=>rfl
 | x :: r,h=>by
  rw [allIns,h x (List.mem_cons_self ..),allIns_of fun y hy=>h y (List.mem_cons_of_mem _ hy)]
  rfl
theorem code_loop {base cb lo : Nat} (hcb : cb < lo) (hlo : base≤lo) {n : Int} (hn0 : 1≤n) (hn : n≤12) : ∀ (d i : Nat) (h : AH) (ao : Option Addr) (acc : List In),(i : Int) + 1 + (d : Int) = n→CurR base cb h→lo≤h.length→Own base 143 h ao (insR acc)→(∀ b,blk ao b→lo≤b)→acc.length = i→(∀ x∈acc,specB x n = true) →
  ∃ h' ao' acc',loopL (B131_0 base) [some (.pointer (at0 cb)),some (.int .i64 n),some (.slice ao acc.length acc.length),some (.int .i64 (i : Int))] h = some (2,[some (.pointer (at0 cb)),some (.int .i64 n),some (.slice ao' (List.length acc') (List.length acc'))],h')∧CurR base cb h'∧Own base 143 h' ao' (insR acc')∧(∀ b,blk ao' b→lo≤b)∧((acc'.length : Nat) : Int) + 1 = n∧(∀ x∈acc',specB x n = true)∧KB (fun b=>b = cb∨lo≤b) h h':=by
 intro d
 induction d with
 | zero=>
  intro i h ao acc hi x hlh ow hao ha hs
  refine ⟨h,ao,acc,loop_off (by decide) ?_,x,ow,hao,by omega,hs,KB.refl _ _⟩
  rw [B131_0_eq]
  rw [w64i (n:=(i : Int) + 1) (by omega) (by omega)]
  exact ifF (by simp; omega) rfl
 | succ d ih=>
  intro i h ao acc hi x hlh ow hao ha hs
  obtain ⟨y,h1,e1,hy,x1,k1⟩:=l8Draw_run (n:=n) x hn0 (by omega)
  have n1:=k1.1
  have ow1:=ow.keep k1 fun b hb hk=>by have:=hao b hb; omega
  obtain ⟨a6,h6,e6,o6,k6,b6,n6⟩:=Am.app1 (bytes:=56) ow1 (n:=acc.length) (sz:=6) (cs:=inV y) (insR_len acc) rfl (by decide) rfl (by omega) (by omega) (by omega)
  have eR : insR acc++inV y = insR (acc++[y]):=by rw [insR_app]; rfl
  rw [eR] at o6
  have k06 : KB (fun b=>b = cb∨lo≤b) h h6:=KB.trans k1 k6 (fun _ _ h=>.inl h) (fun b _ hb=>.inr (hao b hb))
  obtain ⟨h7,a7,acc',y1,y2,y3,y4,y5,y6,y7⟩:=ih (i + 1) h6 a6 (acc++[y]) (by omega) (x1.keep k6 fun b hb=>by have:=hao b hb; omega) (by omega) o6 (fun b hb=>by have:=b6 b hb; omega) (by simp; omega) (fun z hz=>by
   rcases List.mem_append.1 hz with h|h
   ·exact hs z h
   ·rw [List.mem_singleton] at h; subst h; exact hy)
  refine ⟨h7,a7,acc',loop_on ?_ y1,y2,y3,y4,y5,y6,KB.trans k06 y7 (fun _ _ h=>h) (fun _ _ h=>h)⟩
  rw [B131_0_eq]
  rw [w64i (n:=(i : Int) + 1) (by omega) (by omega)]
  refine ifT (decide_eq_true (by omega)) (bs e1 (bs (v:=inV y) rfl (bI rfl (bI rfl (bI rfl (bI rfl (bI rfl (bT rfl (lets fun z ez=>?_)))))))))
  subst ez
  refine bs e6 (bS rfl ?_)
  simp
theorem l8Code_run {base cb : Nat} {h : AH} (x : CurR base cb h) : ∃ (l : List In) (ao : Option Addr) (h' : AH),run (Et base) 131 [.pointer (at0 cb)] h = some (.slice ao l.length l.length,h')∧codeOk l = true∧Own base 143 h' ao (insR l)∧(∀ b,blk ao b→h.length≤b)∧(∀ y∈l,y.s.size≤1048576)∧CurR base cb h'∧KB (· = cb) h h':=by
 have hlt:=x.lt
 obtain ⟨b1,h1,e1,x1,k1,l1⟩:=l1Once_run (n:=2) x (by omega)
 cases b1 with
 | true=>
  obtain ⟨o3,k3,q3⟩:=box_own (base:=base) (t:=9) (h:=h1) (cs:=cdL.map Value.string) (by omega) rfl
  generalize hh3 : h1++[some (⟨cdL.map Value.string,9⟩ : Blk)] = h3 at o3 k3 q3
  have e3 : run (Et base) 170 [] h1 = some (.slice (at0 h1.length) 6 6,h3):=Am.r170 (lets fun y ey=>by
   have : y = h3:=ey.trans hh3
   rw [this])
  obtain ⟨z,h5,e5,z0,z1,_,x5,k5,l5⟩:=l1Below_run (n:=6) (x1.keepN k3) (by omega)
  have z1:=z1 (by omega)
  obtain ⟨i,rfl⟩ : ∃ i : Nat,z = (i : Int):=⟨z.toNat,by omega⟩
  have hi : i < cdL.length:=by show i < 6; omega
  have g:=(o3.keep k5 fun b hb hk=>by rw [blk_at0] at hb; omega).at0 (i:=i) (v:=.string cdL[i]) (by simp [hi])
  have hp : (parseL (sb cdL[i])).2 = true:=by
   apply parse2_ok
   have : sb cdL[i]∈czL:=by rw [← cd_cz]; exact List.mem_map_of_mem (List.getElem_mem hi)
   exact List.all_eq_true.1 cz_ok _ this
  obtain ⟨ao,h9,e9,o9,f9,s9,k9⟩:=specParse_run (base:=base) (h:=h5) (cd_size _ (List.getElem_mem hi)) (by omega)
  refine ⟨(parseL (sb cdL[i])).1,ao,h9,Am.r131 (bs e1 (bB rfl (ifT rfl (bs e3 (bS rfl (bs e5 (bI rfl (ifT ⟨z0,z1⟩ (bs rfl ?_))))))))),parse_ok hp,o9,fun b hb=>by have:=f9 b hb; omega,s9,x5.keepN k9,KB.trans (kC k1 (kNB k3 k5)) k9 (fun _ _ h=>h) (fun _ _ h=>h.elim)⟩
  rw [Int.toNat_natCast,Nat.mul_one,Nat.zero_add]
  exact bT g (bs e9 (bs rfl (bS rfl (bB rfl rfl))))
 | false=>
  obtain ⟨z,h2,e2,z0,z1,_,x2,k2,l2⟩:=l1Below_run (n:=10) x1 (by omega)
  have z1:=z1 (by omega)
  obtain ⟨o3,k3,q3⟩:=box_own (base:=base) (t:=143) (h:=h2) (cs:=[]) (by omega) rfl
  generalize hh3 : h2++[some (⟨[],143⟩ : Blk)] = h3 at o3 k3 q3
  obtain ⟨h7,a7,acc,e7,x7,o7,f7,hl7,hs7,k7⟩:=code_loop (base:=base) (cb:=cb) (lo:=h2.length) (n:=3 + z) (by omega) (by omega) (by omega) (by omega) (2 + z).toNat 0 h3 (at0 h2.length) [] (by omega) (x2.keepN k3) (by omega) o3 (fun b hb=>by rw [blk_at0] at hb; omega) rfl (fun y hy=>nomatch hy)
  rw [show ((0 : Nat) : Int) = 0 from rfl] at e7
  have n7:=k7.1
  obtain ⟨u,h8,e8,u0,u1,_,x8,k8,l8⟩:=l1Below_run (n:=3 + z) x7 (by omega)
  have u1:=u1 (by omega)
  obtain ⟨a6,h6,e6,o6,k6,b6,n6⟩:=Am.app1 (bytes:=56) (o7.keep k8 fun b hb hk=>by have:=f7 b hb; omega) (n:=acc.length) (sz:=6) (cs:=inV ⟨12,0,0,0,u,⟨#[]⟩⟩) (insR_len acc) rfl (by decide) rfl (by omega) (by omega) (by omega)
  have eR : insR acc++inV ⟨12,0,0,0,u,⟨#[]⟩⟩ = insR (acc++[⟨12,0,0,0,u,⟨#[]⟩⟩]):=by rw [insR_app]; rfl
  rw [eR] at o6
  have hjump : specB ⟨12,0,0,0,u,⟨#[]⟩⟩ (3 + z) = true:=by
   have inN : inB (3 + z) 1 200 = true:=by simp only [inB,Bool.and_eq_true,decide_eq_true_eq]; omega
   have q1 : regB (shp 12) 65 0 = true:=by decide
   have q2 : regB (shp 12) 67 0 = true:=by decide
   have q3 : regB (shp 12) 66 0 = true:=by decide
   have q4 : inB 12 1 20 = true:=by decide
   unfold specB numB
   simp [inN,q1,q2,q3,q4,emp,u0,u1]
  have hall : ∀ y∈acc++[⟨12,0,0,0,u,⟨#[]⟩⟩],specB y (3 + z) = true:=fun y hy=>by
   rcases List.mem_append.1 hy with h|h
   ·exact hs7 y h
   ·rw [List.mem_singleton] at h; subst h; exact hjump
  have hlen : (((acc++[(⟨12,0,0,0,u,⟨#[]⟩⟩ : In)]).length : Nat) : Int) = 3 + z:=by simp; omega
  refine ⟨acc++[⟨12,0,0,0,u,⟨#[]⟩⟩],a6,h6,Am.r131 (bs e1 (bB rfl (ifF (by decide) (bs e2 (bI rfl (lets fun y ey=>?_)))))),?_,o6,fun b hb=>by have:=b6 b hb; omega,fun y hy=>by have:=specB_size (hall y hy); omega,x8.keep k6 fun b hb=>by have:=f7 b hb; omega,?_⟩
  ·rw [hh3] at ey
   subst ey
   rw [w64i (n:=3 + z) (by omega) (by omega)]
   refine bs e7 (ifT rfl (bs rfl (bI rfl (bS rfl (bs e8 (bI rfl (lets fun y ey=>?_)))))))
   subst ey
   refine bs e6 (bS rfl ?_)
   simp
  ·have hlast : lastOp (acc++[⟨12,0,0,0,u,⟨#[]⟩⟩]) = 12:=by
    unfold lastOp
    simp [List.getD]
   unfold codeOk
   rw [hlen,hlast,allIns_of hall]
   have : inB (3 + z) 1 200 = true:=by simp only [inB,Bool.and_eq_true,decide_eq_true_eq]; omega
   rw [this]
   rfl
  ·exact kCF (kC (KB.trans (kC k1 k2) (KB.trans (T:=fun b=>b = cb∨h2.length≤b) k3 k7 (fun _ _ h=>h.elim) (fun _ _ h=>h)) (fun _ _ h=>h) (fun b hb h=>by omega)) k8) k6 fun b hb=>by have:=f7 b hb; omega
def InP (vs : List Value) : Prop:=∀ i v,vs[i]? = some v→if i % 6 = 5 then ∃ s,v = .string s∧s.size≤1048576 else ∃ n,v = .int .i64 n
theorem inP_to : ∀ (n : Nat) (vs : List Value),vs.length = n * 6→InP vs→∃ l,vs = insR l∧l.length = n∧∀ y∈l,y.s.size≤1048576
 | 0,vs,hl,_=>⟨[],List.eq_nil_of_length_eq_zero (by omega),rfl,fun y hy=>nomatch hy⟩
 | n + 1,vs,hl,h=>by
  rcases vs with _|⟨v0,_|⟨v1,_|⟨v2,_|⟨v3,_|⟨v4,_|⟨v5,r⟩⟩⟩⟩⟩⟩
  ·simp only [List.length_nil,List.length_cons] at hl; omega
  ·simp only [List.length_nil,List.length_cons] at hl; omega
  ·simp only [List.length_nil,List.length_cons] at hl; omega
  ·simp only [List.length_nil,List.length_cons] at hl; omega
  ·simp only [List.length_nil,List.length_cons] at hl; omega
  ·simp only [List.length_nil,List.length_cons] at hl; omega
  ·-- six cells and more
   obtain ⟨l,e,hln,hb⟩:=inP_to n r (by simp only [List.length_cons] at hl; omega) (fun i v hv=>by
    have:=h (i + 6) v (by simpa using hv)
    rwa [show (i + 6) % 6 = i % 6 from by omega] at this)
   obtain ⟨a0,e0⟩:=h 0 v0 rfl
   obtain ⟨a1,e1⟩:=h 1 v1 rfl
   obtain ⟨a2,e2⟩:=h 2 v2 rfl
   obtain ⟨a3,e3⟩:=h 3 v3 rfl
   obtain ⟨a4,e4⟩:=h 4 v4 rfl
   obtain ⟨s5,e5,hs⟩:=h 5 v5 rfl
   subst e0; subst e1; subst e2; subst e3; subst e4; subst e5; subst e
   refine ⟨⟨a0,a1,a2,a3,a4,s5⟩ :: l,rfl,by simp [hln],fun y hy=>?_⟩
   rcases List.mem_cons.1 hy with rfl|hy
   ·exact hs
   ·exact hb y hy
theorem inP_of : ∀ (l : List In),(∀ y∈l,y.s.size≤1048576)→InP (insR l)
 | [],_=>fun i v hv=>by simp [insR] at hv
 | x :: r,h=>by
  intro i v hv
  rw [insR] at hv
  match i,hv with
  | 0,hv=>exact ⟨_,(Option.some.inj hv).symm⟩
  | 1,hv=>exact ⟨_,(Option.some.inj hv).symm⟩
  | 2,hv=>exact ⟨_,(Option.some.inj hv).symm⟩
  | 3,hv=>exact ⟨_,(Option.some.inj hv).symm⟩
  | 4,hv=>exact ⟨_,(Option.some.inj hv).symm⟩
  | 5,hv=>exact ⟨_,(Option.some.inj hv).symm,h x (.head _)⟩
  | i + 6,hv=>
   rw [show (i + 6) % 6 = i % 6 from by omega]
   exact inP_of r (fun y hy=>h y (.tail _ hy)) i v (by simpa using hv)
theorem inP_set {vs : List Value} {i : Nat} {v : Value} (h : InP vs) (hi : i < vs.length) (hv : if i % 6 = 5 then ∃ s,v = .string s∧s.size≤1048576 else ∃ n,v = .int .i64 n) : InP (setAt vs i [v]):=by
 intro j u hu
 have e : setAt vs i [v] = vs.set i v:=by
  unfold setAt
  rw [List.set_eq_take_append_cons_drop,if_pos hi]
  simp
 rw [e] at hu
 by_cases hj : i = j
 ·subst hj
  rw [List.getElem?_set_self hi] at hu
  injection hu with hu
  subst hu
  exact hv
 ·rw [List.getElem?_set_ne hj] at hu
  exact h j u hu
theorem l8Any_run {base cb : Nat} {h : AH} (x : CurR base cb h) : ∃ (l : List In) (ao : Option Addr) (h' : AH),run (Et base) 136 [.pointer (at0 cb)] h = some (.slice ao l.length l.length,h')∧Sl h' ao (insR l)∧l.length≤200∧(∀ y∈l,y.s.size≤1048576)∧(∀ b,blk ao b→h.length≤b∧b < h'.length)∧CurR base cb h'∧KB (· = cb) h h':=by
 have hlt:=x.lt
 have hb : base≤h.length:=by omega
 suffices w : Wp (run (Et base) 136 [.pointer (at0 cb)] h) fun o=>∃ (l : List In) (ao : Option Addr),o.1 = .slice ao l.length l.length∧Sl o.2 ao (insR l)∧l.length≤200∧(∀ y∈l,y.s.size≤1048576)∧(∀ b,blk ao b→h.length≤b∧b < o.2.length)∧CurR base cb o.2∧KB (· = cb) h o.2 by
  obtain ⟨⟨o1,o2⟩,e,l,ao,y1,y2⟩:=w
  simp only at y1 y2
  subst y1
  exact ⟨l,ao,o2,e,y2⟩
 have d:=Hs.startC x hb
 refine W.of (fun r hx=>Am.r136 hx) ?_
 obtain ⟨l,ao,h1,e1,hok,o1,hbl,hz,x1,k1⟩:=l8Code_run x
 obtain ⟨hl200,hl1,_⟩:=codeOk_spec hok
 have d:=d.drawC (j:=0) (i:=1) rfl rfl x1 k1 (blk ao) (fun y=>Own base 143 y ao (insR l)) o1 (fun U y y' k hs z=>z.keep k hs) (fun b hb=>⟨hbl b hb,(o1.lt hb).2⟩)
 refine W.bs e1 ?_
 ((try simp only [n1,n2,n3,n4,n5,n6] at d); (with_reducible repeat refine W.a2 ?_))
 obtain ⟨k,h2,e2,z0,z1,z2,d,k2⟩:=d.below (n:=(l.length : Int)) (by omega)
 have z1:=z1 (by omega)
 refine W.bs e2 ?_
 ((with_reducible repeat refine W.a2 ?_))
 have fin : ∀ {h' : AH} {vs : List Value},Hs base (· = cb) h h' [] [rArg base h,rCur base cb h,⟨blk ao,true,fun y=>Own base 143 y ao vs⟩]→vs.length = l.length * 6→InP vs→∃ (l' : List In),l'.length = l.length∧Sl h' ao (insR l')∧l'.length≤200∧(∀ y∈l',y.s.size≤1048576)∧(∀ b,blk ao b→h.length≤b∧b < h'.length)∧CurR base cb h'∧KB (· = cb) h h':=by
  intro h' vs d hv hp
  obtain ⟨l',e,hl',hs'⟩:=inP_to l.length vs hv hp
  subst e
  refine ⟨l',hl',Own.sl (d.rs (i:=2) rfl),by omega,hs',fun b hb=>⟨hbl b hb,d.rlt (i:=2) rfl b hb⟩,d.cur0,d.kb⟩
 have wrt : ∀ {h1 : AH} {vs : List Value} {j : Nat} {v : Value} {D : Ds},Hs base (· = cb) h h1 D [rArg base h,rCur base cb h,⟨blk ao,true,fun y=>Own base 143 y ao vs⟩]→vs.length = l.length * 6→j < vs.length→∃ ad h',ao = some ad∧Am.wr base h1 ad.block (ad.off + j) [v] = some h'∧Hs base (· = cb) h h' D [rArg base h,rCur base cb h,⟨blk ao,true,fun y=>Own base 143 y ao (setAt vs j [v])⟩]:=by
  intro h1 vs j v D d hv hj
  obtain ⟨ad,h',ea,ew,ow,kw,_⟩:=Own.wrA (d.rs (i:=2) rfl : Own base 143 h1 ao vs) (i:=j) (new:=[v]) (by simp; omega) (by simp)
  exact ⟨ad,h',ea,ew,d.upd (r:=⟨blk ao,true,fun y=>Own base 143 y ao vs⟩) (Upd.at (i:=2) rfl) rfl rfl kw (fun b hb=>.inl hb) ow (fun U y y' k hs z=>z.keep k hs) (fun b hb=>.inl hb)⟩
 have hvl : (insR l).length = l.length * 6:=insR_len l
 refine W.joinP (fun q=>∃ (l' : List In) (ao' : Option Addr),q.1 = [some (.slice ao' l'.length l'.length)]∧Sl q.2 ao' (insR l')∧l'.length≤200∧(∀ y∈l',y.s.size≤1048576)∧(∀ b,blk ao' b→h.length≤b∧b < q.2.length)∧CurR base cb q.2∧KB (· = cb) h q.2) ?_ fun q hq=>?_
 ·obtain ⟨c,h3,e3,_,_,_,d,_⟩:=d.below (n:=12) (by omega)
  refine W.bs e3 ?_
  ((with_reducible repeat refine W.a2 ?_))
  refine W.ite (fun c0=>?_) (fun c0=>?_)
  ·obtain ⟨u,h4,e4,_,_,_,d,_⟩:=d.below (n:=23) (by omega)
   refine W.bs e4 ?_
   ((with_reducible repeat first|refine W.a2 ?_|refine W.a8 ?_))
   obtain ⟨ad,h5,ea,ew,d⟩:=wrt (v:=.int .i64 u) (j:=k.toNat * 6 + 0) d hvl (by omega)
   refine W.bs (v:=ad) (by rw [ea]) ?_
   rw [show ad.off + k.toNat * 6 + 0 = ad.off + (k.toNat * 6 + 0) from by omega]
   refine W.bs ew ?_
   obtain ⟨l',hl',q⟩:=fin d (by simp [setAt]; omega) (inP_set (inP_of l hz) (by omega) (by rw [if_neg (by omega)]; exact ⟨u,rfl⟩))
   exact W.inl ⟨l',ao,by rw [hl'],q⟩
  refine W.ite (fun c1=>?_) (fun c1=>?_)
  ·((refine W.nD d fun h4 d _ kh4=>?_))
   obtain ⟨u,h5,e5,_,d,_⟩:=d.pick (b:=h3.length) (zs:=[-1,7,8]) (.head _) (by simp) (by simp)
   refine W.bs e5 ?_
   ((with_reducible repeat first|refine W.a2 ?_|refine W.a8 ?_))
   obtain ⟨ad,h6,ea,ew,d⟩:=wrt (v:=.int .i64 u) (j:=k.toNat * 6 + 1) d.tl hvl (by omega)
   refine W.bs (v:=ad) (by rw [ea]) ?_
   rw [show ad.off + k.toNat * 6 + 1 = ad.off + (k.toNat * 6 + 1) from by omega]
   refine W.bs ew ?_
   obtain ⟨l',hl',q⟩:=fin d (by simp [setAt]; omega) (inP_set (inP_of l hz) (by omega) (by rw [if_neg (by omega)]; exact ⟨u,rfl⟩))
   exact W.inl ⟨l',ao,by rw [hl'],q⟩
  refine W.ite (fun c2=>?_) (fun c2=>?_)
  ·((refine W.nD d fun h4 d _ kh4=>?_))
   obtain ⟨u,h5,e5,_,d,_⟩:=d.pick (b:=h3.length) (zs:=[-1,200,8]) (.head _) (by simp) (by simp)
   refine W.bs e5 ?_
   ((with_reducible repeat first|refine W.a2 ?_|refine W.a8 ?_))
   obtain ⟨ad,h6,ea,ew,d⟩:=wrt (v:=.int .i64 u) (j:=k.toNat * 6 + 4) d.tl hvl (by omega)
   refine W.bs (v:=ad) (by rw [ea]) ?_
   rw [show ad.off + k.toNat * 6 + 4 = ad.off + (k.toNat * 6 + 4) from by omega]
   refine W.bs ew ?_
   obtain ⟨l',hl',q⟩:=fin d (by simp [setAt]; omega) (inP_set (inP_of l hz) (by omega) (by rw [if_neg (by omega)]; exact ⟨u,rfl⟩))
   exact W.inl ⟨l',ao,by rw [hl'],q⟩
  refine W.ite (fun c3=>?_) (fun c3=>?_)
  ·((refine W.nD d fun h4 d _ kh4=>?_))
   obtain ⟨u,h5,e5,hu,d,_⟩:=d.pickS (b:=h3.length) (zs:=[⟨#[]⟩,⟨#[65]⟩,⟨#[120]⟩]) (.head _) (by simp) (by simp)
   refine W.bs e5 ?_
   ((with_reducible repeat first|refine W.a2 ?_|refine W.a8 ?_))
   have hus : u.size≤1048576:=by
    have hq : ∀ s∈([⟨#[]⟩,⟨#[65]⟩,⟨#[120]⟩] : List ByteArray),s.size≤1048576:=by
     simp only [List.forall_mem_cons]
     exact ⟨by decide,by decide,by decide,fun _ h=>nomatch h⟩
    exact hq u hu
   obtain ⟨ad,h6,ea,ew,d⟩:=wrt (v:=.string u) (j:=k.toNat * 6 + 5) d.tl hvl (by omega)
   refine W.bs (v:=ad) (by rw [ea]) ?_
   rw [show ad.off + k.toNat * 6 + 5 = ad.off + (k.toNat * 6 + 5) from by omega]
   refine W.bs ew ?_
   obtain ⟨l',hl',q⟩:=fin d (by simp [setAt]; omega) (inP_set (inP_of l hz) (by omega) (by rw [if_pos (by omega)]; exact ⟨u,rfl,hus⟩))
   exact W.inl ⟨l',ao,by rw [hl'],q⟩
  refine W.ite (fun c4=>?_) (fun c4=>?_)
  ·have o3 : Own base 143 h3 ao (insR l):=d.rs (i:=2) rfl
   refine W.ifT ⟨by omega,z0,by omega,(TyOk.own o3).ok _⟩ ?_
   refine W.inl ⟨l.take k.toNat,shiftA ao (Int.toNat 0 * 6),?_,?_,by rw [List.length_take]; omega,fun y hy=>hz y (List.mem_of_mem_take hy),fun b hb'=>?_,d.cur0,d.kb⟩
   ·rw [List.length_take,Nat.min_eq_left (by omega)]
    rfl
   ·have:=o3.sl.part (n:=0) (m:=k.toNat * 6) (by omega)
    rw [List.drop_zero] at this
    have e : (insR l).take (k.toNat * 6) = insR (l.take k.toNat):=by
     have hk : k.toNat≤l.length:=by omega
     conv=>lhs; rw [← List.take_append_drop k.toNat l]
     rw [insR_app,List.take_append_of_le_length (by rw [insR_len,List.length_take]; omega),List.take_of_length_le (by rw [insR_len,List.length_take]; omega)]
    rw [e] at this
    exact this
   ·have : blk ao b:=by
     obtain ⟨ad,e,e2⟩:=hb'
     unfold shiftA at e
     cases ao with
     | none=>cases e
     | some a0=>
      simp only [Option.map_some] at e
      injection e with e
      subst e
      exact ⟨a0,rfl,e2⟩
    exact ⟨hbl b this,d.rlt (i:=2) rfl b this⟩
  ·exact W.inl ⟨l,ao,rfl,Own.sl (d.rs (i:=2) rfl),hl200,hz,fun b hb'=>⟨hbl b hb',d.rlt (i:=2) rfl b hb'⟩,d.cur0,d.kb⟩
 obtain ⟨q1,h4⟩:=q
 obtain ⟨l',ao',e,q⟩:=hq
 simp only at e q
 subst e
 exact W.bs rfl (W.ret ⟨l',ao',rfl,q⟩)
section
def GoodA (A : Ac) : Prop:=A.regs.length = 8∧A.links.length≤2∧(∀ t∈A.regs,TmB 10 t)∧∀ t∈A.box,TmB 10 t
abbrev rAc (base : Nat) (S : Fp) (A : Ac) (cs : List Value) : Rs:=⟨S,true,fun y=>AcG base 10 S y A cs⟩
abbrev rTm (base f : Nat) (C : Fp) (t : Tm) (cs : List Value) : Rs:=⟨C,true,fun y=>TmG base f C y t cs⟩
theorem AcG.pushBox {base f : Nat} {S C : Fp} {h : AH} {A : Ac} {tcs : List Value} {p c : Int} {a b g : Option Addr} {n m q : Nat} (x : AcG base f S h A (acV p c a n b m g q)) {t : Tm} (ht : TmG base f C h t tcs) (hC : ∀ b,C b→¬ S b) (hSb : ∀ b,S b→b < h.length) (hCb : ∀ b,C b→b < h.length) (hb : base≤h.length) (hl : A.box.length≤1000) :
  ∃ b' h',Am.app base (h++[some ⟨tcs,42⟩]) 42 4 56 b m (rawAt (h++[some ⟨tcs,42⟩]) (some ⟨h.length,0,none⟩) (1 * 4)) 1 = some (.slice b' (m + 1) (m + 1),h')∧AcG base f (fun i=>S i∨C i∨(h.length≤i∧i < h'.length)) h' ⟨A.pid,A.pc,A.regs,A.box++[t],A.links⟩ (acV p c a n b' (m + 1) g q)∧KB S h h'∧h.length + 1≤h'.length:=by
 obtain ⟨a2,b2,g2,S1,S2,S3,e,r1,r2,r3,hg,s1,s2,s3,d1,d2,d3⟩:=x
 injection e with e1 e; injection e with e2 e; injection e with e3 e; injection e with e4 e; injection e with e5 _
 injection e1 with _ e1; injection e2 with _ e2; injection e3 with e3 e3' _; injection e4 with e4 e4' _; injection e5 with e5 e5' _
 subst e1; subst e2; subst e3; subst e3'; subst e4; subst e4'; subst e5; subst e5'
 obtain ⟨k1,k2,k3,k4,k5,rfl⟩:=ht.form
 obtain ⟨b',h',ea,r2',k,hl'⟩:=r2.snoc (bytes:=56) (TmG.kp _ _) ht rfl (by decide) rfl (fun b hb h=>hC b hb (s2 b h)) hCb (fun b hb=>hSb b (s2 b hb)) hb (by omega) (by omega)
 have hb2 : ∀ i,blk b i→S2 i:=r2.blkS
 refine ⟨b',h',ea,⟨a,b',g,S1,fun i=>S2 i∨C i∨(h.length≤i∧i < h'.length),S3,by simp,r1.keep (TmG.kp _ _) k fun i hi hk=>d1 i hi (hb2 i hk),r2',r3.keep k fun i hi hk=>d3 i (hb2 i hk) (hg i hi),hg,fun i hi=>.inl (s1 i hi),fun i hi=>hi.imp (s2 i) id,fun i hi=>.inl (s3 i hi),fun i h1 h2=>?_,d2,fun i h1 h2=>?_⟩,k.mono fun i _ hi=>s2 i (hb2 i hi),hl'⟩
 ·rcases h2 with h2|h2|h2
  ·exact d1 i h1 h2
  ·exact hC i h2 (s1 i h1)
  ·have:=hSb i (s1 i h1); omega
 ·rcases h1 with h1|h1|h1
  ·exact d3 i h1 h2
  ·exact hC i h1 (s3 i h2)
  ·have:=hSb i (s3 i h2); omega
namespace Hs
variable {base cb : Nat} {V : Fp} {hX h0 h : AH} {D : Ds}
theorem reg {S C : Fp} {A : Ac} {cs tcs : List Value} {t : Tm} {i : Nat} (d : Hs base V h0 h D [rArg base hX,rCur base cb hX,rAc base S A cs,rTm base 10 C t tcs]) (hi : i < A.regs.length) :
  ∃ ad h' S',cs[2]? = some (.slice (some ad) A.regs.length A.regs.length)∧Am.wr base h ad.block (ad.off + i * 4) tcs = some h'∧Hs base V h0 h' D [rArg base hX,rCur base cb hX,rAc base S' ⟨A.pid,A.pc,A.regs.set i t,A.box,A.links⟩ cs]∧KB S h h':=by
 have x : AcG base 10 S h A cs:=d.rs (i:=2) rfl
 have ht : TmG base 10 C h t tcs:=d.rs (i:=3) rfl
 have hC : ∀ b,C b→¬ S b:=fun b h1 h2=>by
  have dj:=d.dj
  simp only [List.pairwise_cons] at dj
  exact dj.2.2.1 _ (.head _) rfl b h2 h1
 obtain ⟨ad,h',ec,ew,x',k,_⟩:=x.setReg hi ht hC
 have d2:=d.joinP (r:=rAc base S A cs) (s:=rTm base 10 C t tcs) (AcG.kp base 10) (R1:=[rArg base hX,rCur base cb hX,rAc base S A cs,⟨fun _=>False,true,fun _=>True⟩]) (R2:=[rArg base hX,rCur base cb hX,rAc base (fun b=>S b∨C b) ⟨A.pid,A.pc,A.regs.set i t,A.box,A.links⟩ cs,⟨fun _=>False,true,fun _=>True⟩]) (Upd.at (i:=3) rfl) (Upd.at (i:=2) rfl) rfl rfl k x' (fun b hb=>.inl hb) (fun b hb=>hb.imp id .inl)
 exact ⟨ad,h',_,ec,ew,d2.takeR 3,k⟩
theorem wait {S C : Fp} {A : Ac} {p c : Int} {a b g : Option Addr} {n m q : Nat} {tcs : List Value} {t : Tm} (d : Hs base V h0 h D [rArg base hX,rCur base cb hX,rAc base S A (acV p c a n b m g q),rTm base 10 C t tcs]) (hl : A.box.length≤1000) :
  ∃ b' h' S',Am.app base (h++[some ⟨tcs,42⟩]) 42 4 56 b m (rawAt (h++[some ⟨tcs,42⟩]) (some ⟨h.length,0,none⟩) (1 * 4)) 1 = some (.slice b' (m + 1) (m + 1),h')∧Hs base V h0 h' D [rArg base hX,rCur base cb hX,rAc base S' ⟨A.pid,A.pc,A.regs,A.box++[t],A.links⟩ (acV p c a n b' (m + 1) g q)]:=by
 have x : AcG base 10 S h A _:=d.rs (i:=2) rfl
 have ht : TmG base 10 C h t tcs:=d.rs (i:=3) rfl
 have hC : ∀ b,C b→¬ S b:=fun b h1 h2=>by
  have dj:=d.dj
  simp only [List.pairwise_cons] at dj
  exact dj.2.2.1 _ (.head _) rfl b h2 h1
 obtain ⟨b',h',ea,x',k,_⟩:=x.pushBox ht hC (d.rlt (i:=2) rfl) (d.rlt (i:=3) rfl) d.ge hl
 have d2:=d.joinP (r:=rAc base S A (acV p c a n b m g q)) (s:=rTm base 10 C t tcs) (AcG.kp base 10) (R1:=[rArg base hX,rCur base cb hX,rAc base S A (acV p c a n b m g q),⟨fun _=>False,true,fun _=>True⟩]) (R2:=[rArg base hX,rCur base cb hX,rAc base (fun i=>S i∨C i∨(h.length≤i∧i < h'.length)) ⟨A.pid,A.pc,A.regs,A.box++[t],A.links⟩ (acV p c a n b' (m + 1) g q),⟨fun _=>False,true,fun _=>True⟩]) (Upd.at (i:=3) rfl) (Upd.at (i:=2) rfl) rfl rfl k x' (fun b hb=>.inl hb) (fun b hb=>hb.imp id fun hb=>hb)
 exact ⟨b',h',_,ea,d2.takeR 3⟩
theorem lift {S C : Fp} {A : Ac} {cs tcs : List Value} {t : Tm} {f : Nat} (d : Hs base V h0 h D [rArg base hX,rCur base cb hX,rAc base S A cs,rTm base f C t tcs]) (hf : f≤10) : Hs base V h0 h D [rArg base hX,rCur base cb hX,rAc base S A cs,rTm base 10 C t tcs]:=
 d.re (r:=rTm base f C t tcs) (r':=rTm base 10 C t tcs) (Upd.at (i:=3) rfl) rfl rfl (TmG.le hf (d.rs (i:=3) rfl)) (fun U y y' k hs z=>TmG.kp _ _ _ U y y' _ _ k hs z) (fun b hb=>hb)
end Hs
theorem draw_TmB {t : Tm} (g : Gt 2 t) : TmB 10 t:=(tOk_B (g.ok (by decide))).1
theorem l9Draw_loop0 {base cb zb ab : Nat} {hX h0 : AH} {V : Fp} : ∀ (k : Nat) (h : AH) (A : Ac) (S : Fp) (cs : List Value),k≤100→GoodA A→Hs base V h0 h [(ab,54,cs),(zb,54,acV 0 0 none 0 none 0 none 0)] [rArg base hX,rCur base cb hX,rAc base S A cs] →
  Wp (loopL (B177_0 base) [some (.pointer (at0 cb)),some (.pointer (at0 zb)),some (.pointer (at0 ab)),some (.int .i64 (k : Int))] h) fun o=>∃ A' S',o.1 = 2∧o.2.1 = [some (.pointer (at0 cb)),some (.pointer (at0 zb)),some (.pointer (at0 ab))]∧GoodA A'∧A'.box = A.box∧A'.links = A.links∧Hs base V h0 o.2.2 [(ab,54,cs),(zb,54,acV 0 0 none 0 none 0 none 0)] [rArg base hX,rCur base cb hX,rAc base S' A' cs]:=by
 intro k
 induction k with
 | zero=>
  intro h A S cs hk hg d
  suffices w : Wp (B177_0 base [some (.pointer (at0 cb)),some (.pointer (at0 zb)),some (.pointer (at0 ab)),some (.int .i64 ((0 : Nat) : Int))] h) fun o=>o = (2,[some (.pointer (at0 cb)),some (.pointer (at0 zb)),some (.pointer (at0 ab))],h) by
   obtain ⟨o,e,rfl⟩:=w
   exact ⟨_,loop_off (by decide) e,A,S,rfl,rfl,hg,rfl,rfl,d⟩
  rw [B177_0_eq]
  exact W.ifF (by decide) (W.ret rfl)
 | succ k ih=>
  intro h A S cs hk hg d
  obtain ⟨a,b,g,rfl⟩:=(d.rs (i:=2) rfl : AcG base 10 S h A cs).form2
  suffices w : Wp (B177_0 base [some (.pointer (at0 cb)),some (.pointer (at0 zb)),some (.pointer (at0 ab)),some (.int .i64 ((k + 1 : Nat) : Int))] h) fun o=>∃ A' S',o.1 = 0∧o.2.1 = [some (.pointer (at0 cb)),some (.pointer (at0 zb)),some (.pointer (at0 ab)),some (.int .i64 (k : Int))]∧GoodA A'∧A'.box = A.box∧A'.links = A.links∧Hs base V h0 o.2.2 [(ab,54,acV A.pid A.pc a A.regs.length b A.box.length g A.links.length),(zb,54,acV 0 0 none 0 none 0 none 0)] [rArg base hX,rCur base cb hX,rAc base S' A' (acV A.pid A.pc a A.regs.length b A.box.length g A.links.length)] by
   obtain ⟨⟨o1,o2,h'⟩,e,A',S',y1,y2,y3,y4,y5,d'⟩:=w
   simp only at y1 y2 d'
   subst y1; subst y2
   obtain ⟨o,eo,A2,S2,q1,q2,q3,q4,q5,q6⟩:=ih h' A' S' _ (by omega) y3 d'
   exact ⟨o,loop_on e eo,A2,S2,q1,q2,q3,q4.trans y4,q5.trans y5,q6⟩
  rw [B177_0_eq]
  refine W.ifT (decide_eq_true (by omega)) ?_
  ((with_reducible repeat refine W.a1 d ?_))
  obtain ⟨i,h2,e2,i0,i1,_,d,_⟩:=d.below (n:=6) (by omega)
  have i1:=i1 (by omega)
  refine W.bs e2 ?_
  ((with_reducible repeat first|refine W.a2 ?_|refine W.a6 d ?_))
  obtain ⟨t,tcs,h3,C,e3,gt,d,_⟩:=d.draw (drawQ 2 (by omega))
  refine W.bs e3 ?_
  obtain ⟨k1,k2,k3,k4,k5,rfl⟩:=(d.rs (i:=3) rfl : TmG base 3 C h3 t _).form
  ((try simp only [n1,n2,n3,n4,n5,n6] at d); (with_reducible repeat first|refine W.a2 ?_|refine W.a6 d ?_))
  have hr8:=hg.1
  have d:=Hs.lift d (by omega)
  obtain ⟨ad,h4,S',ec,ew,d,_⟩:=Hs.reg (A:=A) (i:=i.toNat) d (by omega)
  injection ec with ec
  injection ec with ea _ _
  subst ea
  refine W.ifT ⟨i0,by rw [hr8]; omega⟩ (W.bs rfl (W.bs ew ?_))
  rw [w64i (n:=((k + 1 : Nat) : Int) - 1) (by omega) (by omega),show ((k + 1 : Nat) : Int) - 1 = (k : Int) from by omega]
  refine W.ret ⟨⟨A.pid,A.pc,A.regs.set i.toNat t,A.box,A.links⟩,S',rfl,rfl,⟨by simp [hr8],hg.2.1,fun u hu=>?_,hg.2.2.2⟩,rfl,rfl,d⟩
  rcases List.mem_or_eq_of_mem_set hu with hu|rfl
  ·exact hg.2.2.1 u hu
  ·exact draw_TmB gt
theorem l9Draw_loop1 {base cb zb ab : Nat} {hX h0 : AH} {V : Fp} : ∀ (k : Nat) (h : AH) (A : Ac) (S : Fp) (cs : List Value),A.box.length + k≤2→GoodA A→Hs base V h0 h [(ab,54,cs),(zb,54,acV 0 0 none 0 none 0 none 0)] [rArg base hX,rCur base cb hX,rAc base S A cs] →
  Wp (loopL (B177_1 base) [some (.pointer (at0 cb)),some (.pointer (at0 zb)),some (.pointer (at0 ab)),some (.int .i64 (k : Int))] h) fun o=>∃ A' S' cs',o.1 = 4∧o.2.1 = [some (.pointer (at0 cb)),some (.pointer (at0 zb)),some (.pointer (at0 ab))]∧GoodA A'∧A'.box.length≤2∧A'.links = A.links∧Hs base V h0 o.2.2 [(ab,54,cs'),(zb,54,acV 0 0 none 0 none 0 none 0)] [rArg base hX,rCur base cb hX,rAc base S' A' cs']:=by
 intro k
 induction k with
 | zero=>
  intro h A S cs hk hg d
  suffices w : Wp (B177_1 base [some (.pointer (at0 cb)),some (.pointer (at0 zb)),some (.pointer (at0 ab)),some (.int .i64 ((0 : Nat) : Int))] h) fun o=>o = (4,[some (.pointer (at0 cb)),some (.pointer (at0 zb)),some (.pointer (at0 ab))],h) by
   obtain ⟨o,e,rfl⟩:=w
   exact ⟨_,loop_off (by decide) e,A,S,cs,rfl,rfl,hg,by omega,rfl,d⟩
  rw [B177_1_eq]
  exact W.ifF (by decide) (W.ret rfl)
 | succ k ih=>
  intro h A S cs hk hg d
  obtain ⟨a,b,g,rfl⟩:=(d.rs (i:=2) rfl : AcG base 10 S h A cs).form2
  suffices w : Wp (B177_1 base [some (.pointer (at0 cb)),some (.pointer (at0 zb)),some (.pointer (at0 ab)),some (.int .i64 ((k + 1 : Nat) : Int))] h) fun o=>∃ A' S' cs',o.1 = 0∧o.2.1 = [some (.pointer (at0 cb)),some (.pointer (at0 zb)),some (.pointer (at0 ab)),some (.int .i64 (k : Int))]∧GoodA A'∧A'.box.length = A.box.length + 1∧A'.links = A.links∧Hs base V h0 o.2.2 [(ab,54,cs'),(zb,54,acV 0 0 none 0 none 0 none 0)] [rArg base hX,rCur base cb hX,rAc base S' A' cs'] by
   obtain ⟨⟨o1,o2,h'⟩,e,A',S',cs',y1,y2,y3,y4,y5,d'⟩:=w
   simp only at y1 y2 d'
   subst y1; subst y2
   obtain ⟨o,eo,A2,S2,cs2,q1,q2,q3,q4,q5,q6⟩:=ih h' A' S' _ (by omega) y3 d'
   exact ⟨o,loop_on e eo,A2,S2,cs2,q1,q2,q3,q4,q5.trans y5,q6⟩
  rw [B177_1_eq]
  refine W.ifT (decide_eq_true (by omega)) ?_
  ((with_reducible repeat refine W.a1 d ?_))
  obtain ⟨t,tcs,h3,C,e3,gt,d,_⟩:=d.draw (drawQ 2 (by omega))
  refine W.bs e3 ?_
  obtain ⟨k1,k2,k3,k4,k5,rfl⟩:=(d.rs (i:=3) rfl : TmG base 3 C h3 t _).form
  have d:=Hs.lift d (by omega)
  ((with_reducible repeat first|refine W.a2 ?_|refine W.a6 d ?_|refine W.a7 ?_))
  obtain ⟨b',h4,S',ea,d⟩:=Hs.wait (A:=A) d (by omega)
  refine W.bs rfl (W.bs ea ?_)
  ((with_reducible repeat first|refine W.a2 ?_|refine W.a5 d fun hw d lw kw=>?_))
  rw [w64i (n:=((k + 1 : Nat) : Int) - 1) (by omega) (by omega),show ((k + 1 : Nat) : Int) - 1 = (k : Int) from by omega]
  refine W.ret ⟨⟨A.pid,A.pc,A.regs,A.box++[t],A.links⟩,S',acV A.pid A.pc a A.regs.length b' (A.box.length + 1) g A.links.length,rfl,rfl,⟨hg.1,hg.2.1,hg.2.2.1,fun u hu=>?_⟩,by simp,rfl,d⟩
  rcases List.mem_append.1 hu with hu|hu
  ·exact hg.2.2.2 u hu
  ·rw [List.mem_singleton] at hu; subst hu; exact draw_TmB gt
theorem l9Draw_run {base cb : Nat} {h : AH} {ca : Option Addr} {n : Nat} (x : CurR base cb h) (hn : 1≤n∧n≤200) :
  ∃ A cs h',run (Et base) 177 [.pointer (at0 cb),.slice ca n n] h = some (.agg cs.toArray,h')∧AcG base 10 (iS h.length h'.length) h' A cs∧GoodA A∧A.box.length≤2∧CurR base cb h'∧KB (· = cb) h h':=by
 have hlt:=x.lt
 have hb : base≤h.length:=by omega
 suffices w : Wp (run (Et base) 177 [.pointer (at0 cb),.slice ca n n] h) fun o=>∃ A cs S,o.1 = .agg cs.toArray∧AcG base 10 S o.2 A cs∧(∀ b,S b→h.length≤b∧b < o.2.length)∧GoodA A∧A.box.length≤2∧CurR base cb o.2∧KB (· = cb) h o.2 by
  obtain ⟨⟨o1,o2⟩,e,A,cs,S,y1,y2,y3,y4⟩:=w
  simp only at y1 y2 y3 y4
  subst y1
  exact ⟨A,cs,o2,e,AcG.mo _ _ _ _ _ _ _ (fun b hb=>y3 b hb) y2,y4⟩
 have d:=Hs.startC x hb
 refine W.of (fun r hx=>Am.r177 hx) ?_
 ((refine W.nD d fun h1 d _ kh1=>?_))
 obtain ⟨u,h2,e2,u0,u1,_,d,_⟩:=d.below (n:=3) (by omega)
 have u1:=u1 (by omega)
 refine W.bs e2 ?_
 ((with_reducible repeat refine W.a2 ?_))
 obtain ⟨v,h3,e3,v0,v1,_,d,_⟩:=d.below (n:=(n : Int)) (by omega)
 refine W.bs e3 ?_
 ((with_reducible repeat refine W.a2 ?_))
 obtain ⟨t,tcs,h4,C,e4,gt,d,_⟩:=d.draw (drawQ 2 (by omega))
 refine W.bs e4 ?_
 have tg : TmG base 3 C h4 t tcs:=d.rs (i:=2) rfl
 obtain ⟨k1,k2,k3,k4,k5,rfl⟩:=tg.form
 ((try simp only [n1,n2,n3,n4,n5,n6] at d); (with_reducible repeat refine W.a2 ?_))
 rw [w64i (n:=1 + u) (by omega) (by omega)]
 obtain ⟨cs5,h5,e5,g5,k5'⟩:=specNew_run (base:=base) (f:=9) h4 C t _ (1 + u) v (TmG.le (f':=10) (by omega) tg).tmR (draw_TmB gt) d.ge (d.rlt (i:=2) rfl)
 have hok : newOk 10 (1 + u) v t = true:=by
  unfold newOk inB
  rw [gt.ok (by decide)]
  have a1 : 1≤1 + u∧1 + u≤99999:=by omega
  have a2 : ¬ v < 0:=by omega
  simp [a1.1,a1.2,a2]
 have eA : newA 10 (1 + u) v t = ⟨1 + u,v,newRegs t 7,[],[]⟩:=by unfold newA; rw [if_pos hok]
 rw [eA] at g5
 refine W.bs e5 ?_
 obtain ⟨a,b,g,rfl⟩:=g5.form2
 have d:=d.callP (AcG.kp _ _) k5' g5
 ((try simp only [n1,n2,n3,n4,n5,n6] at d); (with_reducible repeat refine W.a2 ?_); (refine W.nD d fun h6 d _ kh6=>?_); (with_reducible repeat refine W.a5 d fun hw d lw kw=>?_))
 have d:=(d.frontR (Del.at (i:=3) rfl)).takeR 3
 have d:=d.frontR (Del.at (i:=2) rfl)
 have d:=d.frontR (Del.at (i:=2) rfl)
 simp only [n5,n6] at d
 have hG0 : GoodA ⟨1 + u,v,newRegs t 7,[],[]⟩:=⟨newRegs_len t 7,by simp,fun w hw=>by
  have hm : ∀ k,∀ w∈newRegs t k,w = t∨w = tm0:=by
   intro k
   induction k with
   | zero=>intro w hw; simp [newRegs] at hw; exact .inl hw
   | succ k ih=>
    intro w hw
    simp only [newRegs,List.mem_append,List.mem_singleton] at hw
    exact hw.elim (ih w) .inr
  rcases hm 7 w hw with rfl|rfl
  ·exact draw_TmB gt
  ·exact ⟨by decide,by decide,fun t ht=>nomatch ht⟩,fun w hw=>nomatch hw⟩
 have d : Hs base (· = cb) h hw [(h5.length,54,acV (1 + u) v a (newRegs t 7).length b 0 g 0),(h.length,54,acV 0 0 none 0 none 0 none 0)] [rArg base h,rCur base cb h,rAc base (iS h4.length h5.length) ⟨1 + u,v,newRegs t 7,[],[]⟩ (acV (1 + u) v a (newRegs t 7).length b 0 g 0)]:=d
 obtain ⟨m,h7,e7,m0,m1,_,d,_⟩:=d.below (n:=6) (by omega)
 have m1:=m1 (by omega)
 refine W.bs e7 ?_
 ((with_reducible repeat refine W.a2 ?_))
 have w0:=l9Draw_loop0 (base:=base) m.toNat h7 _ _ _ (by omega) hG0 d
 rw [show ((m.toNat : Nat) : Int) = m from by omega] at w0
 refine W.wb w0 ?_
 rintro ⟨o1,o2,h8⟩ ⟨A1,S1,y1,y2,g1,b1,l1,d⟩
 simp only at y1 y2 d
 subst y1; subst y2
 refine W.ifT rfl ?_
 ((with_reducible repeat refine W.a2 ?_))
 obtain ⟨p,h9,e9,p0,p1,_,d,_⟩:=d.below (n:=3) (by omega)
 have p1:=p1 (by omega)
 refine W.bs e9 ?_
 ((with_reducible repeat refine W.a2 ?_))
 have w1:=l9Draw_loop1 (base:=base) p.toNat h9 A1 S1 _ (by rw [b1]; simp; omega) g1 d
 rw [show ((p.toNat : Nat) : Int) = p from by omega] at w1
 refine W.wb w1 ?_
 rintro ⟨o1,o2,h10⟩ ⟨A2,S2,cs2,y1,y2,g2,b2,l2,d⟩
 simp only at y1 y2 d
 subst y1; subst y2
 refine W.ifT rfl ?_
 ((with_reducible repeat refine W.a2 ?_))
 obtain ⟨a2,b2',g2',rfl⟩:=(d.rs (i:=2) rfl : AcG base 10 S2 h10 A2 cs2).form2
 refine W.joinP (fun q=>q.1 = [some (.pointer (at0 h.length)),some (.pointer (at0 h5.length))]∧∃ A3 S3 cs3,GoodA A3∧A3.box.length≤2∧Hs base (· = cb) h q.2 [(h5.length,54,cs3),(h.length,54,acV 0 0 none 0 none 0 none 0)] [rArg base h,rCur base cb h,rAc base S3 A3 cs3]) ?_ fun q hq=>?_
 ·obtain ⟨bb,h11,e11,d,_⟩:=d.once (n:=3) (by omega)
  refine W.bs e11 ?_
  ((with_reducible repeat refine W.a2 ?_))
  refine W.ite (fun c=>?_) (fun c=>?_)
  ·obtain ⟨z,h12,e12,z0,z1,_,d,_⟩:=d.below (n:=3) (by omega)
   have z1:=z1 (by omega)
   refine W.bs e12 ?_
   ((with_reducible repeat refine W.a2 ?_); (refine W.nD d fun h13 d _ kh13=>?_); (with_reducible repeat refine W.a5 d fun hw d lw kw=>?_))
   have d:=d.front (Del.at (i:=1) rfl)
   simp only [n5,n6] at d
   have o13 : Own base 3 hw (at0 h12.length) (iv .i64 [IntKind.i64.wrap (5 + z)]):=d.ol (.tail _ (.head _))
   have x13 : AcG base 10 S2 hw A2 _:=d.rs (i:=2) rfl
   have d:=d.unbox (Del.at (i:=1) rfl)
   simp only [n5,n6] at d
   have hne : ∀ i,blk (at0 h12.length) i→¬ S2 i:=fun i hi h2=>by
    rw [blk_at0] at hi
    subst hi
    have dj:=d.dj
    simp only [List.pairwise_cons,List.cons_append,List.nil_append] at dj
    exact dj.2.2.1 _ (.head _) rfl _ h2 rfl
   have x14:=x13.setLinks (KB.refl NoB hw) (fun _ _ h=>h) o13 hne
   have d:=d.joinP (r:=rAc base S2 A2 (acV A2.pid A2.pc a2 A2.regs.length b2' A2.box.length g2' A2.links.length)) (s:=⟨(· = h12.length),true,fun y=>Own base 3 y (at0 h12.length) (iv .i64 [IntKind.i64.wrap (5 + z)])⟩) (AcG.kp base 10) (Upd.at (i:=3) rfl) (R2:=[rArg base h,rCur base cb h,rAc base (fun b=>S2 b∨blk (at0 h12.length) b) ⟨A2.pid,A2.pc,A2.regs,A2.box,[IntKind.i64.wrap (5 + z)]⟩ (acV A2.pid A2.pc a2 A2.regs.length b2' A2.box.length (at0 h12.length) 1),⟨fun _=>False,true,fun _=>True⟩]) (Upd.at (i:=2) rfl) rfl rfl (KB.refl NoB hw) x14 (fun _ h=>h.elim) (fun b hb=>hb.imp id fun hb=>.inl (blk_at0.1 hb))
   have d:=d.takeR 3
   exact W.inl ⟨rfl,⟨A2.pid,A2.pc,A2.regs,A2.box,[IntKind.i64.wrap (5 + z)]⟩,(fun b=>S2 b∨blk (at0 h12.length) b),acV A2.pid A2.pc a2 A2.regs.length b2' A2.box.length (at0 h12.length) 1,⟨g2.1,by simp,g2.2.2⟩,b2,d⟩
  ·exact W.inl ⟨rfl,A2,S2,_,g2,b2,d⟩
 obtain ⟨q1,h14⟩:=q
 obtain ⟨e,A3,S3,cs3,g3,b3,d⟩:=hq
 simp only at e d
 subst e
 obtain ⟨a3,b3',g3',rfl⟩:=(d.rs (i:=2) rfl : AcG base 10 S3 h14 A3 cs3).form2
 ((with_reducible repeat first|refine W.a1 d ?_|refine W.a2 ?_|refine W.a5 d fun hw d lw kw=>?_))
 have fr:=d.rfr (i:=2) rfl rfl
 have lt:=d.rlt (i:=2) rfl
 have hdj : ∀ b,S3 b→b≠cb:=fun b hb e=>by
  have dj:=d.dj
  simp only [List.pairwise_cons] at dj
  exact dj.2.1 _ (.head _) rfl b e hb
 exact W.ret ⟨A3,_,S3,rfl,d.rs (i:=2) rfl,fun b hb=>⟨(fr b hb).resolve_left (hdj b hb),lt b hb⟩,g3,b3,d.cur0,d.kb⟩
end
theorem bendG_loop {base b1 b2 : Nat} : ∀ (d i : Nat) (h : AH) (t : Tm) (k n : Int) (s : ByteArray) (a : Option Addr) (m F : Nat),i + d = 6→Own base 42 h (at0 b1) (termV k n s a m)→TmG base F (iS (b2 + 1) h.length) h t (termV k n s a m)→TmB F t→b1 < b2→b2 < h.length→base≤b1 →
  ∃ h' t' k' n' s' a' m',loopL (B178_0 base) [some (.pointer (at0 b1)),some (.pointer (at0 b2)),some (.int .i64 (i : Int))] h = some (3,[some (.pointer (at0 b1)),some (.pointer (at0 b2))],h')∧Own base 42 h' (at0 b1) (termV k' n' s' a' m')∧TmG base (F + d) (iS (b2 + 1) h'.length) h' t' (termV k' n' s' a' m')∧TmB (F + d) t'∧KB (· = b1) h h':=by
 intro d
 induction d with
 | zero=>
  intro i h t k n s a m F hi o hm hB h1 h2 h3
  refine ⟨h,t,k,n,s,a,m,loop_off (by decide) ?_,o,hm,hB,KB.refl _ _⟩
  rw [B178_0_eq]
  exact Am.ifF (by simp; omega) rfl
 | succ d ih=>
  intro i h t k n s a m F hi o hm hB h1 h2 h3
  obtain ⟨o5,k5,q5⟩:=box_own (base:=base) (t:=42) (h:=h) (cs:=termV 0 0 ⟨#[]⟩ none 0) (by omega) rfl
  generalize hh5 : h++[some (⟨termV 0 0 ⟨#[]⟩ none 0,42⟩ : Blk)] = h5 at o5 k5 q5
  obtain ⟨h6,e6,o6,k6,l6⟩:=o5.wr0 (i:=0) (new:=termV k n s a m) (by simp) (by simp)
  have hz : setAt (termV 0 0 ⟨#[]⟩ none 0) 0 (termV k n s a m) = termV k n s a m:=rfl
  rw [hz] at o6
  obtain ⟨o11,k11,q11⟩:=box_own (base:=base) (t:=42) (h:=h6) (cs:=termV k n s a m) (by omega) rfl
  generalize hh11 : h6++[some (⟨termV k n s a m,42⟩ : Blk)] = h11 at o11 k11 q11
  have k06 : KB NoB h h6:=kFresh k5 k6 fun i hi=>by omega
  have k011 : KB NoB h h11:=kN k06 k11
  obtain ⟨h12,e12,o12,k12,l12⟩:=(o.keepN k011).wr0 (i:=0) (new:=termV 4 0 ⟨#[]⟩ (at0 h6.length) 1) (by simp) (by simp)
  have hz : setAt (termV k n s a m) 0 (termV 4 0 ⟨#[]⟩ (at0 h6.length) 1) = termV 4 0 ⟨#[]⟩ (at0 h6.length) 1:=rfl
  rw [hz] at o12
  have k012 : KB (· = b1) h h12:=kNB k011 k12
  have o11':=o11.keep k12 fun b hb hk=>by rw [blk_at0] at hb; omega
  have hm12:=TmG.kp _ _ _ _ _ _ _ _ k012 (fun b hb hk=>by omega) hm
  have R12:=(RowO.one hm12 (by omega) rfl o11').mono (S':=iS (b2 + 1) h12.length) fun b hb=>by rcases hb with hb|hb <;> omega
  have T12 : TmG base (F + 1) (iS (b2 + 1) h12.length) h12 (.mk 4 0 ⟨#[]⟩ [t]) (termV 4 0 ⟨#[]⟩ (at0 h6.length) 1):=⟨by decide,by simp [maxLen],at0 h6.length,rfl,R12⟩
  have B12 : TmB (F + 1) (.mk 4 0 ⟨#[]⟩ [t]):=⟨by decide,by simp,fun y hy=>by rw [List.mem_singleton] at hy; subst hy; exact hB⟩
  obtain ⟨h',t',k',n',s',a',m',e,w1,w2,w3,w4⟩:=ih (i + 1) h12 _ _ _ _ _ _ (F + 1) (by omega) o12 T12 B12 h1 (by omega) h3
  rw [show F + 1 + d = F + (d + 1) from by omega] at w2 w3
  refine ⟨h',t',k',n',s',a',m',loop_on ?_ e,w1,w2,w3,KB.trans k012 w4 (fun _ _ h=>h) (fun _ _ h=>h)⟩
  rw [B178_0_eq]
  refine Am.ifT (decide_eq_true (by omega)) (Am.q4 o (lets fun y ey=>?_))
  rw [hh5] at ey
  subst ey
  refine Am.bs e6 (Am.q4 o6 (lets fun y ey=>?_))
  rw [hh11] at ey
  subst ey
  refine Am.bs e12 ?_
  rw [w64i (n:=(i : Int) + 1) (by omega) (by omega)]
  rfl
theorem bend_strs {s : ByteArray} (h : s∈([⟨#[]⟩,⟨#[65]⟩,⟨#[120]⟩,⟨#[116,104,105,114,116,101,101,110,98,121,116,101,115]⟩] : List ByteArray)) : s.size≤13:=by
 have : ∀ s∈([⟨#[]⟩,⟨#[65]⟩,⟨#[120]⟩,⟨#[116,104,105,114,116,101,101,110,98,121,116,101,115]⟩] : List ByteArray),s.size≤13:=by
  simp only [List.forall_mem_cons]
  exact ⟨by decide,by decide,by decide,by decide,fun _ h=>nomatch h⟩
 exact this s h
theorem l1BendG_run {base cb f : Nat} {h : AH} {p : Nat→Prop} {t : Tm} {cs : List Value} (x : CurR base cb h) (hm : TmR h p (f + 1) t cs) (hB : TmB (f + 1) t) (hl : t.len≤1000) (hp : ∀ b,p b→b < h.length) :
  Wp (run (Et base) 178 [.pointer (at0 cb),.agg cs.toArray] h) fun r=>∃ t' k' n' s' a' m',r.1 = .agg (termV k' n' s' a' m').toArray∧TmG base (f + 7) (iS h.length r.2.length) r.2 t' (termV k' n' s' a' m')∧TmB (f + 7) t'∧CurR base cb r.2∧KB (· = cb) h r.2:=by
 have hlt:=x.lt
 obtain ⟨k,n,s,l⟩:=t
 simp only [Tm.len] at hl
 obtain ⟨a,rfl,hts,hss,_⟩:=hm.parts
 refine W.of (fun r hx=>Am.r178 hx) ?_
 refine W.box (base:=base) (by omega) fun h1 o1 k1 q1=>W.box (base:=base) (by omega) fun h2 o2 k2 q2=>?_
 have k02:=kN k1 k2
 obtain ⟨cs3,h3,e3,t3,k3⟩:=l1CopyG_run (base:=base) (f + 1) h2 p _ _ (TmR.keep k02 (fun _ _ h=>h) _ _ _ hm) hB (by omega) (fun b hb=>by have:=hp b hb; omega)
 have n3:=k3.1
 obtain ⟨k',n',s',ao,m',rfl⟩:=t3.form
 obtain ⟨l',el,rfl,hs3,hl3,row3⟩:=t3.parts
 injection el with el1 el2 el3 el4
 subst el1; subst el2; subst el3; subst el4
 refine W.q4 (o1.keepN k2) (W.bs e3 (W.bs (v:=termV k n s ao l.length) rfl (W.bI rfl (W.bI rfl (W.bT rfl (W.bS rfl (W.wr0 ((o1.keepN k2).keepN k3) (by simp) (by simp) fun h4 o4 k4 l4=>?_)))))))
 have hz : setAt (termV k n s a l.length) 0 (termV k n s ao l.length) = termV k n s ao l.length:=rfl
 rw [hz] at o4
 have l4 : h4.length = h3.length:=l4
 have k4 : KB (· = h.length) h3 h4:=k4
 have k04 : KB NoB h h4:=kFresh (kN k02 k3) k4 fun i hi=>by omega
 obtain ⟨z,h5,e5,z0,z1,_,x5,k5,l5⟩:=l1Below_run (n:=6) (x.keepN k04) (by omega)
 have o5:=o4.keepB k5 fun i hi=>by rw [blk_at0] at hi; omega
 have oZ5:=((o2.keepN k3).keepB k4 fun i hi=>by rw [blk_at0] at hi; omega).keepB k5 fun i hi=>by rw [blk_at0] at hi; omega
 have row5:=(row3.keep (TmG.kp _ _) k4 fun b hb hk=>by omega).keep (TmG.kp _ _) k5 fun b hb hk=>by omega
 have k05 : KB (· = cb) h h5:=kNB k04 k5
 obtain ⟨B1,B2,B3⟩:=hB
 have hn5 : h5.length = h3.length:=by omega
 have set1 : ∀ {h6 : AH} {kk nn : Int} {ss : ByteArray},ss.size≤1048576→KB (· = cb) h5 h6→TmG base (f + 7) (iS (h1.length + 1) h6.length) h6 (.mk kk nn ss l) (termV kk nn ss ao l.length)∧TmB (f + 7) (.mk kk nn ss l):=@fun h6 kk nn ss hss k56=>by
  have r6:=(row5.keep (TmG.kp _ _) k56 fun b hb hk=>by omega).mono (S':=iS (h1.length + 1) h6.length) fun b hb=>⟨by omega,by have:=k56.1; omega⟩
  exact ⟨⟨by simp only [maxLen]; omega,hl3,ao,rfl,r6.imp fun _ _ _ _=>TmG.le (show f≤f + 6 by omega)⟩,hss,by omega,fun t ht=>(B3 t ht).le (by omega)⟩
 refine W.joinP (fun q=>∃ h6 t' k' n' s' a' m',q = ([some (.pointer (at0 h.length)),some (.pointer (at0 h1.length))],h6)∧Own base 42 h6 (at0 h.length) (termV k' n' s' a' m')∧Own base 42 h6 (at0 h1.length) (termV 0 0 ⟨#[]⟩ none 0)∧TmG base (f + 7) (iS (h1.length + 1) h6.length) h6 t' (termV k' n' s' a' m')∧TmB (f + 7) t'∧CurR base cb h6∧KB (· = cb) h h6∧h1.length < h6.length) ?_ fun q hq=>?_
 ·refine W.bs e5 (W.bI rfl (W.ite (fun c=>?_) fun c0=>W.ite (fun c=>?_) fun c1=>W.ite (fun c=>?_) fun c2=>W.ite (fun c=>?_) fun c3=>W.ite (fun c=>?_) fun c4=>?_))
  ·obtain ⟨z6,h6,e6,_,_,_,x6,k6,l6⟩:=l1Below_run (n:=8) x5 (by omega)
   refine W.bs e6 (W.bI rfl (W.wr0 (o5.keepB k6 fun i hi=>by rw [blk_at0] at hi; omega) (by simp) (by simp) fun h7 o7 k7 l7=>W.inl ?_))
   obtain ⟨g1,g2⟩:=set1 (kk:=z6) (nn:=n) (ss:=s) B1 k6
   have k7 : KB (· = h.length) h6 h7:=k7
   have l7 : h7.length = h6.length:=l7
   refine ⟨h7,_,_,_,_,_,_,rfl,o7,(oZ5.keepB k6 fun i hi=>by rw [blk_at0] at hi; omega).keepB k7 fun i hi=>by rw [blk_at0] at hi; omega,?_,g2,x6.keep k7 fun b hb=>by omega,kCF (kC k05 k6) k7 fun i hi=>by omega,by omega⟩
   rw [l7]
   exact TmG.kp _ _ _ _ _ _ _ _ k7 (fun b hb hk=>by omega) g1
  ·refine W.box (base:=base) (h:=h5) (by omega) fun h6 o6 k6 q6=>?_
   obtain ⟨z7,h7,e7,_,x7,k7,l7⟩:=l1Int_run (zs:=[-1,1000001,100000,3]) (x5.keepN k6) o6.sl (fun b hb=>by rw [blk_at0] at hb; omega) (by simp) (by simp)
   have k57 : KB (· = cb) h5 h7:=kNB k6 k7
   refine W.bs e7 (W.bI rfl (W.wr0 (o5.keepB k57 fun i hi=>by rw [blk_at0] at hi; omega) (by simp) (by simp) fun h8 o8 k8 l8=>W.inl ?_))
   obtain ⟨g1,g2⟩:=set1 (kk:=k) (nn:=z7) (ss:=s) B1 k57
   have k8 : KB (· = h.length) h7 h8:=k8
   have l8 : h8.length = h7.length:=l8
   refine ⟨h8,_,_,_,_,_,_,rfl,o8,(oZ5.keepB k57 fun i hi=>by rw [blk_at0] at hi; omega).keepB k8 fun i hi=>by rw [blk_at0] at hi; omega,?_,g2,x7.keep k8 fun b hb=>by omega,kCF (kC k05 k57) k8 fun i hi=>by omega,by omega⟩
   rw [l8]
   exact TmG.kp _ _ _ _ _ _ _ _ k8 (fun b hb hk=>by omega) g1
  ·refine W.box (base:=base) (h:=h5) (by omega) fun h6 o6 k6 q6=>?_
   obtain ⟨z7,h7,e7,hz7,x7,k7,l7⟩:=l1Str_run (ss:=[⟨#[]⟩,⟨#[65]⟩,⟨#[120]⟩,⟨#[116,104,105,114,116,101,101,110,98,121,116,101,115]⟩]) (x5.keepN k6) o6.sl (fun b hb=>by rw [blk_at0] at hb; omega) (by simp) (by simp)
   have k57 : KB (· = cb) h5 h7:=kNB k6 k7
   refine W.bs e7 (W.bT rfl (W.wr0 (o5.keepB k57 fun i hi=>by rw [blk_at0] at hi; omega) (by simp) (by simp) fun h8 o8 k8 l8=>W.inl ?_))
   obtain ⟨g1,g2⟩:=set1 (kk:=k) (nn:=n) (ss:=z7) (by have:=bend_strs hz7; omega) k57
   have k8 : KB (· = h.length) h7 h8:=k8
   have l8 : h8.length = h7.length:=l8
   refine ⟨h8,_,_,_,_,_,_,rfl,o8,(oZ5.keepB k57 fun i hi=>by rw [blk_at0] at hi; omega).keepB k8 fun i hi=>by rw [blk_at0] at hi; omega,?_,g2,x7.keep k8 fun b hb=>by omega,kCF (kC k05 k57) k8 fun i hi=>by omega,by omega⟩
   rw [l8]
   exact TmG.kp _ _ _ _ _ _ _ _ k8 (fun b hb hk=>by omega) g1
  ·obtain ⟨a6,h6,e6,r6,k6,n6⟩:=(row5.imp fun _ _ _ _=>TmG.le (show f≤f + 1 by omega)).app1 (TmG.kp _ _) (bytes:=56) (C:=fun _=>False) (y:=.mk 1 4 ⟨#[]⟩ []) (cs:=termV 1 4 ⟨#[]⟩ none 0) ⟨by decide,by decide,none,rfl,RowO.nil⟩ rfl (by decide) rfl (fun _ h=>h.elim) (fun _ h=>h.elim) (fun b hb=>by omega) (by omega) (by omega) (by omega)
   have hba : ∀ b,blk ao b→h2.length≤b∧b < h3.length:=by obtain ⟨vs,T,w1,w2,w3,_⟩:=row5; exact fun b hb=>(w3 b hb).1
   have o6:=o5.keep k6 fun b hb hk=>by rw [blk_at0] at hb; have:=hba b hk; omega
   refine W.bS (o5.at0 (i:=3) rfl) (W.bs rfl (W.bs e6 (W.bS rfl (W.wr0 o6 (by simp) (by simp) fun h7 o7 k7 l7=>W.inl ?_))))
   have k7 : KB (· = h.length) h6 h7:=k7
   have l7 : h7.length = h6.length:=l7
   refine ⟨h7,.mk k n s (l++[.mk 1 4 ⟨#[]⟩ []]),_,_,_,_,_,rfl,o7,(oZ5.keep k6 fun b hb hk=>by rw [blk_at0] at hb; have:=hba b hk; omega).keepB k7 fun i hi=>by rw [blk_at0] at hi; omega,?_,⟨by omega,by simp; omega,fun t ht=>?_⟩,(x5.keep k6 fun b hb=>by have:=hba b hb; omega).keep k7 fun b hb=>by omega,kCF (kCF k05 k6 fun i hi=>by have:=hba i hi; omega) k7 fun i hi=>by omega,by omega⟩
   ·refine TmG.le (show f + 2≤f + 7 by omega) (TmG.kp _ _ _ _ _ _ _ _ k7 (fun b hb hk=>by omega) ⟨by simp only [maxLen]; omega,by simp [maxLen]; omega,a6,by simp,(r6.mono fun b hb=>?_)⟩)
    rcases hb with hb|hb|hb
    ·constructor <;> omega
    ·exact hb.elim
    ·constructor <;> omega
   ·rcases List.mem_append.1 ht with ht|ht
    ·exact (B3 t ht).le (by omega)
    ·rw [List.mem_singleton] at ht
     subst ht
     exact ⟨by decide,by decide,fun _ h=>nomatch h⟩
  ·obtain ⟨g1,g2⟩:=set1 (kk:=k) (nn:=n) (ss:=s) B1 (KB.refl _ h5)
   have g1' : TmG base (f + 1) (iS (h1.length + 1) h5.length) h5 (.mk k n s l) (termV k n s ao l.length):=⟨by simp only [maxLen]; omega,hl3,ao,rfl,row5.mono fun b hb=>⟨by omega,by omega⟩⟩
   obtain ⟨h6,t',k',n',s',a',m',e6,o6,g6,b6,k6⟩:=bendG_loop (base:=base) (b1:=h.length) (b2:=h1.length) 6 0 h5 _ _ _ _ _ _ (f + 1) rfl o5 g1' ⟨B1,B2,B3⟩ (by omega) (by omega) (by omega)
   rw [show ((0 : Nat) : Int) = 0 from rfl] at e6
   have n6:=k6.1
   refine W.bs e6 (W.ifT rfl (W.bA rfl (W.bA rfl (W.inl ⟨h6,t',k',n',s',a',m',rfl,o6,oZ5.keepB k6 fun i hi=>by rw [blk_at0] at hi; omega,g6.le (by omega),b6.le (by omega),x5.keep k6 fun b hb=>by omega,kCF k05 k6 fun i hi=>by omega,by omega⟩))))
  ·obtain ⟨g1,g2⟩:=set1 (kk:=k) (nn:=n) (ss:=s) B1 (KB.refl _ h5)
   exact W.inl ⟨h5,_,_,_,_,_,_,rfl,o5,oZ5,g1,g2,x5,k05,by omega⟩
 ·obtain ⟨h6,t',k',n',s',a',m',rfl,o6,z6,g6,b6,x6,k06,n6⟩:=hq
  refine W.bA rfl (W.bA rfl (W.q4 o6 (W.wr0 z6 (by simp) (by simp) fun h7 o7 k7 l7=>?_)))
  have hz : setAt (termV 0 0 ⟨#[]⟩ none 0) 0 (termV k' n' s' a' m') = termV k' n' s' a' m':=rfl
  rw [hz] at o7
  have k7 : KB (· = h1.length) h6 h7:=k7
  have l7 : h7.length = h6.length:=l7
  refine W.q4 o7 (W.ret ⟨t',k',n',s',a',m',rfl,TmG.mo _ _ _ _ _ _ _ (fun b hb=>?_) (TmG.kp _ _ _ _ _ _ _ _ k7 (fun b hb hk=>by omega) g6),b6,x6.keep k7 fun b hb=>by omega,kCF k06 k7 fun i hi=>by omega⟩)
  exact ⟨by omega,by show b < h7.length; omega⟩
theorem tOk_len {F : Nat} {t : Tm} (h : tOk F t = true) : t.len≤20:=by
 have h:=of_decide_eq_true h
 obtain ⟨k,n,s,l⟩:=t
 cases F with
 | zero=>rw [lk] at h; omega
 | succ F=>
  rw [lk] at h
  split at h
  ·omega
  ·rename_i hn
   have hs : shB k n s l.length = true:=by
    cases e : shB k n s l.length with
    | true=>rfl
    | false=>exact absurd (.inr (.inr e)) hn
   exact (sh_bd hs).2
theorem Gt.ok3 {t : Tm} (h : Gt 3 t) {F : Nat} (hF : 4≤F) : tOk F t = true:=decide_eq_true (by
 have:=h F 6 100 (by omega) (by omega) (by decide)
 have e : capT 3 = 40:=by decide
 omega)
theorem l1AnyG_run {base cb : Nat} {h : AH} (x : CurR base cb h) : ∃ t cs h',run (Et base) 138 [.pointer (at0 cb)] h = some (.agg cs.toArray,h')∧TmG base 10 (iS h.length h'.length) h' t cs∧TmB 10 t∧CurR base cb h'∧KB (· = cb) h h':=by
 have hlt:=x.lt
 have hb : base≤h.length:=by omega
 suffices w : Wp (run (Et base) 138 [.pointer (at0 cb)] h) fun o=>∃ t cs S,o.1 = .agg cs.toArray∧TmG base 10 S o.2 t cs∧(∀ b,S b→h.length≤b∧b < o.2.length)∧TmB 10 t∧CurR base cb o.2∧KB (· = cb) h o.2 by
  obtain ⟨⟨o1,o2⟩,e,t,cs,S,y1,y2,y3,y4⟩:=w
  simp only at y1 y2 y3 y4
  subst y1
  exact ⟨t,cs,o2,e,TmG.mo _ _ _ _ _ _ _ (fun b hb=>y3 b hb) y2,y4⟩
 have d:=Hs.startC x hb
 refine W.of (fun r hx=>Am.r138 hx) ?_
 ((refine W.nD d fun h1 d _ kh1=>?_))
 obtain ⟨t,tcs,h2,C,e2,gt,d,_⟩:=d.draw (drawQ 3 (by omega))
 refine W.bs e2 ?_
 obtain ⟨k1,k2,k3,k4,k5,rfl⟩:=(d.rs (i:=2) rfl : TmG base 4 C h2 t tcs).form
 ((try simp only [n1,n2,n3,n4,n5,n6] at d); (with_reducible repeat refine W.a2 ?_); (refine W.nD d fun h3 d _ kh3=>?_); (with_reducible repeat refine W.a5 d fun hw d lw kw=>?_))
 have d : Hs base (· = cb) h hw [(h2.length,42,termV k1 k2 k3 k4 k5),(h.length,42,termV 0 0 ⟨#[]⟩ none 0)] [rArg base h,rCur base cb h,rTm base 4 C t (termV k1 k2 k3 k4 k5)]:=d
 refine W.joinP (fun q=>q.1 = [some (.pointer (at0 h.length)),some (.pointer (at0 h2.length))]∧∃ t' k n s a m S,TmB 10 t'∧Hs base (· = cb) h q.2 [(h2.length,42,termV k n s a m),(h.length,42,termV 0 0 ⟨#[]⟩ none 0)] [rArg base h,rCur base cb h,rTm base 10 S t' (termV k n s a m)]) ?_ fun q hq=>?_
 ·obtain ⟨b,h4,e4,d,_⟩:=d.once (n:=5) (by omega)
  refine W.bs e4 ?_
  ((with_reducible repeat refine W.a2 ?_))
  refine W.ite (fun c=>?_) (fun c=>?_)
  ·((with_reducible repeat refine W.a1 d ?_))
   have tg : TmG base 4 C h4 t (termV k1 k2 k3 k4 k5):=d.rs (i:=2) rfl
   obtain ⟨⟨u,h5⟩,e5,t',k',n',s',a',m',y1,g5,b5,x5,k5'⟩:=l1BendG_run (f:=3) d.cur0 tg.tmR (tOk_B (gt.ok3 (by decide))).1 (by have:=tOk_len (gt.ok3 (F:=4) (by decide)); omega) (d.rlt (i:=2) rfl)
   simp only at y1 g5 x5 k5'
   subst y1
   have d:=d.drawC (j:=0) (i:=1) rfl rfl x5 k5' _ (fun y=>TmG base 10 (iS h4.length h5.length) y t' (termV k' n' s' a' m')) g5 (fun U y y' ky hs z=>TmG.kp _ _ _ U y y' _ _ ky hs z) (fun b hb=>hb)
   refine W.bs e5 ?_
   ((try simp only [n1,n2,n3,n4,n5,n6] at d); (with_reducible repeat first|refine W.a2 ?_|refine W.a5 d fun hw d lw kw=>?_))
   have d:=(d.frontR (Del.at (i:=3) rfl)).takeR 3
   have d:=d.frontR (Del.at (i:=2) rfl)
   have d:=d.frontR (Del.at (i:=2) rfl)
   simp only [n5,n6] at d
   exact W.inl ⟨rfl,t',k',n',s',a',m',_,b5,d⟩
  ·refine W.inl ⟨rfl,t,k1,k2,k3,k4,k5,C,(tOk_B (gt.ok3 (by decide))).1,?_⟩
   exact d.re (r:=rTm base 4 C t (termV k1 k2 k3 k4 k5)) (r':=rTm base 10 C t (termV k1 k2 k3 k4 k5)) (Upd.at (i:=2) rfl) rfl rfl (TmG.le (by omega) (d.rs (i:=2) rfl)) (fun U y y' k hs z=>TmG.kp _ _ _ U y y' _ _ k hs z) (fun b hb=>hb)
 obtain ⟨q1,h6⟩:=q
 obtain ⟨e,t',k',n',s',a',m',S,hB,d⟩:=hq
 simp only at e d
 subst e
 ((with_reducible repeat first|refine W.a1 d ?_|refine W.a2 ?_|refine W.a5 d fun hw d lw kw=>?_))
 have fr:=d.rfr (i:=2) rfl rfl
 have lt:=d.rlt (i:=2) rfl
 have hdj : ∀ b,S b→b≠cb:=fun b hb e=>by
  have dj:=d.dj
  simp only [List.pairwise_cons] at dj
  exact dj.2.1 _ (.head _) rfl b e hb
 exact W.ret ⟨t',_,S,rfl,d.rs (i:=2) rfl,fun b hb=>⟨(fr b hb).resolve_left (hdj b hb),lt b hb⟩,hB,d.cur0,d.kb⟩
theorem AcG.setPid {base f : Nat} {S : Fp} {h : AH} {A : Ac} {cs : List Value} (x : AcG base f S h A cs) (v : Int) : AcG base f S h ⟨v,A.pc,A.regs,A.box,A.links⟩ (setAt cs 0 [.int .i64 v]):=by
 obtain ⟨a,b,g,S1,S2,S3,rfl,h1⟩:=x
 exact ⟨a,b,g,S1,S2,S3,rfl,h1⟩
theorem AcG.dropReg {base f : Nat} {S : Fp} {h : AH} {A : Ac} {p c : Int} {a b g : Option Addr} {n m q : Nat} (x : AcG base f S h A (acV p c a n b m g q)) {t : Tm} {R : List Tm} (e : A.regs = t :: R) : AcG base f S h ⟨A.pid,A.pc,R,A.box,A.links⟩ (acV p c (shiftA a (1 * 4)) R.length b m g q):=by
 obtain ⟨a2,b2,g2,S1,S2,S3,ec,r1,r2,r3,hg,s1,s2,s3,d1,d2,d3⟩:=x
 injection ec with e1 ec; injection ec with e2 ec; injection ec with e3 ec; injection ec with e4 ec; injection ec with e5 _
 injection e1 with _ e1; injection e2 with _ e2; injection e3 with e3 e3' _; injection e4 with e4 e4' _; injection e5 with e5 e5' _
 subst e1; subst e2; subst e3; subst e3'; subst e4; subst e4'; subst e5; subst e5'
 rw [e] at r1
 obtain ⟨C,tcs,bd,hC,rfl,cells,hCS,hCb,rt⟩:=r1.uncons (TmG.mo _ _) (by decide)
 exact ⟨_,b,g,fun i=>S1 i∧¬ C i,S2,S3,rfl,rt,r2,r3,hg,fun i hi=>s1 i hi.1,s2,s3,fun i hi=>d1 i hi.1,fun i hi=>d2 i hi.1,d3⟩
def AnyA (A : Ac) : Prop:=A.regs.length≤8∧A.box.length≤2∧A.links.length≤2∧(∀ t∈A.regs,TmB 10 t)∧∀ t∈A.box,TmB 10 t
theorem l9Any_run {base cb : Nat} {h : AH} {ca : Option Addr} {n : Nat} (x : CurR base cb h) (hn : n≤200) :
  ∃ A cs h',run (Et base) 137 [.pointer (at0 cb),.slice ca n n] h = some (.agg cs.toArray,h')∧AcG base 10 (iS h.length h'.length) h' A cs∧AnyA A∧CurR base cb h'∧KB (· = cb) h h':=by
 have hlt:=x.lt
 have hb : base≤h.length:=by omega
 suffices w : Wp (run (Et base) 137 [.pointer (at0 cb),.slice ca n n] h) fun o=>∃ A cs S,o.1 = .agg cs.toArray∧AcG base 10 S o.2 A cs∧(∀ b,S b→h.length≤b∧b < o.2.length)∧AnyA A∧CurR base cb o.2∧KB (· = cb) h o.2 by
  obtain ⟨⟨o1,o2⟩,e,A,cs,S,y1,y2,y3,y4⟩:=w
  simp only at y1 y2 y3 y4
  subst y1
  exact ⟨A,cs,o2,e,AcG.mo _ _ _ _ _ _ _ (fun b hb=>y3 b hb) y2,y4⟩
 have d:=Hs.startC x hb
 refine W.of (fun r hx=>Am.r137 hx) ?_
 ((refine W.nD d fun h1 d _ kh1=>?_))
 refine W.ite (fun c=>?_) (fun c=>?_)
 ·((with_reducible repeat first|refine W.a1 d ?_|refine W.a5 d fun hw d lw kw=>?_))
  exact W.ret ⟨⟨0,0,[],[],[]⟩,_,fun _=>False,rfl,zeroD,fun _ h=>h.elim,⟨by decide,by decide,by decide,(by intro t ht; cases ht),(by intro t ht; cases ht)⟩,d.cur0,d.kb⟩
 have c : ¬ (n : Int) = 0:=by simpa using c
 obtain ⟨A,cs,h2,e2,g2,good,box2,x2,k2⟩:=l9Draw_run (ca:=ca) d.cur0 (n:=n) (by omega)
 refine W.bs e2 ?_
 have d:=d.drawC (j:=0) (i:=1) rfl rfl x2 k2 _ (fun y=>AcG base 10 (iS h1.length h2.length) y A cs) g2 (fun U y y' ky hs z=>AcG.kp _ _ _ U y y' _ _ ky hs z) (fun b hb=>hb)
 obtain ⟨a,b,g,rfl⟩:=g2.form2
 ((try simp only [n1,n2,n3,n4,n5,n6] at d); (with_reducible repeat refine W.a2 ?_); (refine W.nD d fun h3 d _ kh3=>?_); (with_reducible repeat refine W.a5 d fun hw d lw kw=>?_))
 have d : Hs base (· = cb) h hw [(h2.length,54,acV A.pid A.pc a A.regs.length b A.box.length g A.links.length),(h.length,54,acV 0 0 none 0 none 0 none 0)] [rArg base h,rCur base cb h,rAc base (iS h1.length h2.length) A (acV A.pid A.pc a A.regs.length b A.box.length g A.links.length)]:=d
 have any0 : AnyA A:=⟨by rw [good.1]; omega,box2,good.2.1,good.2.2.1,good.2.2.2⟩
 have r8:=good.1
 refine W.joinP (fun q=>q.1 = [some (.pointer (at0 h.length)),some (.pointer (at0 h2.length))]∧∃ A' S' cs',AnyA A'∧Hs base (· = cb) h q.2 [(h2.length,54,cs'),(h.length,54,acV 0 0 none 0 none 0 none 0)] [rArg base h,rCur base cb h,rAc base S' A' cs']) ?_ fun q hq=>?_
 ·obtain ⟨u,h4,e4,_,_,_,d,_⟩:=d.below (n:=12) (by omega)
  refine W.bs e4 ?_
  ((with_reducible repeat refine W.a2 ?_))
  refine W.ite (fun c0=>?_) (fun c0=>?_)
  ·((refine W.nD d fun h5 d _ kh5=>?_))
   obtain ⟨v,h6,e6,_,d,_⟩:=d.pick (b:=h4.length) (zs:=[0,99999,100000]) (.head _) (by simp) (by simp)
   refine W.bs e6 ?_
   ((with_reducible repeat first|refine W.a2 ?_|refine W.a5 d fun hw d lw kw=>?_))
   have x' : AcG base 10 (iS h1.length h2.length) hw A _:=d.rs (i:=2) rfl
   have d:=(d.tl).re (r:=rAc base (iS h1.length h2.length) A (acV A.pid A.pc a A.regs.length b A.box.length g A.links.length)) (r':=rAc base (iS h1.length h2.length) ⟨v,A.pc,A.regs,A.box,A.links⟩ (acV v A.pc a A.regs.length b A.box.length g A.links.length)) (Upd.at (i:=2) rfl) rfl rfl (x'.setPid v) (fun U y y' k hs z=>AcG.kp _ _ _ U y y' _ _ k hs z) (fun b hb=>hb)
   exact W.inl ⟨rfl,⟨v,A.pc,A.regs,A.box,A.links⟩,_,_,any0,d⟩
  refine W.ite (fun c1=>?_) (fun c1=>?_)
  ·((refine W.nD d fun h5 d _ kh5=>?_))
   obtain ⟨v,h6,e6,_,d,_⟩:=d.pick (b:=h4.length) (zs:=[-1,200,(n : Int)]) (.head _) (by simp) (by simp)
   refine W.bs e6 ?_
   ((with_reducible repeat first|refine W.a2 ?_|refine W.a5 d fun hw d lw kw=>?_))
   have x' : AcG base 10 (iS h1.length h2.length) hw A _:=d.rs (i:=2) rfl
   have d:=(d.tl).re (r:=rAc base (iS h1.length h2.length) A (acV A.pid A.pc a A.regs.length b A.box.length g A.links.length)) (r':=rAc base (iS h1.length h2.length) ⟨A.pid,v,A.regs,A.box,A.links⟩ (acV A.pid v a A.regs.length b A.box.length g A.links.length)) (Upd.at (i:=2) rfl) rfl rfl (x'.setPc v) (fun U y y' k hs z=>AcG.kp _ _ _ U y y' _ _ k hs z) (fun b hb=>hb)
   exact W.inl ⟨rfl,⟨A.pid,v,A.regs,A.box,A.links⟩,_,_,any0,d⟩
  refine W.ite (fun c2=>?_) (fun c2=>?_)
  ·((with_reducible repeat refine W.a1 d ?_))
   obtain ⟨t,tcs,h5,e5,g5,b5,x5,k5⟩:=l1AnyG_run d.cur0
   refine W.bs e5 ?_
   have d:=d.drawC (j:=0) (i:=1) rfl rfl x5 k5 _ (fun y=>TmG base 10 (iS h4.length h5.length) y t tcs) g5 (fun U y y' ky hs z=>TmG.kp _ _ _ U y y' _ _ ky hs z) (fun b hb=>hb)
   obtain ⟨k1,k2,k3,k4,k5,rfl⟩:=g5.form
   ((try simp only [n1,n2,n3,n4,n5,n6] at d); (with_reducible repeat first|refine W.a2 ?_|refine W.a6 d ?_|refine W.a8 ?_))
   obtain ⟨ad,h6,S',ec,ew,d,_⟩:=Hs.reg (A:=A) (i:=0) d (by omega)
   injection ec with ec
   injection ec with ea _ _
   subst ea
   refine W.bs rfl (W.bs ew ?_)
   refine W.inl ⟨rfl,⟨A.pid,A.pc,A.regs.set 0 t,A.box,A.links⟩,S',_,⟨by simp [r8],box2,good.2.1,fun u hu=>?_,good.2.2.2⟩,d⟩
   rcases List.mem_or_eq_of_mem_set hu with hu|rfl
   ·exact good.2.2.1 u hu
   ·exact b5
  refine W.ite (fun c3=>?_) (fun c3=>?_)
  ·((with_reducible repeat refine W.a1 d ?_))
   obtain ⟨a2,b2,g2,S1,S2,S3,ec,r1,_⟩:=(d.rs (i:=2) rfl : AcG base 10 (iS h1.length h2.length) h4 A _)
   injection ec with _ ec; injection ec with _ ec; injection ec with e3 ec
   injection e3 with e3 _ _
   subst e3
   refine W.ifT ⟨by omega,(by show (1 : Int)≤((A.regs.length : Nat) : Int); omega),by omega,r1.tyOk _⟩ ?_
   cases hr : A.regs with
   | nil=>rw [hr] at r8; simp at r8
   | cons t0 R=>
    rw [← hr]
    have hR : R.length = 7:=by rw [hr] at r8; simpa using r8
    ((with_reducible repeat refine W.a5 d fun hw d lw kw=>?_))
    have x' : AcG base 10 (iS h1.length h2.length) hw A _:=d.rs (i:=2) rfl
    have d:=d.re (r:=rAc base (iS h1.length h2.length) A (acV A.pid A.pc a A.regs.length b A.box.length g A.links.length)) (r':=rAc base (iS h1.length h2.length) ⟨A.pid,A.pc,R,A.box,A.links⟩ (acV A.pid A.pc (shiftA a (1 * 4)) R.length b A.box.length g A.links.length)) (Upd.at (i:=2) rfl) rfl rfl (x'.dropReg hr) (fun U y y' k hs z=>AcG.kp _ _ _ U y y' _ _ k hs z) (fun b hb=>hb)
    refine W.inl ⟨rfl,⟨A.pid,A.pc,R,A.box,A.links⟩,(iS h1.length h2.length),acV A.pid A.pc (shiftA a (1 * 4)) R.length b A.box.length g A.links.length,⟨(by show R.length≤8; omega),box2,good.2.1,fun u hu=>good.2.2.1 u (by rw [hr]; exact .tail _ hu),good.2.2.2⟩,?_⟩
    have e7 : Int.toNat ((A.regs.length : Nat) : Int) - Int.toNat 1 = R.length:=by rw [r8,hR]; rfl
    rw [e7] at d
    exact d
  refine W.ite (fun c4=>?_) (fun c4=>?_)
  ·((with_reducible repeat refine W.a1 d ?_); (refine W.nD d fun h5 d _ kh5=>?_))
   obtain ⟨v,h6,e6,_,d,_⟩:=d.pick (b:=h4.length) (zs:=[2,3,4,A.pid]) (.head _) (by simp) (by simp)
   refine W.bs e6 ?_
   ((with_reducible repeat refine W.a2 ?_); (refine W.nD d fun h7 d _ kh7=>?_); (with_reducible repeat refine W.a5 d fun hw d lw kw=>?_))
   have d:=d.front (Del.at (i:=2) rfl)
   simp only [n5,n6] at d
   have o13 : Own base 3 hw (at0 h6.length) (iv .i64 [3,v]):=d.ol (.tail _ (.head _))
   have x13 : AcG base 10 (iS h1.length h2.length) hw A _:=d.rs (i:=2) rfl
   have d:=d.unbox (Del.at (i:=1) rfl)
   simp only [n5,n6] at d
   have d:=d.front (Del.at (i:=2) rfl)
   simp only [n5,n6] at d
   have d:=d.front (Del.at (i:=1) rfl)
   simp only [n5,n6] at d
   have d:=d.takeD 2
   have hne : ∀ i,blk (at0 h6.length) i→¬ (iS h1.length h2.length) i:=fun i hi h2=>by
    rw [blk_at0] at hi
    subst hi
    have dj:=d.dj
    simp only [List.pairwise_cons,List.cons_append,List.nil_append] at dj
    exact dj.2.2.1 _ (.head _) rfl _ h2 rfl
   have x14:=x13.setLinks (KB.refl NoB hw) (fun _ _ h=>h) o13 hne
   have d:=d.joinP (r:=rAc base (iS h1.length h2.length) A (acV A.pid A.pc a A.regs.length b A.box.length g A.links.length)) (s:=⟨(· = h6.length),true,fun y=>Own base 3 y (at0 h6.length) (iv .i64 [3,v])⟩) (AcG.kp base 10) (Upd.at (i:=3) rfl) (R2:=[rArg base h,rCur base cb h,rAc base (fun b=>(iS h1.length h2.length) b∨blk (at0 h6.length) b) ⟨A.pid,A.pc,A.regs,A.box,[3,v]⟩ (acV A.pid A.pc a A.regs.length b A.box.length (at0 h6.length) 2),⟨fun _=>False,true,fun _=>True⟩]) (Upd.at (i:=2) rfl) rfl rfl (KB.refl NoB hw) x14 (fun _ h=>h.elim) (fun b hb=>hb.imp id fun hb=>.inl (blk_at0.1 hb))
   have d:=d.takeR 3
   exact W.inl ⟨rfl,⟨A.pid,A.pc,A.regs,A.box,[3,v]⟩,(fun b=>(iS h1.length h2.length) b∨blk (at0 h6.length) b),acV A.pid A.pc a A.regs.length b A.box.length (at0 h6.length) 2,⟨any0.1,box2,by simp,good.2.2.1,good.2.2.2⟩,d⟩
  ·exact W.inl ⟨rfl,A,_,_,any0,d⟩
 obtain ⟨q1,h14⟩:=q
 obtain ⟨e,A3,S3,cs3,g3,d⟩:=hq
 simp only at e d
 subst e
 obtain ⟨a3,b3',g3',rfl⟩:=(d.rs (i:=2) rfl : AcG base 10 S3 h14 A3 cs3).form2
 ((with_reducible repeat first|refine W.a1 d ?_|refine W.a2 ?_|refine W.a5 d fun hw d lw kw=>?_))
 have fr:=d.rfr (i:=2) rfl rfl
 have lt:=d.rlt (i:=2) rfl
 have hdj : ∀ b,S3 b→b≠cb:=fun b hb e=>by
  have dj:=d.dj
  simp only [List.pairwise_cons] at dj
  exact dj.2.1 _ (.head _) rfl b e hb
 exact W.ret ⟨A3,_,S3,rfl,d.rs (i:=2) rfl,fun b hb=>⟨(fr b hb).resolve_left (hdj b hb),lt b hb⟩,g3,d.cur0,d.kb⟩
theorem l1Below_big {base cb : Nat} {h : AH} {n : Int} (x : CurR base cb h) (hn : n > 256) (hn2 : n≤1000000) : ∃ z h',run (Et base) 133 [.pointer (at0 cb),.int .i64 n] h = some (.int .i64 z,h')∧CurR base cb h'∧KB (· = cb) h h'∧h'.length = h.length:=by
 obtain ⟨z1,h1,e1,_,_,x1,k1,l1⟩:=l1Byte_run x
 obtain ⟨z2,h2,e2,_,_,x2,k2,l2⟩:=l1Byte_run x1
 obtain ⟨z3,h3,e3,_,_,x3,k3,l3⟩:=l1Byte_run x2
 exact ⟨_,h3,Am.r133 (ifF (by simp; omega) (ifF (by simp; omega) (bs e1 (bI rfl (bs e2 (bI rfl (bs e3 (bI rfl (ifF (by omega) rfl))))))))),x3,kC (kC k1 k2) k3,by omega⟩
def WordQ (base cb F : Nat) : Prop:=∀ h,CurR base cb h→∃ t cs h',run (Et base) F [.pointer (at0 cb)] h = some (.agg cs.toArray,h')∧TmG base 10 (iS h.length h'.length) h' t cs∧tOk 10 t = true∧CurR base cb h'∧KB (· = cb) h h'
theorem l11Plain_run {base cb : Nat} : WordQ base cb 205:=by
 intro h x
 have hlt:=x.lt
 have hb : base≤h.length:=by omega
 suffices w : Wp (run (Et base) 205 [.pointer (at0 cb)] h) fun o=>∃ t cs,o.1 = .agg cs.toArray∧(∀ S y,TmG base 10 S y t cs)∧tOk 10 t = true∧CurR base cb o.2∧KB (· = cb) h o.2 by
  obtain ⟨⟨o1,o2⟩,e,t,cs,y1,y2,y4⟩:=w
  simp only at y1 y4
  subst y1
  exact ⟨t,cs,o2,e,y2 _ _,y4⟩
 have d:=Hs.startC x hb
 refine W.of (fun r hx=>Am.r205 hx) ?_
 ((refine W.nD d fun h1 d _ kh1=>?_))
 obtain ⟨b,h2,e2,d,_⟩:=d.once (n:=2) (by omega)
 refine W.bs e2 ?_
 ((with_reducible repeat refine W.a2 ?_))
 refine W.ite (fun c=>?_) (fun c=>?_)
 ·obtain ⟨z,h3,e3,z0,z1,z2,d,_⟩:=d.below (n:=4) (by omega)
  refine W.bs e3 ?_
  ((with_reducible repeat refine W.a2 ?_))
  obtain ⟨h4,e4,k4⟩:=mkPid_run (base:=base) (h:=h3) (v:=IntKind.wrap .i64 ((1 : Int) + z)) d.ge
  have d:=d.kN k4
  refine W.bs e4 ?_
  ((with_reducible repeat first|refine W.a1 d ?_|refine W.a2 ?_|refine W.a5 d fun hw d lw kw=>?_))
  have z1:=z1 (by omega)
  rw [w64i (n:=(1 : Int) + z) (by omega) (by omega)]
  refine W.ret ⟨.mk 3 (1 + z) ⟨#[]⟩ [],_,rfl,fun S y=>(leafD (by decide)).1,(Gt.leaf (by unfold shB inB; simp; omega) 2).ok (by decide),d.cur0,d.kb⟩
 ·obtain ⟨z,h3,e3,z0,z1,z2,d,_⟩:=d.below (n:=9) (by omega)
  refine W.bs e3 ?_
  ((with_reducible repeat refine W.a2 ?_))
  obtain ⟨h4,e4,k4⟩:=mkInt_run (base:=base) (h:=h3) (v:=z) d.ge
  have d:=d.kN k4
  refine W.bs e4 ?_
  ((with_reducible repeat first|refine W.a1 d ?_|refine W.a2 ?_|refine W.a5 d fun hw d lw kw=>?_))
  have z1:=z1 (by omega)
  refine W.ret ⟨.mk 1 z ⟨#[]⟩ [],_,rfl,fun S y=>(leafD (by decide)).1,(Gt.leaf (by unfold shB inB; simp; omega) 2).ok (by decide),d.cur0,d.kb⟩
theorem l11Word_run {base cb : Nat} : WordQ base cb 174:=by
 intro h x
 have hlt:=x.lt
 have hb : base≤h.length:=by omega
 suffices w : Wp (run (Et base) 174 [.pointer (at0 cb)] h) fun o=>∃ t cs S,o.1 = .agg cs.toArray∧TmG base 10 S o.2 t cs∧(∀ b,S b→h.length≤b∧b < o.2.length)∧tOk 10 t = true∧CurR base cb o.2∧KB (· = cb) h o.2 by
  obtain ⟨⟨o1,o2⟩,e,t,cs,S,y1,y2,y3,y4⟩:=w
  simp only at y1 y2 y3 y4
  subst y1
  exact ⟨t,cs,o2,e,TmG.mo _ _ _ _ _ _ _ (fun b hb=>y3 b hb) y2,y4⟩
 have d:=Hs.startC x hb
 refine W.of (fun r hx=>Am.r174 hx) ?_
 ((refine W.nD d fun h1 d _ kh1=>?_))
 obtain ⟨b,h2,e2,d,_⟩:=d.once (n:=2) (by omega)
 refine W.bs e2 ?_
 ((with_reducible repeat refine W.a2 ?_))
 have fin : ∀ {y : AH} {D : Ds} {C : Fp} {A : AH→Prop},Hs base (· = cb) h y D [rArg base h,rCur base cb h,⟨C,true,A⟩]→∀ b,C b→h.length≤b∧b < y.length:=fun d b hb=>by
  have fr:=d.rfr (i:=2) rfl rfl b hb
  refine ⟨fr.resolve_left fun e=>?_,d.rlt (i:=2) rfl b hb⟩
  have dj:=d.dj
  simp only [List.pairwise_cons] at dj
  exact dj.2.1 _ (.head _) rfl b e hb
 refine W.ite (fun c=>?_) (fun c=>?_)
 ·obtain ⟨t,tcs,h3,C,e3,gt,d,_⟩:=d.draw (drawQ 2 (by omega))
  refine W.bs e3 ?_
  obtain ⟨k1,k2,k3,k4,k5,rfl⟩:=(d.rs (i:=2) rfl : TmG base 3 C h3 t tcs).form
  ((try simp only [n1,n2,n3,n4,n5,n6] at d); (with_reducible repeat first|refine W.a1 d ?_|refine W.a2 ?_|refine W.a5 d fun hw d lw kw=>?_))
  exact W.ret ⟨t,_,C,rfl,TmG.le (by decide) (d.rs (i:=2) rfl : TmG base 3 C _ t _),fin d,gt.ok (by decide),d.cur0,d.kb⟩
 ·obtain ⟨t,tcs,h3,e3,gt,ok,x3,k3⟩:=l11Plain_run h2 d.cur0
  have d:=d.drawC (j:=0) (i:=1) rfl rfl x3 k3 _ (fun y=>TmG base 10 (iS h2.length h3.length) y t tcs) gt (fun U y y' ky hs z=>TmG.kp _ _ _ U y y' _ _ ky hs z) (fun b hb=>hb)
  obtain ⟨k1,k2,k3,k4,k5,rfl⟩:=gt.form
  refine W.bs e3 ?_
  ((try simp only [n1,n2,n3,n4,n5,n6] at d); (with_reducible repeat first|refine W.a1 d ?_|refine W.a2 ?_|refine W.a5 d fun hw d lw kw=>?_))
  exact W.ret ⟨t,_,_,rfl,(d.rs (i:=2) rfl : TmG base 10 _ _ t _),fin d,ok,d.cur0,d.kb⟩
theorem belowA {base cb : Nat} {W : Fp} {hX h0 h : AH} {D : Ds} {R : List Rs} {n : Int} (d : Hs base W h0 h D (rArg base hX :: rCur base cb hX :: R)) (hn : n≤1000000) : ∃ z h',run (Et base) 133 [.pointer (at0 cb),.int .i64 n] h = some (.int .i64 z,h')∧Hs base W h0 h' D (rArg base hX :: rCur base cb hX :: R)∧KB (· = cb) h h':=by
 by_cases c : n≤256
 ·obtain ⟨z,h',e,_,_,_,d,k⟩:=d.below c
  exact ⟨z,h',e,d,k⟩
 ·obtain ⟨z,h',e,x,k,_⟩:=l1Below_big (n:=n) d.cur0 (by omega) hn
  exact ⟨z,h',e,d.drawn0 x k,k⟩
theorem l11Run_run {base f pb i n : Nat} {a b g : Option Addr} {Sc S So : Fp} {mc : Bool} {P : Pl} {V : Fp} {h0 h : AH} (hF : 6≤f + 1) (hn : n≤1000000) (gp : GP (f + 1) P) (hl : 0 < P.acs.length) (d : Hs base V h0 h [(pb,36,plV a P.code.length b P.acs.length P.next g P.out.length)] [rCo Sc mc a P.code,rAs base (f + 1) S P.acs b,rSs base (f + 1) So P.out g]) :
  Wp (run (Et base) 176 [.pointer (at0 pb),.int .i64 (i : Int),.int .i64 (n : Int)] h) fun o=>o.1 = .tuple #[]∧∃ b' g' S' So',Hs base V h0 o.2 [(pb,36,plV a P.code.length b' (runP (f + 1) (P.acs.getD (i % P.acs.length) a0).pid n P).acs.length (runP (f + 1) (P.acs.getD (i % P.acs.length) a0).pid n P).next g' (runP (f + 1) (P.acs.getD (i % P.acs.length) a0).pid n P).out.length)] [rCo Sc mc a P.code,rAs base (f + 1) S' (runP (f + 1) (P.acs.getD (i % P.acs.length) a0).pid n P).acs b',rSs base (f + 1) So' (runP (f + 1) (P.acs.getD (i % P.acs.length) a0).pid n P).out g']:=by
 have hi : i % P.acs.length < P.acs.length:=Nat.mod_lt _ hl
 rw [aD hi]
 refine W.of (fun r hx=>Am.r176 hx) ?_
 ((with_reducible repeat first|refine W.a1 d ?_|refine W.bo ?_))
 refine W.ifF (by dsimp only; omega) ?_
 have em : Int.tmod (i : Int) (P.acs.length : Int) = ((i % P.acs.length : Nat) : Int):=rfl
 show Wp (if 0≤Int.tmod (i : Int) (P.acs.length : Int)∧Int.tmod (i : Int) (P.acs.length : Int) < (P.acs.length : Int) then _ else _) _
 rw [em]
 refine W.ifT ⟨by omega,by omega⟩ ?_
 obtain ⟨ad,x1,x2,x3,rfl,hbl,g0,_⟩:=AsR.get (RowO.asR (d.rs (i:=1) rfl)) hi
 refine W.bo ?_
 rw [Int.toNat_natCast]
 refine W.bI g0 ?_
 have hat : ¬ atL P.acs[i % P.acs.length].pid 0 P.acs < 0:=by
  rcases atL_spec P.acs[i % P.acs.length].pid P.acs 0 with ⟨_,h⟩|⟨k,hk,ek,_⟩
  ·exact absurd rfl (h _ (List.getElem_mem hi))
  ·omega
 refine W.wb (l11Run_loop (base:=base) (n:=n) hF hn n 0 true h (some ad) g S So P (by omega) gp (fun _=>hat) d) ?_
 rintro ⟨q1,q2,h2⟩ ⟨y1,b',g',S',So',d⟩
 simp only at y1 d
 subst y1
 exact W.ifT rfl (W.ret ⟨rfl,b',g',S',So',d⟩)
abbrev evR (base cb : Nat) (hX : AH) (Sc : Fp) (mc : Bool) (a : Option Addr) (code : List In) (S : Fp) (acs : List Ac) (b : Option Addr) (So : Fp) (out : List Sd) (g : Option Addr) : List Rs:=[rArg base hX,rCur base cb hX,rCo Sc mc a code,rAs base 10 S acs b,rSs base 10 So out g]
def EvQ (base cb pb : Nat) (V : Fp) (hX h0 : AH) (Sc : Fp) (mc : Bool) (a : Option Addr) (code : List In) (y : AH) : Prop:=
 ∃ P' b' g' S' So',GP 10 P'∧P'.code = code∧Hs base V h0 y [(pb,36,plV a code.length b' P'.acs.length P'.next g' P'.out.length)] (evR base cb hX Sc mc a code S' P'.acs b' So' P'.out g')
theorem l11Event_run {base cb pb : Nat} {a b g : Option Addr} {Sc S So : Fp} {mc : Bool} {P : Pl} {V : Fp} {hX h0 h : AH} (gp : GP 10 P) (d : Hs base V h0 h [(pb,36,plV a P.code.length b P.acs.length P.next g P.out.length)] (evR base cb hX Sc mc a P.code S P.acs b So P.out g)) :
  Wp (run (Et base) 134 [.pointer (at0 cb),.pointer (at0 pb)] h) fun r=>r.1 = .tuple #[]∧EvQ base cb pb V hX h0 Sc mc a P.code r.2:=by
 have hx:=gp.nx
 have hl:=gp.len
 have hsz:=gp.size
 refine W.of (fun r hx=>Am.r134 hx) ?_
 ((with_reducible repeat first|refine W.a1 d ?_|refine W.bo ?_))
 obtain ⟨z1,h1,e1,d,_⟩:=belowA (n:=P.next) d (by omega)
 refine W.bs e1 ?_
 ((with_reducible repeat refine W.a2 ?_))
 refine W.joinP (fun q=>∃ v,q.1 = [some (.pointer (at0 cb)),some (.pointer (at0 pb)),some (.int .i64 v)]∧Hs base V h0 q.2 [(pb,36,plV a P.code.length b P.acs.length P.next g P.out.length)] (evR base cb hX Sc mc a P.code S P.acs b So P.out g)) ?_ ?_
 ·((with_reducible repeat first|refine W.a1 d ?_|refine W.bo ?_))
  refine W.ite (fun c=>?_) (fun c=>?_)
  ·have c : 0 < P.acs.length:=by simpa using c
   ((with_reducible repeat first|refine W.a1 d ?_|refine W.bo ?_))
   obtain ⟨z2,h2,e2,y0,y1,y2,d,_⟩:=d.below (n:=(P.acs.length : Int)) (by omega)
   refine W.bs e2 ?_
   ((with_reducible repeat first|refine W.a2 ?_|refine W.a6 d ?_|refine W.a8 ?_))
   have y1:=y1 (by omega)
   have hi : z2.toNat < P.acs.length:=by omega
   obtain ⟨ad,x1,x2,x3,rfl,hbl,g0,_⟩:=AsR.get (RowO.asR (d.rs (i:=3) rfl)) hi
   refine W.bo ?_
   refine W.bI g0 ?_
   exact W.inl ⟨_,rfl,d⟩
  ·exact W.inl ⟨_,rfl,d⟩
 rintro ⟨q1,h2⟩ ⟨pid,y1,d⟩
 simp only at y1 d
 subst y1
 ((with_reducible repeat refine W.a2 ?_))
 obtain ⟨z3,h3,e3,y0,y1,y2,d,_⟩:=d.below (n:=8) (by omega)
 refine W.bs e3 ?_
 ((with_reducible repeat refine W.a2 ?_))
 refine W.joinP (fun q=>∃ B,q.1 = [some (.pointer (at0 cb)),some (.pointer (at0 pb)),some (.int .i64 pid),some (.int .i64 z3),some (.bool B)]∧q.2 = h3) ?_ ?_
 ·refine W.ite (fun c=>W.inl ⟨_,rfl,rfl⟩) (fun c=>?_)
  exact W.ite (fun c=>W.inl ⟨_,rfl,rfl⟩) (fun c=>W.inl ⟨_,rfl,rfl⟩)
 rintro ⟨q1,h4⟩ ⟨B,y1',y2'⟩
 simp only at y1' y2'
 subst y1'; subst y2'
 ((with_reducible repeat refine W.a2 ?_))
 refine W.ite (fun c=>?_) (fun c=>?_)
 ·obtain ⟨t,tcs,h5,e5,tg,tok,x5,k5⟩:=l11Word_run h4 d.cur0
  have d:=d.drawC (j:=0) (i:=1) rfl rfl x5 k5 _ (fun y=>TmG base 10 (iS h4.length h5.length) y t tcs) tg (fun U y y' ky hs z=>TmG.kp _ _ _ U y y' _ _ ky hs z) (fun b hb=>hb)
  obtain ⟨k1,k2,k3,k4,m5,rfl⟩:=tg.form
  refine W.bs e5 ?_
  ((try simp only [n1,n2,n3,n4,n5,n6] at d); (with_reducible repeat refine W.a2 ?_))
  have d:=d.frontR (Del.at (i:=3) rfl)
  have d:=d.frontR (Del.at (i:=5) rfl)
  have d:=d.frz (fun y=>TmR y (iS h4.length h5.length) 10 t (termV k1 k2 k3 k4 m5)) (TmG.tmR (d.rs (i:=0) rfl)) (fun U y y' k hs x=>TmR.keep k hs _ _ _ x)
  have d1:=Hs.part (D1:=[_]) (R1:=[_,_]) (D2:=[]) d
  refine W.wb (l11Told_run (base:=base) (pid:=pid) (by omega) hsz.2.2.2 (tOk_B tok).1 (Nat.le_refl _) d1) ?_
  rintro ⟨u,h6⟩ ⟨w1,S',d2⟩
  simp only at w1 d2
  subst w1
  have d:=Hs.back (D1:=[_]) (R1:=[_,_]) (D2:=[]) d d2 (fun r hr hm=>by
   simp only [List.mem_cons,List.not_mem_nil,or_false] at hr
   rcases hr with rfl|rfl
   ·exact ⟨_,.head _,hm,rfl⟩
   ·cases hm)
  ((try simp only [n1,n2,n3,n4,n5,n6] at d); (with_reducible repeat refine W.a2 ?_))
  have d:=d.frontR (Del.at (i:=5) rfl)
  have d:=d.frontR (Del.at (i:=2) rfl)
  have d:=d.frontR (Del.at (i:=5) rfl)
  have d:=d.frontR (Del.at (i:=5) rfl)
  have d:=d.frontR (Del.at (i:=5) rfl)
  have d:=d.takeR 5
  refine W.ret ⟨rfl,⟨P.code,toldL pid t P.acs,P.next,P.out⟩,b,g,S',So,gp.told tok,rfl,?_⟩
  dsimp only
  rw [toldL_len]
  exact d
 refine W.ite (fun c3=>?_) (fun c3=>?_)
 ·obtain ⟨b5,h5,e5,d,_⟩:=d.once (n:=4) (by omega)
  refine W.bs e5 ?_
  ((with_reducible repeat refine W.a2 ?_))
  refine W.ite (fun c4=>?_) (fun c4=>?_)
  ·obtain ⟨t,tcs,h6,C,e6,gt,d,_⟩:=d.draw (drawQ 0 (by omega))
   refine W.bs e6 ?_
   have tg : TmG base 1 C h6 t tcs:=d.rs (i:=5) rfl
   obtain ⟨k1,k2,k3,k4,m5,rfl⟩:=tg.form
   have tok : tOk 10 t = true:=gt.up.up.ok (by decide)
   ((try simp only [n1,n2,n3,n4,n5,n6] at d); (with_reducible repeat refine W.a2 ?_))
   have d:=d.frontR (Del.at (i:=4) rfl)
   have d:=d.frontR (Del.at (i:=4) rfl)
   have d:=d.frontR (Del.at (i:=5) rfl)
   have d:=d.frz (fun y=>TmR y C 10 t (termV k1 k2 k3 k4 m5)) (TmG.tmR (TmG.le (by decide) (d.rs (i:=0) rfl : TmG base 1 C _ t _))) (fun U y y' k hs x=>TmR.keep k hs _ _ _ x)
   obtain ⟨kt,nt,st,lt⟩:=t
   obtain ⟨at_,ea,_⟩:=(d.rs (i:=0) rfl : TmR _ C 10 _ _).parts
   injection ea with ea1 ea
   injection ea1 with _ ea1
   injection ea with ea2 ea
   injection ea2 with _ ea2
   injection ea with ea3 ea
   injection ea3 with ea3
   injection ea with ea4 ea
   injection ea4 with ea4 ea5
   subst ea1; subst ea2; subst ea3; subst ea4; subst ea5
   have d1:=Hs.part (D1:=[_]) (R1:=[_,_,_]) (D2:=[]) d
   refine W.wb (l11Ends_run (base:=base) (t:=.mk k1 k2 k3 lt) (tOk_B tok).1 P.acs.length P pid a b g S So _ _ _ (Nat.le_refl _) hsz.e d1) ?_
   rintro ⟨u,h7⟩ ⟨w1,b',g',S',So',d2⟩
   simp only at w1 d2
   subst w1
   have d:=Hs.back (D1:=[_]) (R1:=[_,_,_]) (D2:=[]) d d2 (im3 rfl rfl rfl)
   ((try simp only [n1,n2,n3,n4,n5,n6] at d); (with_reducible repeat refine W.a3 ?_))
   obtain ⟨ec,en⟩:=endP_code (okA k1 k2 k3 lt.length) (.mk k1 k2 k3 lt) P.acs.length pid P
   have d:=d.frontR (Del.at (i:=5) rfl)
   have d:=d.frontR (Del.at (i:=5) rfl)
   have d:=d.frontR (Del.at (i:=5) rfl)
   have d:=d.subR (R':=[_,_,_,_,_]) ((List.Sublist.refl [_,_,_]).append (List.sublist_cons_self _ [_,_]))
   refine W.ret ⟨rfl,endP (okA k1 k2 k3 lt.length) (.mk k1 k2 k3 lt) P.acs.length pid P,b',g',S',So',GP.endP tok _ _ _ gp,ec,?_⟩
   rw [en]
   exact d
  ·exact W.ret ⟨rfl,P,b,g,S,So,gp,rfl,d⟩
 ((with_reducible repeat first|refine W.a1 d ?_|refine W.bo ?_))
 refine W.ite (fun c5=>?_) (fun c5=>?_)
 ·have c5 : 0 < P.acs.length:=by simpa using c5
  obtain ⟨z6,h6,e6,v0,v1,v2,d,_⟩:=d.below (n:=20) (by omega)
  refine W.bs e6 ?_
  ((with_reducible repeat refine W.a2 ?_))
  obtain ⟨z7,h7,e7,u0,u1,u2,d,_⟩:=d.below (n:=20) (by omega)
  refine W.bs e7 ?_
  ((with_reducible repeat refine W.a2 ?_))
  have u1:=u1 (by omega)
  have v1:=v1 (by omega)
  rw [w64i (n:=(1 : Int) + z7) (by omega) (by omega)]
  obtain ⟨i6,rfl⟩ : ∃ i : Nat,z6 = (i : Int):=⟨z6.toNat,by omega⟩
  obtain ⟨i7,e77⟩ : ∃ i : Nat,(1 : Int) + z7 = (i : Int):=⟨((1 : Int) + z7).toNat,by omega⟩
  rw [e77]
  have d:=d.frontR (Del.at (i:=4) rfl)
  have d:=d.frontR (Del.at (i:=4) rfl)
  have d:=d.frontR (Del.at (i:=4) rfl)
  have d1:=Hs.part (D1:=[_]) (R1:=[_,_,_]) (D2:=[]) d
  refine W.wb (l11Run_run (base:=base) (f:=9) (i:=i6) (n:=i7) (by decide) (by omega) gp c5 d1) ?_
  rintro ⟨u,h8⟩ ⟨w1,b',g',S',So',d2⟩
  simp only at w1 d2
  subst w1
  have d:=Hs.back (D1:=[_]) (R1:=[_,_,_]) (D2:=[]) d d2 (fun r hr hm=>by
   simp only [List.mem_cons,List.not_mem_nil,or_false] at hr
   rcases hr with rfl|rfl|rfl
   ·exact ⟨_,.head _,hm,rfl⟩
   ·cases hm
   ·cases hm)
  ((try simp only [n1,n2,n3,n4,n5,n6] at d); (with_reducible repeat refine W.a3 ?_))
  have d:=d.frontR (Del.at (i:=4) rfl)
  have d:=d.frontR (Del.at (i:=4) rfl)
  have hi : i6 % P.acs.length < P.acs.length:=Nat.mod_lt _ c5
  have hat : ¬ atL (P.acs.getD (i6 % P.acs.length) a0).pid 0 P.acs < 0:=by
   rw [aD hi]
   rcases atL_spec P.acs[i6 % P.acs.length].pid P.acs 0 with ⟨_,h⟩|⟨k,hk,ek,_⟩
   ·exact absurd rfl (h _ (List.getElem_mem hi))
   ·omega
  obtain ⟨g2,ec⟩:=GP.run (by decide) i7 gp hat
  exact W.ret ⟨rfl,_,b',g',S',So',g2,ec,d⟩
 ·exact W.ret ⟨rfl,P,b,g,S,So,gp,rfl,d⟩
section
variable {F : Nat} {P : Pl}
theorem anyLk_iff {acs : List Ac} {v : Int} : ∀ {l : List Int},anyLk acs v l = false↔∀ n∈l,badLk acs v n = false
 | []=>⟨fun _ n hn=>(nomatch hn),fun _=>rfl⟩
 | x :: r=>by
  rw [anyLk,Bool.or_eq_false_iff,anyLk_iff]
  exact ⟨fun ⟨h1,h2⟩ y hy=>by rcases List.mem_cons.1 hy with rfl|hy; exact h1; exact h2 y hy,fun h=>⟨h x (.head _),fun y hy=>h y (.tail _ hy)⟩⟩
theorem anyA_iff {f : Nat} {P : Pl} : ∀ d i,anyA f P d i = false↔∀ j,i≤j→j < i + d→badA f P j = false
 | 0,i=>⟨fun _ j h1 h2=>by omega,fun _=>rfl⟩
 | d + 1,i=>by
  rw [anyA,Bool.or_eq_false_iff,anyA_iff d (i + 1)]
  refine ⟨fun ⟨h1,h2⟩ j h3 h4=>?_,fun h=>⟨h i (Nat.le_refl _) (by omega),fun j h3 h4=>h j (by omega) (by omega)⟩⟩
  by_cases e : j = i
  ·rw [e]; exact h1
  ·exact h2 j (by omega) (by omega)
theorem GP.rise (g : GP F P) {i j : Nat} (hij : i < j) (hj : j < P.acs.length) : P.acs[i].pid < P.acs[j].pid:=by
 have h:=List.pairwise_iff_getElem.1 g.so
 simp only [List.length_map,List.getElem_map] at h
 exact h i j (by omega) hj hij
theorem GP.plOk (g : GP F P) : plOk F P = true:=by
 unfold Am.plOk
 rw [g.co,inB_iff.2 g.nx,g.ou]
 have hl:=g.len
 rw [show decide (¬ (P.acs.length : Int) > 20) = true from decide_eq_true (by omega)]
 have ha : anyA F P P.acs.length 0 = false:=by
  rw [anyA_iff]
  intro j _ hj
  have hj : j < P.acs.length:=by omega
  have hm:=List.getElem_mem hj
  have hp : preA F P j = false:=by
   unfold preA
   rw [aD hj,if_neg (by rw [g.ac _ hm]; decide),if_neg (by have:=g.lt _ hm; simp; omega)]
   split
   ·rename_i c
    have c : (j : Int) > 0:=of_decide_eq_true c
    have hj1 : j - 1 < P.acs.length:=by omega
    rw [aD hj1]
    have:=g.rise (i:=j - 1) (j:=j) (by omega) hj
    exact decide_eq_false (by omega)
   ·rfl
  unfold badA
  rw [hp,if_neg (by decide),aD hj,anyLk_iff]
  intro n hn
  unfold badLk
  split
  ·rename_i c
   have c : atL n 0 P.acs ≥ 0:=of_decide_eq_true c
   rcases atL_spec n P.acs 0 with ⟨h,_⟩|⟨k,hk,ek,pk⟩
   ·omega
   ·have ek : (atL n 0 P.acs).toNat = k:=by omega
    rw [ek,aD hk,Bool.not_eq_false',hasI_iff]
    exact g.sy j k hj hk (by rw [pk]; exact hn)
  ·rfl
 rw [ha]
 rfl
theorem newP_GP (hF : 1≤F) {l : List In} {t : Tm} (hl : codeOk l = true) (ht : tOk F t = true) : GP F (newP F l t):=by
 have g0 : GP F ⟨l,[],1,[]⟩:=⟨hl,by show (1 : Int)≤1∧(1 : Int)≤90000; omega,by simp,saidOk_iff.2 ⟨fun x hx=>(nomatch hx),by simp⟩,fun A hA=>(nomatch hA),fun A hA=>(nomatch hA),fun A hA=>(nomatch hA),List.Pairwise.nil,fun i j hi=>absurd hi (Nat.not_lt_zero _)⟩
 have hlen:=codeOk_spec hl
 have:=g0.make hF (pc:=0) ht (by show (0 : Int)≤0∧(0 : Int) < (l.length : Int); omega) (by simp) (by show (1 : Int) < 90000; omega)
 exact this
def QB (P : Pl) : Prop:=P.code.length≤200∧(∀ y∈P.code,y.s.size≤1048576)∧P.acs.length≤20∧(∀ A∈P.acs,A.regs.length≤8∧A.box.length≤30∧A.links.length≤50)∧P.out.length≤501
theorem QB.m (x : QB P) : PlM P:=by
 obtain ⟨h1,h2,h3,h4,h5⟩:=x
 exact ⟨by omega,fun y hy=>by have:=h2 y hy; omega,by omega,fun A hA=>by obtain ⟨a1,a2,a3⟩:=h4 A hA; exact ⟨by omega,by omega,by omega⟩,by omega⟩
theorem GP.qb (g : GP F P) : QB P:=by
 obtain ⟨c1,_,c2⟩:=codeOk_spec g.co
 refine ⟨c1,fun y hy=>by have:=c2 y hy; omega,g.len,fun A hA=>?_,by have:=(saidOk_iff.1 g.ou).2; omega⟩
 obtain ⟨q1,q2,q3,q4,q5,q6,q7,q8⟩:=acOk_iff.1 (g.ac A hA)
 exact ⟨by omega,q6,(lkOk_iff.1 q8).1⟩
end
theorem Hs.newD {base : Nat} {W : Fp} {h0 h h' : AH} {D : Ds} (d : Hs base W h0 h D []) (x : CurR base h.length h') (k : KB NoB h h') : Hs base W h0 h' D [rArg base h',rCur base h.length h']:=by
 have d':=d.kN k
 refine ⟨d'.ge,d'.kb,d'.own,d'.nd,fun r hr=>?_,?_⟩
 ·simp only [List.mem_cons,List.not_mem_nil,or_false] at hr
  have hb:=d.ge
  have hk:=k.1
  rcases hr with rfl|rfl
  ·refine ⟨⟨Nat.le_trans hb hk,fun _ _=>rfl⟩,argOk,fun b (hb2 : b < base)=>by omega,fun m=>(nomatch m),fun x hx=>?_⟩
   have:=((d.own x hx).1.lt (blk_at0.2 rfl)).1
   show ¬ x.1 < base
   omega
  ·refine ⟨x.k fun _ _=>rfl,CurK.kp,fun b hb2=>by simp only at hb2; subst hb2; exact x.lt.2,fun _ b hb2=>by simp only at hb2; subst hb2; exact .inr d.kb.1,fun x hx=>?_⟩
   have:=((d.own x hx).1.lt (blk_at0.2 rfl)).2
   show ¬ x.1 = h.length
   omega
 ·simp only [List.pairwise_cons,List.mem_cons,List.not_mem_nil,or_false]
  refine ⟨fun r hr=>?_,?_⟩
  ·subst hr
   intro _ b h1 h2
   simp only at h1 h2
   have:=x.lt.1
   omega
  ·simp
def CodR (l : List In) (ao : Option Addr) (y : AH) : Prop:=Sl y ao (insR l)∧l.length≤200∧∀ y∈l,y.s.size≤1048576
theorem CodR.kp {l : List In} {ao : Option Addr} : ∀ (U : Fp) (h h' : AH),KB U h h'→(∀ b,blk ao b→¬ U b)→CodR l ao h→CodR l ao h':=fun U h h' k hs x=>⟨x.1.keep k hs,x.2⟩
abbrev rCod (l : List In) (ao : Option Addr) : Rs:=⟨blk ao,true,CodR l ao⟩
theorem Hs.callC {base cb : Nat} {W : Fp} {hX h0 h h' : AH} {D : Ds} {R R' : List Rs} (d : Hs base W h0 h D (rArg base hX :: rCur base cb hX :: R)) (z : Hs base (· = cb) h h' [] (rArg base h :: rCur base cb h :: R')) (hm : ∀ r∈R',r.mu = true) : Hs base W h0 h' D (rArg base hX :: rCur base cb hX :: (R++R')):=by
 have d':=d.drawn0 z.cur0 z.kb
 have hz : ∀ r∈R',∀ b,r.S b→h.length≤b∧b < h'.length:=fun r hr b hb=>by
  obtain ⟨_,_,x3,x4,_⟩:=z.res r (.tail _ (.tail _ hr))
  refine ⟨(x4 (hm r hr) b hb).resolve_left fun e=>?_,x3 b hb⟩
  have dj:=(List.pairwise_cons.1 (List.pairwise_cons.1 z.dj).2).1 r hr rfl b e
  exact dj hb
 refine ⟨d'.ge,d'.kb,d'.own,d'.nd,fun r hr=>?_,?_⟩
 ·rw [← List.cons_append,← List.cons_append] at hr
  rcases List.mem_append.1 hr with hr|hr
  ·exact d'.res r hr
  ·obtain ⟨x1,x2,x3,x4,_⟩:=z.res r (.tail _ (.tail _ hr))
   refine ⟨x1,x2,x3,fun _ b hb=>.inr ?_,fun x hx hS=>?_⟩
   ·have:=(hz r hr b hb).1
    have:=d.kb.1
    omega
   ·have:=((d.own x hx).1.lt (blk_at0.2 rfl)).2
    have:=(hz r hr _ hS).1
    omega
 ·rw [← List.cons_append,← List.cons_append,List.pairwise_append]
  refine ⟨d'.dj,(List.pairwise_cons.1 (List.pairwise_cons.1 z.dj).2).2,fun r hr s hs e b h1 h2=>?_⟩
  have:=(d.res r hr).2.2.1 b h1
  have:=(hz s hs b h2).1
  omega
theorem Hs.ofPlG {base F : Nat} {h h' : AH} {P : Pl} {cs : List Value} (hb : base≤h.length) (k : KB NoB h h') (x : PlG base F (iS h.length h'.length) h' P cs) :
  ∃ a b g Sc S So,cs = plV a P.code.length b P.acs.length P.next g P.out.length∧Hs base NoB h h' [] [rCo Sc true a P.code,rAs base F S P.acs b,⟨So,true,fun y=>RowO base 140 6 (SdD F) So y P.out g⟩]:=by
 obtain ⟨a,b,g,S1,S2,S3,e,h1,h2,h3,h4,s1,s2,s3,d12,d13,d23⟩:=x
 refine ⟨a,b,g,S1,S2,S3,e,Nat.le_trans hb k.1,k,fun x hx=>(nomatch hx),by simp,fun r hr=>?_,?_⟩
 ·simp only [List.mem_cons,List.not_mem_nil,or_false] at hr
  rcases hr with rfl|rfl|rfl
  ·exact ⟨h1.sl,fun U y y' ky hs z=>z.keep ky fun b hb=>hs b (h2 b hb),fun b hb=>(s1 b hb).2,fun _ b hb=>.inr (s1 b hb).1,fun x hx=>(nomatch hx)⟩
  ·exact ⟨h3,fun U y y' ky hs z=>RowO.keep (AcG.kp _ _) z ky hs,fun b hb=>(s2 b hb).2,fun _ b hb=>.inr (s2 b hb).1,fun x hx=>(nomatch hx)⟩
  ·exact ⟨h4,fun U y y' ky hs z=>RowO.keep (SdD.kp _) z ky hs,fun b hb=>(s3 b hb).2,fun _ b hb=>.inr (s3 b hb).1,fun x hx=>(nomatch hx)⟩
 ·simp only [List.pairwise_cons,List.mem_cons,List.not_mem_nil,or_false]
  refine ⟨fun r hr=>?_,fun r hr=>?_,?_⟩
  ·rcases hr with rfl|rfl
   ·exact fun _ b h1 h2=>d12 b h1 h2
   ·exact fun _ b h1 h2=>d13 b h1 h2
  ·subst hr
   exact fun _ b h1 h2=>d23 b h1 h2
  ·simp
def DrawP (base cb F : Nat) (args : List Value) (K : Pl→Prop) : Prop:=∀ h,CurR base cb h→∃ P a b g Sc S So h',run (Et base) F (.pointer (at0 cb) :: args) h = some (.agg (plV a P.code.length b P.acs.length P.next g P.out.length).toArray,h')∧K P∧Hs base (· = cb) h h' [] (evR base cb h Sc true a P.code S P.acs b So P.out g)
theorem l11Draw_loop {base cb pb rb : Nat} {a : Option Addr} {Sc : Fp} {mc : Bool} {code : List In} {V : Fp} {hX h0 : AH} : ∀ (k : Nat) (h : AH) (b g : Option Addr) (S So : Fp) (P : Pl),k≤1000→GP 10 P→P.code = code→Hs base V h0 h [(pb,36,plV a code.length b P.acs.length P.next g P.out.length)] (evR base cb hX Sc mc a code S P.acs b So P.out g) →
  Wp (loopL (B79_0 base) [some (.pointer (at0 cb)),some (.pointer (at0 rb)),some (.pointer (at0 pb)),some (.int .i64 (k : Int))] h) fun o=>o.1 = 2∧o.2.1 = [some (.pointer (at0 rb)),some (.pointer (at0 pb))]∧EvQ base cb pb V hX h0 Sc mc a code o.2.2:=by
 intro k
 induction k with
 | zero=>
  intro h b g S So P hk gp ec d
  suffices w : Wp (B79_0 base [some (.pointer (at0 cb)),some (.pointer (at0 rb)),some (.pointer (at0 pb)),some (.int .i64 ((0 : Nat) : Int))] h) fun o=>o = (2,[some (.pointer (at0 rb)),some (.pointer (at0 pb))],h) by
   obtain ⟨o,e,rfl⟩:=w
   exact ⟨_,loop_off (by decide) e,rfl,rfl,P,b,g,S,So,gp,ec,d⟩
  rw [B79_0_eq]
  exact W.ifF (by decide) (W.ret rfl)
 | succ k ih=>
  intro h b g S So P hk gp ec d
  suffices w : Wp (B79_0 base [some (.pointer (at0 cb)),some (.pointer (at0 rb)),some (.pointer (at0 pb)),some (.int .i64 ((k + 1 : Nat) : Int))] h) fun o=>o.1 = 0∧o.2.1 = [some (.pointer (at0 cb)),some (.pointer (at0 rb)),some (.pointer (at0 pb)),some (.int .i64 (k : Int))]∧EvQ base cb pb V hX h0 Sc mc a code o.2.2 by
   obtain ⟨⟨o1,o2,h'⟩,e,y1,y2,P',b',g',S',So',gp',ec',d'⟩:=w
   simp only at y1 y2 d'
   subst y1; subst y2
   obtain ⟨o,eo,q⟩:=ih h' b' g' S' So' P' (by omega) gp' ec' d'
   exact ⟨o,loop_on e eo,q⟩
  rw [B79_0_eq]
  refine W.ifT (by simp) ?_
  subst ec
  refine W.wb (l11Event_run (base:=base) (cb:=cb) gp d) ?_
  rintro ⟨u,h2⟩ ⟨w1,P',b',g',S',So',gp',ec',d'⟩
  simp only at w1 d'
  subst w1
  ((with_reducible repeat refine W.a3 ?_))
  rw [show IntKind.wrap .i64 (((k + 1 : Nat) : Int) - (1 : Int)) = (k : Int) from by rw [w64i (by omega) (by omega)]; omega]
  exact W.ret ⟨rfl,rfl,P',b',g',S',So',gp',ec',d'⟩
theorem l11Draw_run {base cb : Nat} {most : Int} (hm : most≤256) : DrawP base cb 79 [.int .i64 most] (GP 10):=by
 intro h x
 have hlt:=x.lt
 have hb : base≤h.length:=by omega
 suffices w : Wp (run (Et base) 79 [.pointer (at0 cb),.int .i64 most] h) fun o=>∃ P a b g Sc S So,o.1 = .agg (plV a P.code.length b P.acs.length P.next g P.out.length).toArray∧GP 10 P∧Hs base (· = cb) h o.2 [] (evR base cb h Sc true a P.code S P.acs b So P.out g) by
  obtain ⟨⟨o1,o2⟩,e,P,a,b,g,Sc,S,So,y1,y2,y3⟩:=w
  simp only at y1 y3
  subst y1
  exact ⟨P,a,b,g,Sc,S,So,o2,e,y2,y3⟩
 have d:=Hs.startC x hb
 refine W.of (fun r hx=>Am.r79 hx) ?_
 ((refine W.nD d fun h1 d _ kh1=>?_))
 obtain ⟨l,ao,h2,e2,hok,o2,hbl,hs2,x2,k2⟩:=l8Code_run d.cur0
 obtain ⟨hl200,hl1,_⟩:=codeOk_spec hok
 have d:=d.drawC (j:=0) (i:=1) rfl rfl x2 k2 (blk ao) (CodR l ao) ⟨o2.sl,hl200,hs2⟩ CodR.kp (fun b hb=>⟨hbl b hb,(o2.lt hb).2⟩)
 refine W.bs e2 ?_
 ((try simp only [n1,n2,n3,n4,n5,n6] at d); (with_reducible repeat refine W.a2 ?_))
 obtain ⟨t,tcs,h3,C,e3,gt,d,_⟩:=d.draw (drawQ 1 (by omega))
 refine W.bs e3 ?_
 have tg : TmG base 2 C h3 t tcs:=d.rs (i:=3) rfl
 obtain ⟨k1,k2',k3,k4,k5,rfl⟩:=tg.form
 have tok : tOk 10 t = true:=gt.up.ok (by decide)
 have cr : CodR l ao h3:=d.rs (i:=2) rfl
 ((try simp only [n1,n2,n3,n4,n5,n6] at d); (with_reducible repeat refine W.a2 ?_))
 obtain ⟨cs4,h4,e4,pg,k4'⟩:=specPlainNew_run (base:=base) (f:=9) h3 l ao C t _ cr.1 (by omega) cr.2.2 (TmG.tmR (TmG.le (by decide) tg)) (tOk_B tok).1 (d.rlt (i:=3) rfl) d.ge
 have gp:=newP_GP (F:=10) (by decide) hok tok
 have er : resP (9 + 1) l t = newP 10 l t:=by unfold resP; rw [if_pos gp.plOk]
 rw [er] at pg
 obtain ⟨a4,b4,g4,Sc4,S4,So4,rfl,z4⟩:=Hs.ofPlG d.ge k4' pg
 have d:=d.callR z4 (by simp)
 refine W.bs e4 ?_
 have ecd : (newP 10 l t).code = (newP 10 l t).code:=rfl
 generalize newP 10 l t = P at gp d ⊢
 ((try simp only [n1,n2,n3,n4,n5,n6] at d); (with_reducible repeat first|refine W.a2 ?_|refine W.a3 ?_); (refine W.nD d fun h5 d _ kh5=>?_); (with_reducible repeat refine W.a5 d fun hw d lw kw=>?_))
 obtain ⟨z6,h6,e6,y0,y1,y2,d,_⟩:=d.below (n:=most) hm
 refine W.bs e6 ?_
 ((try simp only [n1,n2,n3,n4,n5,n6] at d); (with_reducible repeat refine W.a2 ?_))
 obtain ⟨k,rfl⟩ : ∃ k : Nat,z6 = (k : Int):=⟨z6.toNat,by omega⟩
 have d : Hs base (· = cb) h h6 [(h4.length,36,plV a4 P.code.length b4 P.acs.length P.next g4 P.out.length),(h.length,36,plV none 0 none 0 0 none 0)] ([rArg base h,rCur base cb h,rCod l ao,⟨C,true,fun y=>TmG base 2 C y t (termV k1 k2' k3 k4 k5)⟩]++[rCo Sc4 true a4 P.code,rAs base 10 S4 P.acs b4,rSs base 10 So4 P.out g4]):=d
 have d:=d.subR (R':=[_,_,_,_,_]) ((List.Sublist.refl [_,_]).append ((List.Sublist.refl [_,_,_]).cons _ |>.cons _))
 have d1:=Hs.part (D1:=[_]) (R1:=[_,_,_,_,_]) (R2:=[]) d
 refine W.wb (l11Draw_loop (base:=base) (cb:=cb) (rb:=h.length) k h6 b4 g4 S4 So4 P (by omega) gp rfl d1) ?_
 rintro ⟨q1,q2,h7⟩ ⟨w1,w2,P',b',g',S',So',gp',ec',d2⟩
 simp only at w1 w2 d2
 subst w1; subst w2
 have d:=Hs.back (D1:=[_]) (R1:=[_,_,_,_,_]) (R2:=[]) d d2 (fun r hr hm=>by
  simp only [List.mem_cons,List.not_mem_nil,or_false] at hr
  rcases hr with rfl|rfl|rfl|rfl|rfl
  ·exact ⟨_,.head _,hm,rfl⟩
  ·cases hm
  ·cases hm
  ·cases hm
  ·cases hm)
 refine W.ifT rfl ?_
 ((try simp only [n1,n2,n3,n4,n5,n6] at d); (with_reducible repeat first|refine W.a1 d ?_|refine W.a2 ?_|refine W.a5 d fun hw d lw kw=>?_))
 refine W.ret ⟨P',a4,b',g',Sc4,S',So',?_,gp',?_⟩
 ·rw [ec']
 ·rw [ec']
  exact d.takeD 0
theorem size_run {base : Nat} {h : AH} {a : Option Addr} {n : Nat} {most : Int} (hn : n≤9223372036854775806) : ∃ z,run (Et base) 80 [.slice a n n,.int .i64 most] h = some (.int .i64 z,h)∧z≤most∧(0≤most→0≤z):=by
 have e : Int.tdiv (n : Int) (12 : Int) = ((n / 12 : Nat) : Int):=rfl
 have e2 : IntKind.wrap .i64 ((3 : Int) + IntKind.wrap .i64 (Int.tdiv (n : Int) (12 : Int))) = 3 + ((n / 12 : Nat) : Int):=by
  rw [e,w64i (n:=((n / 12 : Nat) : Int)) (by omega) (by omega),w64i (by omega) (by omega)]
 by_cases c : (3 : Int) + ((n / 12 : Nat) : Int) > most
 ·exact ⟨most,Am.r80 (by rw [e2,if_pos (decide_eq_true c)]),Int.le_refl _,id⟩
 ·exact ⟨_,Am.r80 (by rw [e2,if_neg (by simpa using c)]),by omega,fun _=>by omega⟩
theorem QB.acs {P : Pl} (x : QB P) {l : List Ac} (h1 : l.length≤20) (h2 : ∀ A∈l,A∈P.acs∨(A.regs.length≤8∧A.box.length≤30∧A.links.length≤50)) : QB ⟨P.code,l,P.next,P.out⟩:=
 ⟨x.1,x.2.1,h1,fun A hA=>(h2 A hA).elim (x.2.2.2.1 A) id,x.2.2.2.2⟩
theorem l11Any_run {base cb : Nat} {most : Int} (hm : most≤256) : DrawP base cb 81 [.int .i64 most] QB:=by
 intro h x
 have hlt:=x.lt
 have hb : base≤h.length:=by omega
 suffices w : Wp (run (Et base) 81 [.pointer (at0 cb),.int .i64 most] h) fun o=>∃ P a b g Sc S So,o.1 = .agg (plV a P.code.length b P.acs.length P.next g P.out.length).toArray∧QB P∧Hs base (· = cb) h o.2 [] (evR base cb h Sc true a P.code S P.acs b So P.out g) by
  obtain ⟨⟨o1,o2⟩,e,P,a,b,g,Sc,S,So,y1,y2,y3⟩:=w
  simp only at y1 y3
  subst y1
  exact ⟨P,a,b,g,Sc,S,So,o2,e,y2,y3⟩
 have d:=Hs.startC x hb
 refine W.of (fun r hx=>Am.r81 hx) ?_
 ((refine W.nD d fun h1 d _ kh1=>?_))
 obtain ⟨P,a,b,g,Sc,S,So,h2,e2,gp,z2⟩:=l11Draw_run (base:=base) hm h1 d.cur0
 have d:=d.callC z2 (by simp)
 refine W.bs e2 ?_
 ((try simp only [n1,n2,n3,n4,n5,n6] at d); (with_reducible repeat refine W.a2 ?_); (refine W.nD d fun h3 d _ kh3=>?_); (with_reducible repeat refine W.a5 d fun hw d lw kw=>?_))
 have qb:=gp.qb
 have d : Hs base (· = cb) h hw [(h2.length,36,plV a P.code.length b P.acs.length P.next g P.out.length),(h.length,36,plV none 0 none 0 0 none 0)] (evR base cb h Sc true a P.code S P.acs b So P.out g):=d
 refine W.joinP (fun q=>q.1 = [some (.pointer (at0 h.length)),some (.pointer (at0 h2.length))]∧∃ Q a' b' g' Sc' S' So',QB Q∧Hs base (· = cb) h q.2 [(h2.length,36,plV a' Q.code.length b' Q.acs.length Q.next g' Q.out.length),(h.length,36,plV none 0 none 0 0 none 0)] (evR base cb h Sc' true a' Q.code S' Q.acs b' So' Q.out g')) ?_ ?_
 ·obtain ⟨z4,h4,e4,y0,y1,y2,d,_⟩:=d.below (n:=14) (by omega)
  refine W.bs e4 ?_
  ((with_reducible repeat refine W.a2 ?_))
  refine W.ite (fun c=>?_) (fun c=>?_)
  ·((refine W.nD d fun h5 d _ kh5=>?_))
   obtain ⟨z6,h6,e6,hz6,d,_⟩:=d.pick (zs:=[0,1,90000,90001]) (.head _) (by decide) (by decide)
   refine W.bs e6 ?_
   ((with_reducible repeat first|refine W.a2 ?_|refine W.a5 d fun hw d lw kw=>?_))
   have d:=d.front (Del.at (i:=2) rfl)
   have d:=d.front (Del.at (i:=2) rfl)
   have d:=d.takeD 2
   exact W.inl ⟨rfl,⟨P.code,P.acs,z6,P.out⟩,a,b,g,Sc,S,So,⟨qb.1,qb.2.1,qb.2.2⟩,d⟩
  refine W.ite (fun c1=>?_) (fun c1=>?_)
  ·obtain ⟨l,ao,h5,e5,sl5,hl5,hs5,f5,x5,k5⟩:=l8Any_run d.cur0
   have d:=d.drawC (j:=0) (i:=1) rfl rfl x5 k5 (blk ao) (fun y=>Sl y ao (insR l)) sl5 (fun U y y' ky hs z=>z.keep ky hs) (fun b hb=>f5 b hb)
   refine W.bs e5 ?_
   ((try simp only [n1,n2,n3,n4,n5,n6] at d); (with_reducible repeat first|refine W.a2 ?_|refine W.a5 d fun hw d lw kw=>?_))
   have d:=d.frontR (Del.at (i:=4) rfl)
   have d:=d.frontR (Del.at (i:=4) rfl)
   have d:=d.frontR (Del.at (i:=5) rfl)
   have d:=d.frontR (Del.at (i:=4) rfl)
   have d:=d.frontR (Del.at (i:=4) rfl)
   have d:=d.takeR 5
   exact W.inl ⟨rfl,⟨l,P.acs,P.next,P.out⟩,ao,b,g,blk ao,S,So,⟨hl5,hs5,qb.2.2⟩,d⟩
  refine W.ite (fun c2=>?_) (fun c2=>?_)
  ·((with_reducible repeat refine W.a1 d ?_))
   refine W.ite (fun c3=>?_) (fun c3=>?_)
   ·have c3 : 0 < P.acs.length:=by simpa using c3
    ((with_reducible repeat refine W.a1 d ?_))
    obtain ⟨A,cs5,h5,e5,gA,any,x5,k5⟩:=l9Any_run (base:=base) (ca:=a) (n:=P.code.length) d.cur0 qb.1
    have d0:=d
    have d:=d.drawC (j:=0) (i:=1) rfl rfl x5 k5 _ (fun y=>AcG base 10 (iS h4.length h5.length) y A cs5) gA (fun U y y' ky hs z=>AcG.kp _ _ _ U y y' _ _ ky hs z) (fun b hb=>hb)
    obtain ⟨ra,rb,rc,rfl⟩:=gA.form2
    refine W.bs e5 ?_
    ((try simp only [n1,n2,n3,n4,n5,n6] at d); (with_reducible repeat first|refine W.a2 ?_|refine W.a6 d ?_|refine W.a8 ?_))
    have hSl:=d0.rlt (i:=3) rfl
    have row : RowO base 54 5 (AcG base 10) S h5 P.acs b:=d.rs (i:=3) rfl
    obtain ⟨C,csA,ad,hA,hcl,rfl,cells,hCS,hSb,hCb,mod⟩:=row.mod (AcG.kp _ _) (by decide) c3 (d.rlt (i:=3) rfl)
    obtain ⟨rd,re,rf,rfl⟩:=hA.form2
    have gA2 : AcG base 10 (iS h4.length h5.length) h5 A _:=d.rs (i:=5) rfl
    obtain ⟨h6,e6,r6,k6,l6⟩:=mod NoB (iS h4.length h5.length) h5 _ (acV A.pid A.pc ra A.regs.length rb A.box.length rc A.links.length) 0 A (KB.refl _ _) (fun b hb _=>hb.elim) (Nat.le_refl 5) (Nat.succ_pos 4) (by rfl) (fun h4' k4'=>AcG.kp _ _ _ _ _ _ _ _ k4' (fun b hb e=>by
     have e : b = ad.block:=e
     have:=hSl _ hSb
     have : h4.length≤b:=hb.1
     omega) gA2) (fun b hb hs=>by have : h4.length≤b:=hb.1; have:=hSl b hs; omega)
    refine W.bo ?_
    refine W.bs e6 ?_
    have d:=d.joinO (AcG.kp _ _) (Upd.at (i:=5) rfl) (Upd.at (i:=3) rfl) rfl rfl k6 r6 (fun b hb=>.inl ((show b = ad.block from hb) ▸ hSb)) (fun b hb=>hb.elim .inl fun hb=>.inr (.inl hb))
    have d:=d.takeR 5
    have el : (P.acs.set 0 A).length = P.acs.length:=List.length_set ..
    refine W.inl ⟨rfl,⟨P.code,P.acs.set 0 A,P.next,P.out⟩,a,some ad,g,Sc,_,So,qb.acs (by rw [el]; exact qb.2.2.1) (fun B hB=>?_),by dsimp only; rw [el]; exact d⟩
    rcases List.mem_or_eq_of_mem_set hB with hB|rfl
    ·exact .inl hB
    ·obtain ⟨q1,q2,q3,_⟩:=any
     exact .inr ⟨q1,by omega,by omega⟩
   ·exact W.inl ⟨rfl,P,a,b,g,Sc,S,So,qb,d⟩
  refine W.ite (fun c3=>?_) (fun c3=>?_)
  ·((with_reducible repeat refine W.a1 d ?_))
   obtain ⟨z5,h5,e5,_,_,_,d,_⟩:=d.below (n:=5) (by omega)
   refine W.bs e5 ?_
   ((with_reducible repeat first|refine W.a2 ?_|refine W.a6 d ?_))
   obtain ⟨z6,h6,e6,_,_,_,d,_⟩:=d.below (n:=3) (by omega)
   refine W.bs e6 ?_
   ((with_reducible repeat first|refine W.a2 ?_|refine W.a6 d ?_))
   obtain ⟨t,tcs,h7,e7,tg,tB,x7,k7⟩:=l1AnyG_run d.cur0
   obtain ⟨k1,k2,k3,k4,k5,rfl⟩:=tg.form
   have d:=d.drawC (j:=0) (i:=1) rfl rfl x7 k7 _ (fun y=>SdD 10 (iS h6.length h7.length) y ⟨z5,z6,t⟩ (saidV z5 z6 k1 k2 k3 k4 k5)) ⟨_,_,_,_,_,rfl,tg.d⟩ (fun U y y' ky hs z=>SdD.kp _ _ U y y' _ _ ky hs z) (fun b hb=>hb)
   refine W.bs e7 ?_
   ((try simp only [n1,n2,n3,n4,n5,n6] at d); (with_reducible repeat first|refine W.a2 ?_|refine W.a6 d ?_|refine W.a7 ?_); (refine W.nD d fun h8 d _ kh8=>?_))
   have hol:=qb.2.2.2.2
   obtain ⟨a9,h9,S9,e9,d,_,_,_⟩:=d.app1 (i:=4) (j:=5) (bytes:=72) (SdD.kp _) rfl rfl (by decide) (.head _) rfl (by decide) rfl (by omega) (by omega)
   refine W.bs e9 ?_
   ((try simp only [n1,n2,n3,n4,n5,n6] at d); (with_reducible repeat first|refine W.a2 ?_|refine W.a5 d fun hw d lw kw=>?_))
   have d:=d.takeR 5
   have d:=d.front (Del.at (i:=2) rfl)
   have d:=d.front (Del.at (i:=2) rfl)
   have d:=d.takeD 2
   have el : (P.out++[(⟨z5,z6,t⟩ : Sd)]).length = P.out.length + 1:=by simp
   have ho:=(saidOk_iff.1 gp.ou).2
   exact W.inl ⟨rfl,⟨P.code,P.acs,P.next,P.out++[⟨z5,z6,t⟩]⟩,a,b,a9,Sc,S,S9,⟨qb.1,qb.2.1,qb.2.2.1,qb.2.2.2.1,by rw [el]; omega⟩,by dsimp only; rw [el]; exact d⟩
  ·exact W.inl ⟨rfl,P,a,b,g,Sc,S,So,qb,d⟩
 rintro ⟨q1,h9⟩ ⟨y1,Q,a',b',g',Sc',S',So',qb',d⟩
 simp only at y1 d
 subst y1
 ((with_reducible repeat first|refine W.a1 d ?_|refine W.a2 ?_|refine W.a5 d fun hw d lw kw=>?_))
 exact W.ret ⟨Q,a',b',g',Sc',S',So',rfl,qb',d.takeD 0⟩
def DrawPl (base F : Nat) (K : Pl→Prop) : Prop:=∀ (h : AH) (a0 : Option Addr) (zs : List Int),Sl h a0 (iv .u8 zs)→(zs = []∨∀ b,blk a0 b→b < base)→zs.length≤9223372036854775806→base≤h.length→∃ P a b g Sc S So h',run (Et base) F [.slice a0 zs.length zs.length] h = some (.agg (plV a P.code.length b P.acs.length P.next g P.out.length).toArray,h')∧K P∧Hs base NoB h h' [] [rCo Sc true a P.code,rAs base 10 S P.acs b,rSs base 10 So P.out g]
theorem drawPlain_run {base : Nat} : DrawPl base 23 (GP 10):=by
 intro h a0 zs s hz hl hb
 suffices w : Wp (run (Et base) 23 [.slice a0 zs.length zs.length] h) fun o=>∃ P a b g Sc S So,o.1 = .agg (plV a P.code.length b P.acs.length P.next g P.out.length).toArray∧GP 10 P∧Hs base NoB h o.2 [] [rCo Sc true a P.code,rAs base 10 S P.acs b,rSs base 10 So P.out g] by
  obtain ⟨⟨o1,o2⟩,e,P,a,b,g,Sc,S,So,y1,y2,y3⟩:=w
  simp only at y1 y3
  subst y1
  exact ⟨P,a,b,g,Sc,S,So,o2,e,y2,y3⟩
 have d:=Hs.start hb
 refine W.of (fun r hx=>Am.r23 hx) ?_
 ((refine W.nD d fun h1 d _ kh1=>?_))
 obtain ⟨h2,e2,x2,k2,l2⟩:=l1New_run (s.keepN d.kb) hz hl d.ge
 refine W.bs e2 ?_
 have d:=d.newD x2 k2
 ((with_reducible repeat refine W.a2 ?_))
 obtain ⟨z3,e3,hz3,hz0⟩:=size_run (base:=base) (h:=h2) (a:=a0) (n:=zs.length) (most:=24) hl
 refine W.bs e3 ?_
 ((with_reducible repeat refine W.a2 ?_))
 have hw3 : IntKind.wrap .i64 ((6 : Int) + z3)≤256:=by
  have:=hz0 (by omega)
  rw [w64i (by omega) (by omega)]; omega
 obtain ⟨P,a,b,g,Sc,S,So,h4,e4,gp,z4⟩:=l11Draw_run (base:=base) hw3 h2 d.cur0
 have d:=d.callC z4 (by simp)
 refine W.bs e4 ?_
 ((try simp only [n1,n2,n3,n4,n5,n6] at d); (with_reducible repeat first|refine W.a1 d ?_|refine W.a2 ?_|refine W.a5 d fun hw d lw kw=>?_))
 exact W.ret ⟨P,a,b,g,Sc,S,So,rfl,gp,(d.takeD 0).subR (R':=[_,_,_]) (((List.Sublist.refl [_,_,_]).cons _).cons _)⟩
theorem drawPlainOk_run {base : Nat} : DrawPl base 24 QB:=by
 intro h a0 zs s hz hl hb
 suffices w : Wp (run (Et base) 24 [.slice a0 zs.length zs.length] h) fun o=>∃ P a b g Sc S So,o.1 = .agg (plV a P.code.length b P.acs.length P.next g P.out.length).toArray∧QB P∧Hs base NoB h o.2 [] [rCo Sc true a P.code,rAs base 10 S P.acs b,rSs base 10 So P.out g] by
  obtain ⟨⟨o1,o2⟩,e,P,a,b,g,Sc,S,So,y1,y2,y3⟩:=w
  simp only at y1 y3
  subst y1
  exact ⟨P,a,b,g,Sc,S,So,o2,e,y2,y3⟩
 have d:=Hs.start hb
 refine W.of (fun r hx=>Am.r24 hx) ?_
 ((refine W.nD d fun h1 d _ kh1=>?_))
 obtain ⟨h2,e2,x2,k2,l2⟩:=l1New_run (s.keepN d.kb) hz hl d.ge
 refine W.bs e2 ?_
 have d:=d.newD x2 k2
 ((with_reducible repeat refine W.a2 ?_))
 obtain ⟨z3,e3,hz3,hz0⟩:=size_run (base:=base) (h:=h2) (a:=a0) (n:=zs.length) (most:=16) hl
 refine W.bs e3 ?_
 ((with_reducible repeat refine W.a2 ?_))
 obtain ⟨P,a,b,g,Sc,S,So,h4,e4,gp,z4⟩:=l11Any_run (base:=base) (most:=z3) (by omega) h2 d.cur0
 have d:=d.callC z4 (by simp)
 refine W.bs e4 ?_
 ((try simp only [n1,n2,n3,n4,n5,n6] at d); (with_reducible repeat first|refine W.a1 d ?_|refine W.a2 ?_|refine W.a5 d fun hw d lw kw=>?_))
 exact W.ret ⟨P,a,b,g,Sc,S,So,rfl,gp,(d.takeD 0).subR (R':=[_,_,_]) (((List.Sublist.refl [_,_,_]).cons _).cons _)⟩
end Go.Proofs.Ytkdenmdijdmnjaa.Am
