/- Rows of what is said: copies.
Conditions: none. -/
import Derived.Test.YtnmjhhipbfngkaaSd4
set_option linter.unusedSimpArgs false
set_option linter.unusedVariables false
namespace Go.Proofs.Ytnmjhhipbfngkaa.Am
open Go Go.RowKit

theorem toSaid_run {base f : Nat} {h : AH} {p : Nat → Prop} {kind pid k n : Int} {s : ByteArray} {a : Option Addr} {m : Nat} {t : Tm} (hm : TmR h p f t (termV k n s a m)) (hB : TmB f t) (hb : base ≤ h.length) (hp : ∀ b, p b → b < h.length) :
    ∃ k' n' s' a' m' h', run (Et base) 131 [.agg (saidV kind pid k n s a m).toArray] h = some (.agg (saidV kind pid k' n' s' a' m').toArray, h') ∧ TmR h' (fun b => h.length ≤ b) f t (termV k' n' s' a' m') ∧ KB NoB h h' := by
  obtain ⟨o1, k1, q1⟩ := box_own (base := base) (t := 172) (h := h) (cs := saidV kind pid k n s a m) hb rfl
  generalize hh1 : h ++ [some (⟨saidV kind pid k n s a m, 172⟩ : Blk)] = h1 at o1 k1 q1
  obtain ⟨o2, k2, q2⟩ := box_own (base := base) (t := 174) (h := h1) (cs := saidV 0 0 0 0 ⟨#[]⟩ none 0) (by omega) rfl
  generalize hh2 : h1 ++ [some (⟨saidV 0 0 0 0 ⟨#[]⟩ none 0, 174⟩ : Blk)] = h2 at o2 k2 q2
  obtain ⟨o3, k3, q3⟩ := box_own (base := base) (t := 174) (h := h2) (cs := saidV 0 0 0 0 ⟨#[]⟩ none 0) (by omega) rfl
  generalize hh3 : h2 ++ [some (⟨saidV 0 0 0 0 ⟨#[]⟩ none 0, 174⟩ : Blk)] = h3 at o3 k3 q3
  have k03 : KB NoB h h3 := KB.trans (KB.trans k1 k2 (fun _ _ h => h) (fun _ _ h => h)) k3 (fun _ _ h => h) (fun _ _ h => h)
  have a3 := (o1.keepN k2).keepN k3
  have z3 := o2.keepN k3
  obtain ⟨h5, e5, o5, k5, l5⟩ := o3.wr0 (i := 0) (new := [.int .i64 kind]) (by simp) (by simp)
  have a5 := a3.keepB k5 fun i hi => by rw [blk_at0] at hi; omega
  have z5 := z3.keepB k5 fun i hi => by rw [blk_at0] at hi; omega
  obtain ⟨h7, e7, o7, k7, l7⟩ := o5.wr0 (i := 1) (new := [.int .i64 pid]) (by simp [setAt]) (by simp)
  have a7 := a5.keepB k7 fun i hi => by rw [blk_at0] at hi; omega
  have z7 := z5.keepB k7 fun i hi => by rw [blk_at0] at hi; omega
  have m7 := TmR.keep k7 (fun b h1 h2 => by have := hp b h1; omega) _ _ _ (TmR.keep k5 (fun b h1 h2 => by have := hp b h1; omega) _ _ _ (TmR.keep k03 (fun _ _ h => h) _ _ _ hm))
  obtain ⟨cs, h12, e12, m12, k12⟩ := toTerm_run (base := base) f h7 p t _ m7 hB (by omega) (fun b hbp => by have := hp b hbp; omega)
  have n12 := k12.1
  obtain ⟨k', n', s', a', m', rfl⟩ := m12.form
  obtain ⟨h18, e18, o18, k18, l18⟩ := (o7.keepN k12).wr0 (i := 2) (new := termV k' n' s' a' m') (by simp [setAt]) (by simp)
  have z18 := (z7.keepN k12).keepB k18 fun i hi => by rw [blk_at0] at hi; omega
  have m18 := TmR.keep k18 (fun b h1 h2 => by omega) _ _ _ m12
  have hout : setAt (setAt (setAt (saidV 0 0 0 0 ⟨#[]⟩ none 0) 0 [.int .i64 kind]) 1 [.int .i64 pid]) 2 (termV k' n' s' a' m') = saidV kind pid k' n' s' a' m' := rfl
  rw [hout] at o18
  obtain ⟨h25, e25, z25, k25, l25⟩ := z18.wr0 (i := 0) (new := saidV kind pid k' n' s' a' m') (by simp) (by simp)
  have hz : setAt (saidV 0 0 0 0 ⟨#[]⟩ none 0) 0 (saidV kind pid k' n' s' a' m') = saidV kind pid k' n' s' a' m' := rfl
  rw [hz] at z25
  have m25 := TmR.keep k25 (fun b h1 h2 => by omega) _ _ _ m18
  have c1 : ∀ {S : Nat → Prop} {x y : AH}, KB NoB h x → KB S x y → (∀ i, S i → h.length ≤ i) → KB NoB h y := fun u v hS => KB.trans u v (fun _ _ h => h) (fun i hi hs => by have := hS i hs; omega)
  have kAll : KB NoB h h25 := by
    refine c1 (c1 (c1 (c1 (c1 k03 k5 ?_) k7 ?_) k12 ?_) k18 ?_) k25 ?_ <;> (intro i hi; first | exact hi.elim | omega)
  refine ⟨k', n', s', a', m', h25, r131 (lets fun h1' eh => ?_), m25.mono (fun b hb' => by omega) _ _ _, kAll⟩
  rw [hh1] at eh
  subst eh
  refine lets fun h2' eh => ?_
  rw [hh2] at eh
  subst eh
  refine lets fun h3' eh => ?_
  rw [hh3] at eh
  subst eh
  refine bI (a3.at0 (i := 0) rfl) (bs e5 (bI (a5.at0 (i := 1) rfl) (bs e7 ?_)))
  refine bI (a7.at0 (i := 2) rfl) (bI (a7.at0 (i := 3) rfl) (bT (a7.at0 (i := 4) rfl) (bS (a7.at0 (i := 5) rfl) ?_)))
  refine bs e12 (bs (v := termV k' n' s' a' m') rfl (bI rfl (bI rfl (bT rfl (bS rfl (bs e18 ?_))))))
  refine bI (o18.at0 (i := 0) rfl) (bI (o18.at0 (i := 1) rfl) (bI (o18.at0 (i := 2) rfl) (bI (o18.at0 (i := 3) rfl) (bT (o18.at0 (i := 4) rfl) (bS (o18.at0 (i := 5) rfl) (bs e25 ?_))))))
  exact bI (z25.at0 (i := 0) rfl) (bI (z25.at0 (i := 1) rfl) (bI (z25.at0 (i := 2) rfl) (bI (z25.at0 (i := 3) rfl) (bT (z25.at0 (i := 4) rfl) (bS (z25.at0 (i := 5) rfl) rfl)))))
end Go.Proofs.Ytnmjhhipbfngkaa.Am
