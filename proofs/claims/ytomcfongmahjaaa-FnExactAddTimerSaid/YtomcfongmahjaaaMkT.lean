/- A term by itself marked; sums over rows.
Conditions: none. -/
import Derived.Test.YtomcfongmahjaaaMk
set_option linter.unusedSimpArgs false
set_option linter.unusedVariables false
namespace Go.Proofs.Ytomcfongmahjaaa.Am
open Go Go.RowKit

theorem markTerm_run {base f : Nat} {h : AH} {S : Fp} {t : Tm} {cs : List Value} {k : Int} (x : TmD (f + 1) S h t cs) (hS : ∀ b, S b → base ≤ b ∧ b < h.length) (hb : base ≤ h.length) (h0 : 0 ≤ k) (hk : k + 3 * ((tcnt (f + 1) t : Nat) : Int) ≤ 1000000000) :
    ∃ z h', run (Et base) 35 [.agg cs.toArray, .int .i64 k] h = some (.int .i64 z, h') ∧ 0 ≤ z ∧ KB S h h' := by
  obtain ⟨kk, n, s, l⟩ := t
  obtain ⟨h1, h2, a, rfl, r⟩ := x
  obtain ⟨o1, k1, q1⟩ := box_own (base := base) (t := 27) (h := h) (cs := termV kk n s a l.length) hb rfl
  generalize hh1 : h ++ [some (⟨termV kk n s a l.length, 27⟩ : Blk)] = h1 at o1 k1 q1
  simp only [tcnt] at hk
  obtain ⟨l', h3, e3, r3, len3, m3, k3⟩ := markTermS_run (base := base) f l h1 S a k (r.keep (TmD.kp _) k1 fun _ _ h => h) h2 (fun b hb => by have := hS b hb; omega) h0 (by omega)
  refine ⟨k + 3 * ((l.length + sumL (tcnt f) l : Nat) : Int), h3, r35 (lets fun y ey => ?_), by have := m3.le; omega, KB.trans k1 k3 (fun _ _ h => h.elim) (fun _ _ h => h)⟩
  rw [hh1] at ey
  subst ey
  exact bS (o1.at0 (i := 3) rfl) (bs e3 (bI rfl rfl))

theorem sumL_app {α : Type} (g : α → Nat) : ∀ (l r : List α), sumL g (l ++ r) = sumL g l + sumL g r
  | [], r => by simp [sumL]
  | x :: l, r => by simp only [List.cons_append, sumL, sumL_app g l r]; omega
end Go.Proofs.Ytomcfongmahjaaa.Am
