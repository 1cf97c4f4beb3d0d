/- What is read as terms, and as rows of what is said, are trees.
Conditions: none. -/
import Derived.Test.YtnmjhhipbfngkaaTm
set_option linter.unusedSimpArgs false
set_option linter.unusedVariables false
namespace Go.Proofs.Ytnmjhhipbfngkaa.Am
open Go Go.RowKit

theorem TmR.up {h : AH} {p : Nat → Prop} : ∀ (f : Nat) (t : Tm) (cs : List Value), TmR h p f t cs → TmR h p (f + 1) t cs
  | 0, _, _, x => x.elim
  | f + 1, .mk k n s l, cs, x => by
    obtain ⟨h1, h2, a, vs, h3, h4, h5, h6, h7⟩ := x
    exact ⟨h1, h2, a, vs, h3, h4, h5, h6, fun i t hi => TmR.up f t _ (h7 i t hi)⟩

set_option maxRecDepth 100000 in
theorem rd_term {h : AH} : ∀ (f : Nat) (cs : List Value), Rd Try.prog h f 24 cs → ∃ t, TmR h (· < h.length) f t cs := by
  have cT : Try.prog.cellsOf 24 = 4 := by kernel_rfl
  have c3 : Try.prog.cellsOf 3 = 1 := by kernel_rfl
  have c9 : Try.prog.cellsOf 9 = 1 := by kernel_rfl
  have cL : Try.prog.cellsOf 22 = 1 := by kernel_rfl
  intro f
  induction f using Nat.strongRecOn with
  | _ f ih =>
    intro cs x
    match f, ih, x with
    | 0, _, x => exact x.elim
    | f + 1, ih, x =>
      simp only [Rd, Try.underlying24] at x
      obtain ⟨hl, hf⟩ := x
      rw [cT] at hl
      match cs, hl with
      | [v0, v1, v2, v3], _ =>
        simp only [List.forall_mem_cons, c3, c9, cL, List.drop_zero, List.drop_succ_cons, List.take_succ_cons, List.take_zero] at hf
        obtain ⟨f0, f1, f2, f3, _⟩ := hf
        obtain ⟨n0, e0, _⟩ := f0.int Try.underlying3
        obtain ⟨n1, e1, _⟩ := f1.int Try.underlying3
        obtain ⟨s, e2, hs⟩ := f2.str Try.underlying9
        injection e0 with e0 _
        injection e1 with e1 _
        injection e2 with e2 _
        subst e0; subst e1; subst e2
        match f, ih, f3 with
        | 0, _, f3 => exact f3.elim
        | f + 1, ih, f3 =>
          simp only [Rd, Try.underlying22] at f3
          obtain ⟨a, n, vs, e3, h2, h3, h4, h5⟩ := f3
          injection e3 with e3 _
          subst e3
          rw [cT] at h4 h5
          have each : ∀ i, i < n → ∃ t, TmR h (· < h.length) f t ((vs.drop (i * 4)).take 4) := fun i hi => ih f (by omega) _ (h5 i hi)
          let g : Nat → Tm := fun i => if hi : i < n then (each i hi).choose else .mk 0 0 ⟨#[]⟩ []
          have hg : ∀ i, i < n → TmR h (· < h.length) f (g i) ((vs.drop (i * 4)).take 4) := by
            intro i hi
            simp only [g, hi, dite_true]
            exact (each i hi).choose_spec
          refine ⟨.mk n0 n1 s ((List.range n).map g), hs, by simpa using h2, a, vs, by simp, h3, sl_below h3, by simpa using h4, fun i t hi => ?_⟩
          have hlt : i < n := by have := (List.getElem?_eq_some_iff.1 hi).1; simpa using this
          simp [hlt] at hi
          subst hi
          exact TmR.up _ _ _ (hg i hlt)
end Go.Proofs.Ytnmjhhipbfngkaa.Am
