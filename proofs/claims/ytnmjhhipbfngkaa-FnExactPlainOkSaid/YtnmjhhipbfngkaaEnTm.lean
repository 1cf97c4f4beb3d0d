/- What is read as terms, and as rows of what is said, are trees.
Conditions: none. -/
import Derived.Test.YtnmjhhipbfngkaaSd6
import Derived.Test.YtnmjhhipbfngkaaEnT
set_option linter.unusedSimpArgs false
set_option linter.unusedVariables false
namespace Go.Proofs.Ytnmjhhipbfngkaa.Am
open Go Go.RowKit

set_option maxRecDepth 100000 in
theorem rd_saids {h : AH} {f : Nat} {v : Value} (x : Rd Try.prog h f 62 [v]) : ∃ g a l, v = .slice a (List.length l) (List.length l) ∧ l.length ≤ maxLen ∧ SsR h (· < h.length) g l a := by
  have cS : Try.prog.cellsOf 172 = 6 := by kernel_rfl
  have cT : Try.prog.cellsOf 24 = 4 := by kernel_rfl
  have c3 : Try.prog.cellsOf 3 = 1 := by kernel_rfl
  match f, x with
  | 0, x => exact x.elim
  | f + 1, x =>
    simp only [Rd, Try.underlying62] at x
    obtain ⟨a, n, vs, e, h2, h3, h4, h5⟩ := x
    injection e with e _
    subst e
    rw [cS] at h4 h5
    have each : ∀ i, i < n → ∃ x : Sd, ∃ cs, (vs.drop (i * 6)).take 6 = .int .i64 x.kind :: .int .i64 x.pid :: cs ∧ TmR h (· < h.length) f x.t cs := by
      intro i hi
      have y := h5 i hi
      match f, y with
      | 0, y => exact y.elim
      | f + 1, y =>
        simp only [Rd, Try.underlying172] at y
        obtain ⟨hl, hf⟩ := y
        generalize hcs : (vs.drop (i * 6)).take 6 = cs at hl hf
        rw [cS] at hl
        match cs, hl with
        | [v0, v1, v2, v3, v4, v5], _ =>
          simp only [List.forall_mem_cons, c3, cT, List.drop_zero, List.drop_succ_cons, List.take_succ_cons, List.take_zero] at hf
          obtain ⟨f0, f1, f2, _⟩ := hf
          obtain ⟨n0, e0, _⟩ := f0.int Try.underlying3
          obtain ⟨n1, e1, _⟩ := f1.int Try.underlying3
          injection e0 with e0 _
          injection e1 with e1 _
          subst e0; subst e1
          obtain ⟨t, ht⟩ := rd_term f _ f2
          exact ⟨⟨n0, n1, t⟩, _, rfl, TmR.up _ _ _ ht⟩
    let g : Nat → Sd := fun i => if hi : i < n then (each i hi).choose else ⟨0, 0, .mk 0 0 ⟨#[]⟩ []⟩
    have hg : ∀ i, i < n → ∃ cs, (vs.drop (i * 6)).take 6 = .int .i64 (g i).kind :: .int .i64 (g i).pid :: cs ∧ TmR h (· < h.length) f (g i).t cs := by
      intro i hi
      simp only [g, hi, dite_true]
      exact (each i hi).choose_spec
    refine ⟨f, a, (List.range n).map g, by simp, by simpa using h2, vs, h3, sl_below h3, by simpa using h4, fun i t hi => ?_⟩
    have hlt : i < n := by have := (List.getElem?_eq_some_iff.1 hi).1; simpa using this
    simp [hlt] at hi
    subst hi
    exact hg i hlt

end Go.Proofs.Ytnmjhhipbfngkaa.Am
