/- What is read as a row of instructions.
Conditions: none. -/
import Derived.Test.YtnmjhhipbfngkaaIn
set_option linter.unusedSimpArgs false
set_option linter.unusedVariables false
namespace Go.Proofs.Ytnmjhhipbfngkaa.Am
open Go Go.RowKit

set_option maxRecDepth 100000 in
theorem rd_ins1 {h : AH} {f : Nat} {cs : List Value} (x : Rd Try.prog h f 113 cs) : ∃ y : In, cs = inV y ∧ y.s.size ≤ maxLen := by
  have cT : Try.prog.cellsOf 113 = 6 := by kernel_rfl
  have c3 : Try.prog.cellsOf 3 = 1 := by kernel_rfl
  have c9 : Try.prog.cellsOf 9 = 1 := by kernel_rfl
  match f, x with
  | 0, x => exact x.elim
  | f + 1, x =>
    simp only [Rd, Try.underlying113] at x
    obtain ⟨hl, hf⟩ := x
    rw [cT] at hl
    match cs, hl with
    | [v0, v1, v2, v3, v4, v5], _ =>
      simp only [List.forall_mem_cons, c3, c9, List.drop_zero, List.drop_succ_cons, List.take_succ_cons, List.take_zero] at hf
      obtain ⟨f0, f1, f2, f3, f4, f5, _⟩ := hf
      obtain ⟨n0, e0, _⟩ := f0.int Try.underlying3
      obtain ⟨n1, e1, _⟩ := f1.int Try.underlying3
      obtain ⟨n2, e2, _⟩ := f2.int Try.underlying3
      obtain ⟨n3, e3, _⟩ := f3.int Try.underlying3
      obtain ⟨n4, e4, _⟩ := f4.int Try.underlying3
      obtain ⟨s, e5, hs⟩ := f5.str Try.underlying9
      injection e0 with e0 _
      injection e1 with e1 _
      injection e2 with e2 _
      injection e3 with e3 _
      injection e4 with e4 _
      injection e5 with e5 _
      subst e0; subst e1; subst e2; subst e3; subst e4; subst e5
      exact ⟨⟨n0, n1, n2, n3, n4, s⟩, rfl, hs⟩
set_option maxRecDepth 100000 in
theorem rd_ins {h : AH} {f : Nat} {u : Value} (x : Rd Try.prog h f 39 [u]) : ∃ a l, u = .slice a (List.length l) (List.length l) ∧ l.length ≤ maxLen ∧ Sl h a (insR l) ∧ ∀ y ∈ l, y.s.size ≤ maxLen := by
  have cT : Try.prog.cellsOf 113 = 6 := by kernel_rfl
  match f, x with
  | 0, x => exact x.elim
  | f + 1, x =>
    simp only [Rd, Try.underlying39] at x
    obtain ⟨a, n, vs, e, h2, h3, h4, h5⟩ := x
    injection e with e _
    subst e
    rw [cT] at h4 h5
    have each : ∀ i, i < n → ∃ y : In, (vs.drop (i * 6)).take 6 = inV y ∧ y.s.size ≤ maxLen := fun i hi => rd_ins1 (h5 i hi)
    let g : Nat → In := fun i => if hi : i < n then (each i hi).choose else ⟨0, 0, 0, 0, 0, ⟨#[]⟩⟩
    have hg : ∀ i, i < n → (vs.drop (i * 6)).take 6 = inV (g i) ∧ (g i).s.size ≤ maxLen := by
      intro i hi
      simp only [g, hi, dite_true]
      exact (each i hi).choose_spec
    have hv : vs = insR ((List.range n).map g) := by
      apply List.ext_getElem?
      intro q
      by_cases hq : q < n * 6
      · have hi : q / 6 < n := by omega
        have e1 : q = q / 6 * 6 + q % 6 := by omega
        have hm : q % 6 < 6 := Nat.mod_lt _ (by decide)
        have h1 : (insR ((List.range n).map g))[q / 6 * 6 + q % 6]? = (inV (g (q / 6)))[q % 6]? := insR_get (by simp [hi]) hm
        rw [← e1] at h1
        rw [h1, ← (hg _ hi).1, List.getElem?_take_of_lt hm, List.getElem?_drop, ← e1]
      · rw [List.getElem?_eq_none (by omega), List.getElem?_eq_none (by rw [insR_len]; simp; omega)]
    refine ⟨a, (List.range n).map g, by simp, by simpa using h2, by rw [← hv]; exact h3, fun y hy => ?_⟩
    obtain ⟨i, hi, rfl⟩ := List.mem_map.1 hy
    exact (hg i (by simpa using hi)).2
end Go.Proofs.Ytnmjhhipbfngkaa.Am
