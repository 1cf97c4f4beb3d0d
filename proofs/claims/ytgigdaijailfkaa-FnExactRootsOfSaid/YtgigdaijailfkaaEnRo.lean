/- The law on RootsOf, of what is read as a cell.
Conditions: none. -/
import Derived.Test.YtgigdaijailfkaaLRo
import Derived.Test.YtgigdaijailfkaaAm24
set_option linter.unusedSimpArgs false
set_option linter.unusedVariables false
namespace Go.Proofs.Ytgigdaijailfkaa.Am
open Go Go.RowKit

set_option maxRecDepth 100000 in
theorem cell_open {h : AH} {f : Nat} {cs : List Value} (x : Rd Try.prog h f 32 cs) :
    ∃ p pc at_ r b l R B L, cs = cellV p pc r b l R B L at_ ∧ Sl h r (iv .i64 R) ∧ Sl h b (iv .i64 B) ∧ Sl h l (iv .i64 L) ∧ R.length ≤ maxLen ∧ B.length ≤ maxLen ∧ L.length ≤ maxLen := by
  obtain ⟨hl, g, hf⟩ := x.struct Try.underlying32
  have c32 : Try.prog.cellsOf 32 = 6 := by kernel_rfl
  have c3 : Try.prog.cellsOf 3 = 1 := by kernel_rfl
  have c30 : Try.prog.cellsOf 30 = 1 := by kernel_rfl
  rw [c32] at hl
  match cs, hl with
  | [v0, v1, v2, v3, v4, v5], _ =>
    simp only [List.forall_mem_cons, c3, c30, List.drop_zero, List.drop_succ_cons, List.take_succ_cons, List.take_zero] at hf
    obtain ⟨f0, f1, f2, f3, f4, f5, _⟩ := hf
    obtain ⟨n0, e0, _⟩ := f0.int Try.underlying3
    obtain ⟨n1, e1, _⟩ := f1.int Try.underlying3
    obtain ⟨r, R, e2, m2, s2, _⟩ := f2.ints Try.underlying30 Try.underlying3 c3
    obtain ⟨b, B, e3, m3, s3, _⟩ := f3.ints Try.underlying30 Try.underlying3 c3
    obtain ⟨l, L, e4, m4, s4, _⟩ := f4.ints Try.underlying30 Try.underlying3 c3
    obtain ⟨n5, e5, _⟩ := f5.int Try.underlying3
    injection e0 with e0 _
    injection e1 with e1 _
    injection e2 with e2 _
    injection e3 with e3 _
    injection e4 with e4 _
    injection e5 with e5 _
    subst e0; subst e1; subst e2; subst e3; subst e4; subst e5
    exact ⟨n0, n1, n5, r, b, l, R, B, L, rfl, s2, s3, s4, m2, m3, m4⟩

theorem rootsOf_entry {base : Nat} {h : AH} {f : Nat} {cs : List Value} (x : Rd Try.prog h f 32 cs) (hb : base ≤ h.length) : ∃ h', run (Et base) 5 [.agg cs.toArray] h = some (.bool true, h') := by
  obtain ⟨p, pc, at_, r, b, l, R, B, L, rfl, s1, s2, s3, m1, m2, m3⟩ := cell_open x
  simp only [maxLen] at m1 m2 m3
  exact rootsOf_law s1 s2 s3 hb (by omega) (by omega) (by omega)
end Go.Proofs.Ytgigdaijailfkaa.Am
