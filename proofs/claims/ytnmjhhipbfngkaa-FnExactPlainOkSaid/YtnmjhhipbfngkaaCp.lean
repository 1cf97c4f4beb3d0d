/- Copies of terms: all rows of a copy are its own (both sides).
Conditions: none. -/
import Derived.Test.YtnmjhhipbfngkaaTm2
import Derived.Test.YtnmjhhipbfngkaaOk2
import Derived.Test.YtnmjhhipbfngkaaEq1
import Derived.Test.YtnmjhhipbfngkaaEq2
import Derived.Test.YtnmjhhipbfngkaaEq3
import Derived.Test.YtnmjhhipbfngkaaEq4
set_option linter.unusedSimpArgs false
set_option linter.unusedVariables false
namespace Go.Proofs.Ytnmjhhipbfngkaa.Am
open Go Go.RowKit

/-- A copy of a term. -/
def CopD (base f F : Nat) : Prop := ∀ (h : AH) (p : Nat → Prop) (t : Tm) (cs : List Value), TmR h p f t cs → TmB f t → base ≤ h.length → (∀ b, p b → b < h.length) →
  ∃ cs' h', run (Et base) F [.agg cs.toArray] h = some (.agg cs'.toArray, h') ∧ TmD f (iS h.length h'.length) h' t cs' ∧ KB NoB h h'
theorem TmD.form {f : Nat} {S : Fp} {h : AH} {t : Tm} {cs : List Value} (x : TmD f S h t cs) : ∃ k n s a m, cs = termV k n s a m := by
  cases f with
  | zero => exact x.elim
  | succ f => obtain ⟨k, n, s, l⟩ := t; obtain ⟨_, _, a, e, _⟩ := x; exact ⟨k, n, s, a, _, e⟩

end Go.Proofs.Ytnmjhhipbfngkaa.Am
