/- Rows of what is said, and how many ended for want of room.
Conditions: none. -/
import Derived.Test.YtnmjhhipbfngkaaAt
import Derived.Test.YtnmjhhipbfngkaaSd0
set_option linter.unusedSimpArgs false
set_option linter.unusedVariables false
namespace Go.Proofs.Ytnmjhhipbfngkaa.Am
open Go Go.RowKit

def nr : ByteArray := ⟨#[110, 111, 114, 111, 111, 109]⟩
def isNr (x : Sd) : Bool := match x.t with
  | .mk k n s l => (x.kind == 3) && isA k n s l.length nr
def cnt : List Sd → Nat
  | [] => 0
  | x :: r => (if isNr x then 1 else 0) + cnt r
theorem cnt_le : ∀ l, cnt l ≤ l.length
  | [] => Nat.le_refl _
  | x :: r => by simp only [cnt, List.length_cons]; have := cnt_le r; split <;> omega

end Go.Proofs.Ytnmjhhipbfngkaa.Am
