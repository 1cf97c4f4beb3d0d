/- Marks: each place of a tree written with a number of its own, and read again.
Conditions: none. -/
import Derived.Test.YtnmjhhipbfngkaaRw
import Derived.Test.YtnmjhhipbfngkaaEq1
import Derived.Test.YtnmjhhipbfngkaaEq2
import Derived.Test.YtnmjhhipbfngkaaEq3
import Derived.Test.YtnmjhhipbfngkaaEq4
set_option linter.unusedSimpArgs false
set_option linter.unusedVariables false
namespace Go.Proofs.Ytnmjhhipbfngkaa.Am
open Go Go.RowKit

def mtL : Nat → Int → ByteArray → ByteArray
  | 0, _, o => o
  | d + 1, k, o => if k > 0 then mtL d (Int.tdiv k 10) (bstr [IntKind.wrap .u8 (IntKind.wrap .i64 (48 + Int.tmod k 10))] ++ o) else o
/-- The text of a mark. -/
def mt (k : Int) : ByteArray := if k ≤ 0 then ⟨#[109, 48]⟩ else ⟨#[109]⟩ ++ mtL 63 k ⟨#[]⟩
theorem bstr1 (n : Int) : (bstr [n]).size = 1 := rfl
theorem mtL_size : ∀ (d : Nat) (k : Int) (o : ByteArray), (mtL d k o).size ≤ o.size + d
  | 0, k, o => by simp [mtL]
  | d + 1, k, o => by
    rw [mtL]
    split
    · have := mtL_size d (Int.tdiv k 10) (bstr [IntKind.wrap .u8 (IntKind.wrap .i64 (48 + Int.tmod k 10))] ++ o)
      rw [ByteArray.size_append, bstr1] at this
      omega
    · omega
theorem mt_size (k : Int) : (mt k).size ≤ 64 := by
  unfold mt
  split
  · decide
  · have := mtL_size 63 k ⟨#[]⟩
    rw [ByteArray.size_append]
    have h1 : (⟨#[109]⟩ : ByteArray).size = 1 := rfl
    have h2 : (⟨#[]⟩ : ByteArray).size = 0 := rfl
    omega
/-- Terms that hold the marks from k on, up to k'. -/
inductive IsM : List Tm → Int → Int → Prop
  | nil (k : Int) : IsM [] k k
  | cons {k k1 k2 : Int} {l r : List Tm} : IsM l (k + 3) k1 → IsM r k1 k2 → IsM (.mk k (k + 1) (mt (k + 2)) l :: r) k k2

theorem IsM.le {l : List Tm} {k k' : Int} (x : IsM l k k') : k ≤ k' := by
  induction x with
  | nil => exact Int.le_refl _
  | cons _ _ ih1 ih2 => omega

theorem set_split {α : Type} {l r : List α} {x y : α} : (l ++ x :: r).set l.length y = l ++ y :: r := by simp
theorem get_split {α : Type} {l r : List α} {x : α} (hi : l.length < (l ++ x :: r).length) : (l ++ x :: r)[l.length] = x := by simp

end Go.Proofs.Ytnmjhhipbfngkaa.Am
