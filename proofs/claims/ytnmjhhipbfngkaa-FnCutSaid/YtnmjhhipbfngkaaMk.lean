/- Marks: each place of a tree written with a number of its own, and read again.
Conditions: none. -/
import Derived.Test.YtnmjhhipbfngkaaRw
import Derived.Test.YtnmjhhipbfngkaaEq1
import Derived.Test.YtnmjhhipbfngkaaEq2
import Derived.Test.YtnmjhhipbfngkaaEq3
import Derived.Test.YtnmjhhipbfngkaaEq4
set_option linter.unusedSimpArgs false
set_option linter.unusedVariables false
namespace Go.Proofs.Ytnmjhhipbfngkaa.Am
open Go Go.RowKit

def mtL : Nat → Int → ByteArray → ByteArray
  | 0, _, o => o
  | d + 1, k, o => if k > 0 then mtL d (Int.tdiv k 10) (bstr [IntKind.wrap .u8 (IntKind.wrap .i64 (48 + Int.tmod k 10))] ++ o) else o
/-- The text of a mark. -/
def mt (k : Int) : ByteArray := if k ≤ 0 then ⟨#[109, 48]⟩ else ⟨#[109]⟩ ++ mtL 63 k ⟨#[]⟩
theorem bstr1 (n : Int) : (bstr [n]).size = 1 := rfl
theorem mtL_size : ∀ (d : Nat) (k : Int) (o : ByteArray), (mtL d k o).size ≤ o.size + d
  | 0, k, o => by simp [mtL]
  | d + 1, k, o => by
    rw [mtL]
    split
    · have := mtL_size d (Int.tdiv k 10) (bstr [IntKind.wrap .u8 (IntKind.wrap .i64 (48 + Int.tmod k 10))] ++ o)
      rw [ByteArray.size_append, bstr1] at this
      omega
    · omega
theorem mt_size (k : Int) : (mt k).size ≤ 64 := by
  unfold mt
  split
  · decide
  · have := mtL_size 63 k ⟨#[]⟩
    rw [ByteArray.size_append]
    have h1 : (⟨#[109]⟩ : ByteArray).size = 1 := rfl
    have h2 : (⟨#[]⟩ : ByteArray).size = 0 := rfl
    omega
theorem markText_loop {base : Nat} : ∀ (d : Nat) (k : Int) (o : ByteArray) (h : AH), k ≤ 9223372036854775807 → k < 2 ^ d → o.size + d ≤ 1000 →
    ∃ k' h', loopL (B83_0 base) [some (.int .i64 k), some (.string o)] h = some (2, [some (.string (mtL d k o))], h') ∧ KB NoB h h' ∧ k' = h' := by
  intro d
  induction d with
  | zero =>
    intro k o h hk hd ho
    refine ⟨_, h, ?_, KB.refl _ _, rfl⟩
    refine loop_off (by decide) ?_
    rw [B83_0_eq]
    exact ifF (by simp; omega) rfl
  | succ d ih =>
    intro k o h hk hd ho
    rw [mtL]
    by_cases c : k > 0
    · rw [if_pos c]
      have hq : Int.tdiv k 10 = k / 10 := by rw [Int.tdiv_eq_ediv_of_nonneg (by omega)]
      have h2 : k / 10 < 2 ^ d := by
        rw [Int.pow_succ] at hd
        omega
      obtain ⟨_, h', e, kk, _⟩ := ih (Int.tdiv k 10) (bstr [IntKind.wrap .u8 (IntKind.wrap .i64 (48 + Int.tmod k 10))] ++ o) (h ++ [some ⟨[.int .u8 (IntKind.wrap .u8 (IntKind.wrap .i64 (48 + Int.tmod k 10)))], 5⟩]) (by omega) (by rw [hq]; exact h2) (by rw [ByteArray.size_append, bstr1]; omega)
      refine ⟨_, h', ?_, KB.trans (KB.push NoB _ _) kk (fun _ _ h => h) (fun _ _ h => h), rfl⟩
      refine loop_on ?_ e
      rw [B83_0_eq]
      refine ifT (decide_eq_true c) (lets fun y ey => ?_)
      subst ey
      refine bs (v := [IntKind.wrap .u8 (IntKind.wrap .i64 (48 + Int.tmod k 10))]) ?_ ?_
      · have := raw_new (h := h) (t := 5) (cs := [.int .u8 (IntKind.wrap .u8 (IntKind.wrap .i64 (48 + Int.tmod k 10)))]) rfl (by simp)
        exact bs this rfl
      · refine ifT (by rw [bstr1]; omega) ?_
        rw [w64i (n := Int.tdiv k 10) (by omega) (by omega)]
    · rw [if_neg c]
      refine ⟨_, h, ?_, KB.refl _ _, rfl⟩
      refine loop_off (by decide) ?_
      rw [B83_0_eq]
      exact ifF (by simp; omega) rfl
theorem markText_run {base : Nat} {h : AH} {k : Int} (hk : k ≤ 9223372036854775807) : ∃ h', run (Et base) 83 [.int .i64 k] h = some (.string (mt k), h') ∧ KB NoB h h' := by
  unfold mt
  by_cases c : k ≤ 0
  · rw [if_pos c]
    exact ⟨h, r83 (ifT (decide_eq_true c) rfl), KB.refl _ _⟩
  · rw [if_neg c]
    obtain ⟨_, h', e, kk, _⟩ := markText_loop (base := base) 63 k ⟨#[]⟩ h hk (by omega) (by decide)
    refine ⟨h', r83 (ifF (by simpa using c) (bs e (ifT rfl (bT rfl (ifT ?_ rfl))))), kk⟩
    have := mtL_size 63 k ⟨#[]⟩
    have h1 : (⟨#[109]⟩ : ByteArray).size = 1 := rfl
    have h2 : (⟨#[]⟩ : ByteArray).size = 0 := rfl
    omega

/-- Terms that hold the marks from k on, up to k'. -/
inductive IsM : List Tm → Int → Int → Prop
  | nil (k : Int) : IsM [] k k
  | cons {k k1 k2 : Int} {l r : List Tm} : IsM l (k + 3) k1 → IsM r k1 k2 → IsM (.mk k (k + 1) (mt (k + 2)) l :: r) k k2

theorem IsM.le {l : List Tm} {k k' : Int} (x : IsM l k k') : k ≤ k' := by
  induction x with
  | nil => exact Int.le_refl _
  | cons _ _ ih1 ih2 => omega

theorem set_split {α : Type} {l r : List α} {x y : α} : (l ++ x :: r).set l.length y = l ++ y :: r := by simp
theorem get_split {α : Type} {l r : List α} {x : α} (hi : l.length < (l ++ x :: r).length) : (l ++ x :: r)[l.length] = x := by simp

end Go.Proofs.Ytnmjhhipbfngkaa.Am
