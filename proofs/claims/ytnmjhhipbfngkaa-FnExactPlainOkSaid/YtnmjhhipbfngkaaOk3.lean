/- Timers that are right: both ask the same; the law of TimersOk.
Conditions: none. -/
import Derived.Test.YtnmjhhipbfngkaaOk2
import Derived.Test.YtnmjhhipbfngkaaTi
set_option linter.unusedSimpArgs false
set_option linter.unusedVariables false
namespace Go.Proofs.Ytnmjhhipbfngkaa.Am
open Go Go.RowKit

def tmOk (f : Nat) (x : Sd) : Bool := inB x.kind 0 1000000000 && (inB x.pid 1 99999 && tOk f x.t)
/-- A timer's six cells, read. -/
theorem q6 {base t n : Nat} {h : AH} {kind pid k nn : Int} {s : ByteArray} {a : Option Addr} {m : Nat} (o : Own base t h (at0 n) (saidV kind pid k nn s a m)) {β : Type} {f : Int → Int → Int → Int → ByteArray → Option Addr × Nat → Option β} {z : Option β} (hf : f kind pid k nn s (a, m) = z) :
    (((Am.cell h n 0).bind (getI .i64)).bind fun n1 => ((Am.cell h n 1).bind (getI .i64)).bind fun n2 => ((Am.cell h n 2).bind (getI .i64)).bind fun n3 => ((Am.cell h n 3).bind (getI .i64)).bind fun n4 => ((Am.cell h n 4).bind getStr).bind fun s5 => ((Am.cell h n 5).bind getS).bind fun l6 => f n1 n2 n3 n4 s5 l6) = z :=
  bI (o.at0 (i := 0) rfl) (bI (o.at0 (i := 1) rfl) (bI (o.at0 (i := 2) rfl) (bI (o.at0 (i := 3) rfl) (bT (o.at0 (i := 4) rfl) (bS (o.at0 (i := 5) rfl) hf)))))
def d0 : Sd := ⟨0, 0, .mk 0 0 ⟨#[]⟩ []⟩
def badT (f : Nat) (l : List Sd) (i : Nat) : Bool := !tmOk f (l.getD i d0) || (decide (((i : Nat) : Int) > (0 : Int)) && decide ((l.getD (i - 1) d0).kind > (l.getD i d0).kind))
def anyBadT (f : Nat) (l : List Sd) : Nat → Nat → Bool
  | 0, _ => false
  | d + 1, i => badT f l i || anyBadT f l d (i + 1)
def tsOk (f : Nat) (l : List Sd) : Bool := !anyBadT f l l.length 0 && decide (((l.length : Nat) : Int) ≤ (50 : Int))
theorem gD {l : List Sd} {i : Nat} (hi : i < l.length) : l.getD i d0 = l[i] := by simp [hi]

theorem anyBadT_false {f : Nat} {l : List Sd} : ∀ (d i : Nat), anyBadT f l d i = false ↔ ∀ j, i ≤ j → j < i + d → badT f l j = false
  | 0, i => ⟨fun _ j h1 h2 => by omega, fun _ => rfl⟩
  | d + 1, i => by
    rw [anyBadT, Bool.or_eq_false_iff, anyBadT_false d (i + 1)]
    constructor
    · rintro ⟨h1, h2⟩ j hj hj2
      by_cases e : j = i
      · subst e; exact h1
      · exact h2 j (by omega) (by omega)
    · intro h
      exact ⟨h i (Nat.le_refl _) (by omega), fun j hj hj2 => h j (by omega) (by omega)⟩
theorem badT_false {f : Nat} {l : List Sd} {j : Nat} (hj : j < l.length) : badT f l j = false ↔ tmOk f l[j] = true ∧ ∀ (h : 0 < j), (l[j - 1]'(by omega)).kind ≤ l[j].kind := by
  unfold badT
  rw [gD hj]
  by_cases h0 : 0 < j
  · have hj1 : j - 1 < l.length := by omega
    rw [gD hj1]
    simp [h0]
  · have : j = 0 := by omega
    subst this
    simp
theorem tsOk_iff {f : Nat} {l : List Sd} : tsOk f l = true ↔ (∀ x ∈ l, tmOk f x = true) ∧ l.Pairwise (fun a b => a.kind ≤ b.kind) ∧ l.length ≤ 50 := by
  unfold tsOk
  rw [Bool.and_eq_true, Bool.not_eq_true', anyBadT_false, decide_eq_true_eq]
  constructor
  · rintro ⟨h1, h2⟩
    have hb : ∀ j (hj : j < l.length), tmOk f l[j] = true ∧ ∀ (h : 0 < j), (l[j - 1]'(by omega)).kind ≤ l[j].kind := fun j hj => (badT_false hj).1 (h1 j (by omega) (by omega))
    refine ⟨fun x hx => ?_, ?_, by omega⟩
    · obtain ⟨j, hj, rfl⟩ := List.mem_iff_getElem.1 hx
      exact (hb j hj).1
    · rw [List.pairwise_iff_getElem]
      have key : ∀ d i (hi : i + d < l.length), (l[i]'(by omega)).kind ≤ (l[i + d]'hi).kind := by
        intro d
        induction d with
        | zero => intro i hi; exact Int.le_refl _
        | succ d ih =>
          intro i hi
          have a := ih i (by omega)
          have b := (hb (i + (d + 1)) hi).2 (by omega)
          exact Int.le_trans a b
      intro i j hi hj hij
      have := key (j - i) i (by omega)
      simpa [show i + (j - i) = j from by omega] using this
  · rintro ⟨h1, h2, h3⟩
    refine ⟨fun j _ hj => (badT_false (by omega)).2 ⟨h1 _ (List.getElem_mem (by omega)), fun h0 => ?_⟩, by omega⟩
    rw [List.pairwise_iff_getElem] at h2
    exact h2 (j - 1) j (by omega) (by omega) (by omega)
end Go.Proofs.Ytnmjhhipbfngkaa.Am
