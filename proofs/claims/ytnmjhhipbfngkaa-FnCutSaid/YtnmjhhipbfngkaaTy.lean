/- Parts of rows, and what type a row's block has.
Conditions: none. -/
import Derived.Test.YtnmjhhipbfngkaaKt
set_option linter.unusedSimpArgs false
set_option linter.unusedVariables false
namespace Go.Proofs.Ytnmjhhipbfngkaa.Am
open Go Go.RowKit

/-- A row's block, where it isn't an argument's, is of that type. -/
def TyOk (base : Nat) (h : AH) (a : Option Addr) (t : Nat) : Prop := ∀ ad, a = some ad → ad.block < h.length ∧ (ad.block < base ∨ ∃ k, hget h ad.block = some k ∧ k.ty = t)
theorem TyOk.keep {base t : Nat} {S : Nat → Prop} {h h' : AH} {a : Option Addr} (x : TyOk base h a t) (k : KB S h h') (hS : ∀ b, blk a b → ¬ S b) : TyOk base h' a t := fun ad e => by
  obtain ⟨h1, h2⟩ := x ad e
  refine ⟨Nat.lt_of_lt_of_le h1 k.1, h2.imp id fun ⟨kk, e1, e2⟩ => ⟨kk, ?_, e2⟩⟩
  rw [k.2 _ h1 (hS _ ⟨ad, e, rfl⟩)]
  exact e1
theorem TyOk.keepN {base t : Nat} {h h' : AH} {a : Option Addr} (x : TyOk base h a t) (k : KB NoB h h') : TyOk base h' a t := x.keep k fun _ _ h => h
theorem TyOk.own {base t : Nat} {h : AH} {a : Option Addr} {vs : List Value} (o : Own base t h a vs) : TyOk base h a t := fun ad e => by
  rcases o with ⟨e2, _⟩ | ⟨ad2, k, e1, e2, e3, e4, _⟩
  · rw [e2] at e; cases e
  · rw [e1] at e; injection e with e; subst e
    exact ⟨hget_lt e3, .inr ⟨k, e3, e4⟩⟩
theorem TyOk.ok {base t : Nat} {h : AH} {a : Option Addr} (x : TyOk base h a t) (n : Nat) : okTy base h a t n = true := by
  unfold okTy
  cases a with
  | none => simp
  | some ad =>
    obtain ⟨_, h2⟩ := x ad rfl
    simp only
    rcases h2 with h2 | ⟨k, e1, e2⟩
    · have : Nat.blt ad.block base = true := by rw [Nat.blt_eq]; exact h2
      rw [this]; simp
    · rw [e1]
      subst e2
      simp
theorem TyOk.same0 {base t : Nat} {S : Nat → Prop} {h h' : AH} {a : Option Addr} (x : TyOk base h a t) (k : KB S h h') (hS : ∀ b, blk a b → ¬ S b) : sameA h h' a 0 := fun ad e => by
  refine ⟨fun j hj => absurd hj (Nat.not_lt_zero _), ?_⟩
  rw [k.2 _ (x ad e).1 (hS _ ⟨ad, e, rfl⟩)]
theorem TyOk.ne {base t : Nat} {h : AH} {a : Option Addr} (x : TyOk base h a t) {n : Nat} (hn : h.length ≤ n) : neA a n := fun ad e => by
  have := (x ad e).1
  omega

/-- A part of a row. -/
theorem Sl.part {h : AH} {a : Option Addr} {vs : List Value} (x : Sl h a vs) {n m : Nat} (hnm : n + m ≤ vs.length) : Sl h (shiftA a n) ((vs.drop n).take m) := by
  rcases x with e | ⟨ad, k, e1, e2, e3, e4⟩
  · subst e; exact .inl (by simp)
  · subst e1
    refine .inr ⟨_, k, rfl, e2, by simp; omega, fun i v hi => ?_⟩
    have hlt : i < m := by have := (List.getElem?_eq_some_iff.1 hi).1; simp at this; omega
    rw [List.getElem?_take_of_lt hlt, List.getElem?_drop] at hi
    simp only [Nat.add_assoc]
    exact e4 _ _ hi
theorem u8s_iv : ∀ xs : List Int, u8s (iv .u8 xs) = some xs
  | [] => rfl
  | x :: r => by
    have := u8s_iv r
    simp only [iv] at this
    simp only [iv, List.map_cons, u8s, this, Option.map_some]
/-- Bytes of a row, all of them. -/
theorem raw_iv {h : AH} {a : Option Addr} {xs : List Int} (x : Sl h a (iv .u8 xs)) : (rawAt h a xs.length).bind u8s = some xs := by
  have := x.raw (iv_leaf _ _)
  rw [iv_length] at this
  rw [this]
  exact u8s_iv xs
/-- Bytes of a part. -/
theorem part_iv {h : AH} {a : Option Addr} {xs : List Int} (x : Sl h a (iv .u8 xs)) {n m : Nat} (hnm : n + m ≤ xs.length) : (rawAt h (shiftA a (n * 1)) m).bind u8s = some ((xs.drop n).take m) := by
  have hp := x.part (n := n) (m := m) (by simpa using hnm)
  have e : ((iv .u8 xs).drop n).take m = iv .u8 ((xs.drop n).take m) := by simp [iv, List.map_drop, List.map_take]
  rw [e] at hp
  have := raw_iv hp
  have hl : ((xs.drop n).take m).length = m := by simp; omega
  rw [hl] at this
  rw [Nat.mul_one]
  exact this
end Go.Proofs.Ytnmjhhipbfngkaa.Am
