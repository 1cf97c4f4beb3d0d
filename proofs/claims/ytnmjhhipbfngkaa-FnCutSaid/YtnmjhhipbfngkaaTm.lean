/- Terms as trees, and what reads them.
Conditions: none. -/
import Derived.Test.YtnmjhhipbfngkaaEq1
import Derived.Test.YtnmjhhipbfngkaaEq2
import Derived.Test.YtnmjhhipbfngkaaEq3
import Derived.Test.YtnmjhhipbfngkaaEq4
import Derived.Test.YtnmjhhipbfngkaaKt
set_option linter.unusedSimpArgs false
set_option linter.unusedVariables false
namespace Go.Proofs.Ytnmjhhipbfngkaa.Am
open Go Go.RowKit

inductive Tm where
  | mk (k n : Int) (s : ByteArray) (l : List Tm)

/-- A term as it lies: every row in a block that p allows. -/
def TmR (h : AH) (p : Nat → Prop) : Nat → Tm → List Value → Prop
  | 0, _, _ => False
  | f + 1, .mk k n s l, cs => s.size ≤ maxLen ∧ l.length ≤ maxLen ∧ ∃ a vs, cs = [.int .i64 k, .int .i64 n, .string s, .slice a l.length l.length] ∧ Sl h a vs ∧ (vs = [] ∨ ∀ b, blk a b → p b) ∧ vs.length = l.length * 4 ∧
      ∀ i t, l[i]? = some t → TmR h p f t ((vs.drop (i * 4)).take 4)
/-- A row of terms. -/
def TsR (h : AH) (p : Nat → Prop) (f : Nat) (l : List Tm) (a : Option Addr) : Prop :=
  ∃ vs, Sl h a vs ∧ (vs = [] ∨ ∀ b, blk a b → p b) ∧ vs.length = l.length * 4 ∧ ∀ i t, l[i]? = some t → TmR h p f t ((vs.drop (i * 4)).take 4)

theorem TmR.keep {h h' : AH} {p S : Nat → Prop} (k : KB S h h') (hp : ∀ b, p b → ¬ S b) : ∀ (f : Nat) (t : Tm) (cs : List Value), TmR h p f t cs → TmR h' p f t cs
  | 0, _, _, x => x
  | f + 1, .mk kk n s l, cs, x => by
    obtain ⟨h1, h2, a, vs, h3, h4, h5, h6, h7⟩ := x
    refine ⟨h1, h2, a, vs, h3, ?_, h5, h6, fun i t hi => TmR.keep k hp f t _ (h7 i t hi)⟩
    rcases h5 with e | h5
    · exact .inl e
    · exact h4.keep k fun b hb hs => hp b (h5 b hb) hs
theorem TsR.keep {h h' : AH} {p S : Nat → Prop} (k : KB S h h') (hp : ∀ b, p b → ¬ S b) {f : Nat} {l : List Tm} {a : Option Addr} (x : TsR h p f l a) : TsR h' p f l a := by
  obtain ⟨vs, h4, h5, h6, h7⟩ := x
  refine ⟨vs, ?_, h5, h6, fun i t hi => TmR.keep k hp f t _ (h7 i t hi)⟩
  rcases h5 with e | h5
  · exact .inl e
  · exact h4.keep k fun b hb hs => hp b (h5 b hb) hs
theorem TmR.mono {h : AH} {p q : Nat → Prop} (hpq : ∀ b, p b → q b) : ∀ (f : Nat) (t : Tm) (cs : List Value), TmR h p f t cs → TmR h q f t cs
  | 0, _, _, x => x
  | f + 1, .mk kk n s l, cs, x => by
    obtain ⟨h1, h2, a, vs, h3, h4, h5, h6, h7⟩ := x
    exact ⟨h1, h2, a, vs, h3, h4, h5.imp id fun h b hb => hpq b (h b hb), h6, fun i t hi => TmR.mono hpq f t _ (h7 i t hi)⟩
theorem TmR.parts {h : AH} {p : Nat → Prop} {f : Nat} {k n : Int} {s : ByteArray} {l : List Tm} {cs : List Value} (x : TmR h p (f + 1) (.mk k n s l) cs) :
    ∃ a, cs = [.int .i64 k, .int .i64 n, .string s, .slice a l.length l.length] ∧ TsR h p f l a ∧ s.size ≤ maxLen ∧ l.length ≤ maxLen := by
  obtain ⟨h1, h2, a, vs, h3, h4, h5, h6, h7⟩ := x
  exact ⟨a, h3, ⟨vs, h4, h5, h6, h7⟩, h1, h2⟩
theorem TmR.of {h : AH} {p : Nat → Prop} {f : Nat} {k n : Int} {s : ByteArray} {l : List Tm} {a : Option Addr} (x : TsR h p f l a) (h1 : s.size ≤ maxLen) (h2 : l.length ≤ maxLen) :
    TmR h p (f + 1) (.mk k n s l) [.int .i64 k, .int .i64 n, .string s, .slice a l.length l.length] := by
  obtain ⟨vs, h4, h5, h6, h7⟩ := x
  exact ⟨h1, h2, a, vs, rfl, h4, h5, h6, h7⟩
/-- One of a row: its four cells, where they lie. -/
theorem TsR.get {h : AH} {p : Nat → Prop} {f : Nat} {l : List Tm} {a : Option Addr} (x : TsR h p f l a) {i : Nat} (hi : i < l.length) :
    ∃ ad c0 c1 c2 c3, a = some ad ∧ Am.cell h ad.block (ad.off + i * 4) = some c0 ∧ Am.cell h ad.block (ad.off + i * 4 + 1) = some c1 ∧ Am.cell h ad.block (ad.off + i * 4 + 1 + 1) = some c2 ∧ Am.cell h ad.block (ad.off + i * 4 + 1 + 1 + 1) = some c3 ∧ TmR h p f l[i] [c0, c1, c2, c3] := by
  obtain ⟨vs, h4, h5, h6, h7⟩ := x
  have hlt : i * 4 + 3 < vs.length := by omega
  have hm := h7 i l[i] (List.getElem?_eq_getElem hi)
  obtain ⟨ad, e0, g0⟩ := h4.cell (i := i * 4) (List.getElem?_eq_getElem (by omega))
  obtain ⟨ad1, e1, g1⟩ := h4.cell (i := i * 4 + 1) (List.getElem?_eq_getElem (by omega))
  obtain ⟨ad2, e2, g2⟩ := h4.cell (i := i * 4 + 2) (List.getElem?_eq_getElem (by omega))
  obtain ⟨ad3, e3, g3⟩ := h4.cell (i := i * 4 + 3) (List.getElem?_eq_getElem (by omega))
  subst e0
  injection e1 with e1
  injection e2 with e2
  injection e3 with e3
  subst e1; subst e2; subst e3
  have e4 : (vs.drop (i * 4)).take 4 = [vs[i * 4], vs[i * 4 + 1], vs[i * 4 + 2], vs[i * 4 + 3]] := by
    apply List.ext_getElem?
    intro j
    match j with
    | 0 => rw [List.getElem?_take_of_lt (by decide), List.getElem?_drop]; exact List.getElem?_eq_getElem (by omega)
    | 1 => rw [List.getElem?_take_of_lt (by decide), List.getElem?_drop]; exact List.getElem?_eq_getElem (by omega)
    | 2 => rw [List.getElem?_take_of_lt (by decide), List.getElem?_drop]; exact List.getElem?_eq_getElem (by omega)
    | 3 => rw [List.getElem?_take_of_lt (by decide), List.getElem?_drop]; exact List.getElem?_eq_getElem (by omega)
    | j + 4 => rw [List.getElem?_eq_none (by simp; omega), List.getElem?_eq_none (by simp)]
  rw [e4] at hm
  exact ⟨ad, _, _, _, _, rfl, g0, by rw [Nat.add_assoc]; exact g1, by rw [Nat.add_assoc, Nat.add_assoc]; exact g2, by rw [Nat.add_assoc, Nat.add_assoc, Nat.add_assoc]; exact g3, hm⟩

def sumL {α : Type} (g : α → Nat) : List α → Nat
  | [] => 0
  | t :: r => g t + sumL g r
/-- How many terms lie below one. -/
def tcnt : Nat → Tm → Nat
  | 0, _ => 0
  | f + 1, .mk _ _ _ l => l.length + sumL (tcnt f) l
theorem sumL_drop {α : Type} (g : α → Nat) {l : List α} {i : Nat} (hi : i < l.length) : sumL g (l.drop i) = g l[i] + sumL g (l.drop (i + 1)) := by rw [List.drop_eq_getElem_cons hi]; rfl
/-- Not too great. -/
def TmB : Nat → Tm → Prop
  | 0, _ => False
  | f + 1, .mk _ _ s l => s.size ≤ 1048576 ∧ l.length ≤ 1048576 ∧ ∀ t ∈ l, TmB f t
abbrev termV (k n : Int) (s : ByteArray) (a : Option Addr) (m : Nat) : List Value := [.int .i64 k, .int .i64 n, .string s, .slice a m m]

theorem TmR.form {h : AH} {p : Nat → Prop} {f : Nat} {t : Tm} {cs : List Value} (x : TmR h p f t cs) : ∃ k n s a m, cs = termV k n s a m := by
  cases f with
  | zero => exact x.elim
  | succ f =>
    obtain ⟨k, n, s, l⟩ := t
    obtain ⟨a, e, _⟩ := x.parts
    exact ⟨k, n, s, a, _, e⟩
theorem TmR.same {h : AH} {p p2 : Nat → Prop} {f f2 : Nat} {t : Tm} {k n k2 n2 : Int} {s s2 : ByteArray} {a a2 : Option Addr} {m m2 : Nat} (x : TmR h p f t (termV k n s a m)) (y : TmR h p2 f2 t (termV k2 n2 s2 a2 m2)) : k2 = k ∧ n2 = n ∧ s2 = s ∧ m2 = m := by
  cases f with
  | zero => exact x.elim
  | succ f =>
    cases f2 with
    | zero => exact y.elim
    | succ f2 =>
      obtain ⟨k0, n0, s0, l0⟩ := t
      obtain ⟨_, e, _⟩ := x.parts
      obtain ⟨_, e', _⟩ := y.parts
      injection e with e0 e
      injection e with e1 e
      injection e with e2 e
      injection e with e3 _
      injection e0 with _ e0
      injection e1 with _ e1
      injection e2 with e2
      injection e3 with _ e3 _
      injection e' with f0 e'
      injection e' with f1 e'
      injection e' with f2 e'
      injection e' with f3 _
      injection f0 with _ f0
      injection f1 with _ f1
      injection f2 with f2
      injection f3 with _ f3 _
      exact ⟨f0.trans e0.symm, f1.trans e1.symm, f2.trans e2.symm, f3.trans e3.symm⟩
theorem TmR.le {h : AH} {p : Nat → Prop} : ∀ {f f' : Nat} (hf : f ≤ f') {t : Tm} {cs : List Value}, TmR h p f t cs → TmR h p f' t cs
  | 0, _, _, _, _, x => x.elim
  | f + 1, 0, hf, _, _, _ => absurd hf (Nat.not_succ_le_zero _)
  | f + 1, f' + 1, hf, .mk k n s l, cs, x => by
    obtain ⟨h1, h2, a, vs, h3, h4, h5, h6, h7⟩ := x
    exact ⟨h1, h2, a, vs, h3, h4, h5, h6, fun i t hi => (h7 i t hi).le (Nat.le_of_succ_le_succ hf)⟩
theorem TmB.le : ∀ {f f' : Nat} (hf : f ≤ f') {t : Tm}, TmB f t → TmB f' t
  | 0, _, _, _, x => x.elim
  | f + 1, 0, hf, _, _ => absurd hf (Nat.not_succ_le_zero _)
  | f + 1, f' + 1, hf, .mk k n s l, x => ⟨x.1, x.2.1, fun t ht => (x.2.2 t ht).le (Nat.le_of_succ_le_succ hf)⟩

end Go.Proofs.Ytnmjhhipbfngkaa.Am
