/- Rows each of whose entries owns what lies below it, apart from all others.
Conditions: none. -/
import Derived.Test.YtnmjhhipbfngkaaTm
set_option linter.unusedSimpArgs false
set_option linter.unusedVariables false
namespace Go.Proofs.Ytnmjhhipbfngkaa.Am
open Go Go.RowKit

/-- Blocks that something may lie in. -/
abbrev Fp := Nat → Prop
abbrev iS (lo hi : Nat) : Fp := fun b => lo ≤ b ∧ b < hi
abbrev chunk (w i : Nat) (vs : List Value) : List Value := (vs.drop (i * w)).take w
def Kp {α : Type} (P : Fp → AH → α → List Value → Prop) : Prop := ∀ (S U : Fp) (h h' : AH) (x : α) (cs : List Value), KB U h h' → (∀ b, S b → ¬ U b) → P S h x cs → P S h' x cs
def Mo {α : Type} (P : Fp → AH → α → List Value → Prop) : Prop := ∀ (S S' : Fp) (h : AH) (x : α) (cs : List Value), (∀ b, S b → S' b) → P S h x cs → P S' h x cs

section
variable {α : Type} {w : Nat} {P : Fp → AH → α → List Value → Prop}
def Chunks (w : Nat) (P : Fp → AH → α → List Value → Prop) (S : Fp) (h : AH) (l : List α) (vs : List Value) : Prop :=
  ∃ C : Nat → Fp, (∀ i b, C i b → S b) ∧ (∀ i j b, i ≠ j → C i b → ¬ C j b) ∧ ∀ i x, l[i]? = some x → P (C i) h x (chunk w i vs)
def RowD (w : Nat) (P : Fp → AH → α → List Value → Prop) (S : Fp) (h : AH) (l : List α) (a : Option Addr) : Prop :=
  ∃ (vs : List Value) (T : Fp), Sl h a vs ∧ vs.length = l.length * w ∧ (vs = [] ∨ ∀ b, blk a b → S b ∧ ¬ T b) ∧ (∀ b, T b → S b) ∧ Chunks w P T h l vs

theorem Chunks.keep (kp : Kp P) {S U : Fp} {h h' : AH} {l : List α} {vs : List Value} (k : KB U h h') (hs : ∀ b, S b → ¬ U b) (x : Chunks w P S h l vs) : Chunks w P S h' l vs := by
  obtain ⟨C, c1, c2, c3⟩ := x
  exact ⟨C, c1, c2, fun i y hy => kp _ _ _ _ _ _ k (fun b hb => hs b (c1 i b hb)) (c3 i y hy)⟩
theorem Chunks.mono {S S' : Fp} {h : AH} {l : List α} {vs : List Value} (hs : ∀ b, S b → S' b) (x : Chunks w P S h l vs) : Chunks w P S' h l vs := by
  obtain ⟨C, c1, c2, c3⟩ := x
  exact ⟨C, fun i b hb => hs b (c1 i b hb), c2, c3⟩
theorem Chunks.nil {S : Fp} {h : AH} {vs : List Value} : Chunks w P S h ([] : List α) vs := ⟨fun _ _ => False, fun _ _ h => h.elim, fun _ _ _ _ h => h.elim, fun i x h => by simp at h⟩
theorem Chunks.snoc {S S' T : Fp} {h : AH} {l : List α} {vs vs' cs : List Value} {x : α} (c : Chunks w P S h l vs) (hx : P T h x cs) (hT : ∀ b, T b → ¬ S b) (h1 : ∀ b, S b → S' b) (h2 : ∀ b, T b → S' b)
    (hv : ∀ i, i < l.length → chunk w i vs' = chunk w i vs) (hc : chunk w l.length vs' = cs) : Chunks w P S' h (l ++ [x]) vs' := by
  obtain ⟨C, c1, c2, c3⟩ := c
  refine ⟨fun i b => if i = l.length then T b else (i < l.length ∧ C i b), fun i b hb => ?_, fun i j b hij hi hj => ?_, fun i y hy => ?_⟩
  · simp only at hb
    split at hb
    · exact h2 b hb
    · exact h1 b (c1 i b hb.2)
  · simp only at hi hj
    split at hi
    · rename_i e
      split at hj
      · rename_i e2; exact hij (e.trans e2.symm)
      · exact hT b hi (c1 j b hj.2)
    · split at hj
      · exact hT b hj (c1 i b hi.2)
      · exact c2 i j b hij hi.2 hj.2
  · have hlt : i < l.length + 1 := by have := (List.getElem?_eq_some_iff.1 hy).1; simpa using this
    by_cases e : i = l.length
    · subst e
      simp at hy
      subst hy
      have ee : (fun b => if l.length = l.length then T b else (l.length < l.length ∧ C l.length b)) = T := by funext b; simp
      show P (fun b => if l.length = l.length then T b else (l.length < l.length ∧ C l.length b)) h x (chunk w l.length vs')
      rw [ee, hc]
      exact hx
    · have hi : i < l.length := by omega
      have ee : (fun b => if i = l.length then T b else (i < l.length ∧ C i b)) = C i := by funext b; simp [e, hi]
      show P (fun b => if i = l.length then T b else (i < l.length ∧ C i b)) h y (chunk w i vs')
      rw [ee, hv i hi]
      rw [List.getElem?_append_left hi] at hy
      exact c3 i y hy
theorem RowD.keep (kp : Kp P) {S U : Fp} {h h' : AH} {l : List α} {a : Option Addr} (x : RowD w P S h l a) (k : KB U h h') (hs : ∀ b, S b → ¬ U b) : RowD w P S h' l a := by
  obtain ⟨vs, T, x1, x2, x3, x4, x5⟩ := x
  refine ⟨vs, T, ?_, x2, x3, x4, x5.keep kp k fun b hb => hs b (x4 b hb)⟩
  rcases x3 with e | x3
  · exact .inl e
  · exact x1.keep k fun b hb => hs b (x3 b hb).1
theorem RowD.mono {S S' : Fp} {h : AH} {l : List α} {a : Option Addr} (x : RowD w P S h l a) (hs : ∀ b, S b → S' b) : RowD w P S' h l a := by
  obtain ⟨vs, T, x1, x2, x3, x4, x5⟩ := x
  exact ⟨vs, T, x1, x2, x3.imp id fun g b hb => ⟨hs b (g b hb).1, (g b hb).2⟩, fun b hb => hs b (x4 b hb), x5⟩
theorem RowD.nil {S : Fp} {h : AH} {a : Option Addr} : RowD w P S h ([] : List α) a := ⟨[], fun _ => False, .inl rfl, by simp, .inl rfl, fun _ h => h.elim, Chunks.nil⟩

/-- A write into a row. -/
theorem Sl.wr {base : Nat} {h : AH} {a : Option Addr} {vs : List Value} (x : Sl h a vs) (hb : ∀ b, blk a b → base ≤ b) {i : Nat} {new : List Value} (hi : i + new.length ≤ vs.length) (h0 : 0 < new.length) :
    ∃ ad h', a = some ad ∧ Am.wr base h ad.block (ad.off + i) new = some h' ∧ Sl h' a (setAt vs i new) ∧ KB (blk a) h h' ∧ h'.length = h.length := by
  rcases x with h | ⟨ad, kk, h1, h2, h3, h4⟩
  · subst h; simp only [List.length_nil] at hi; omega
  · have hbb := hb ad.block ⟨ad, h1, rfl⟩
    refine ⟨ad, h.set ad.block (some ⟨setAt kk.cs (ad.off + i) new, kk.ty⟩), h1, ?_, ?_, KB.set _ ⟨ad, h1, rfl⟩, by simp⟩
    · unfold Am.wr
      rw [if_pos hbb, h2]
      simp only [Option.bind_some]
      rw [if_pos (by omega)]
    · have hl : (setAt vs i new).length = vs.length := by simp [setAt]; omega
      refine .inr ⟨ad, ⟨setAt kk.cs (ad.off + i) new, kk.ty⟩, h1, hget_set_self (hget_lt h2), ?_, fun j v hj => ?_⟩
      · rw [hl]; simp [setAt]; omega
      · simp only
        rw [setAt_get hi] at hj
        rw [setAt_get (by omega)]
        split at hj
        · rename_i hin
          rw [if_pos (by omega), show ad.off + j - (ad.off + i) = j - i from by omega]
          exact hj
        · rename_i hout
          rw [if_neg (by omega)]
          exact h4 j v hj

/-- A row with one entry laid open. -/
def Foc (w : Nat) (P : Fp → AH → α → List Value → Prop) (S : Fp) (h : AH) (l : List α) (a : Option Addr) (i : Nat) (Ci : Fp) (cs : List Value) : Prop :=
  ∃ (vs : List Value) (T : Fp) (C : Nat → Fp), Sl h a vs ∧ vs.length = l.length * w ∧ (∀ b, blk a b → S b ∧ ¬ T b) ∧ (∀ b, T b → S b) ∧ (∀ q b, C q b → T b) ∧ (∀ q j b, q ≠ j → C q b → ¬ C j b) ∧
    (∀ q x, q ≠ i → l[q]? = some x → P (C q) h x (chunk w q vs)) ∧ i < l.length ∧ chunk w i vs = cs ∧ C i = Ci
theorem mul_le' {i n w : Nat} (h : i < n) : i * w + w ≤ n * w := by
  have := Nat.mul_le_mul_right w (Nat.succ_le_of_lt h)
  rw [Nat.succ_mul] at this
  exact this
theorem chunk_len {w i n : Nat} {vs : List Value} (hl : vs.length = n * w) (hi : i < n) : (chunk w i vs).length = w := by
  have := mul_le' (w := w) hi
  simp [chunk]
  omega
theorem RowD.open (hw : 0 < w) {S : Fp} {h : AH} {l : List α} {a : Option Addr} (x : RowD w P S h l a) {i : Nat} (hi : i < l.length) :
    ∃ Ci cs, Foc w P S h l a i Ci cs ∧ P Ci h l[i] cs ∧ cs.length = w ∧ (∀ b, Ci b → S b) ∧ (∀ b, blk a b → ¬ Ci b) := by
  obtain ⟨vs, T, x1, x2, x3, x4, C, c1, c2, c3⟩ := x
  have hne : vs ≠ [] := by
    intro e
    subst e
    have := mul_le' (w := w) hi
    simp at x2
    omega
  have x3' := x3.resolve_left hne
  exact ⟨C i, chunk w i vs, ⟨vs, T, C, x1, x2, x3', x4, c1, c2, fun q y _ hy => c3 q y hy, hi, rfl, rfl⟩, c3 i _ (List.getElem?_eq_getElem hi), chunk_len x2 hi, fun b hb => x4 b (c1 i b hb), fun b hb hc => (x3' b hb).2 (c1 i b hc)⟩
theorem Foc.close {S : Fp} {h : AH} {l : List α} {a : Option Addr} {i : Nat} {Ci : Fp} {cs : List Value} (x : Foc w P S h l a i Ci cs) {y : α} (hy : P Ci h y cs) : RowD w P S h (l.set i y) a := by
  obtain ⟨vs, T, C, x1, x2, x3, x4, c1, c2, c3, hi, e1, e2⟩ := x
  refine ⟨vs, T, x1, by simpa using x2, .inr x3, x4, C, c1, c2, fun q z hz => ?_⟩
  by_cases e : q = i
  · subst e
    rw [List.getElem?_set_self hi] at hz
    injection hz with hz
    subst hz
    rw [e1, e2]
    exact hy
  · rw [List.getElem?_set_ne (by omega)] at hz
    exact c3 q z e hz
theorem Foc.keep (kp : Kp P) {S U : Fp} {h h' : AH} {l : List α} {a : Option Addr} {i : Nat} {Ci : Fp} {cs : List Value} (x : Foc w P S h l a i Ci cs) (k : KB U h h') (hs : ∀ b, S b → U b → Ci b) : Foc w P S h' l a i Ci cs := by
  obtain ⟨vs, T, C, x1, x2, x3, x4, c1, c2, c3, hi, e1, e2⟩ := x
  subst e2
  refine ⟨vs, T, C, x1.keep k fun b hb hu => (x3 b hb).2 (c1 i b (hs b (x3 b hb).1 hu)), x2, x3, x4, c1, c2, fun q y hq hy => kp _ _ _ _ _ _ k (fun b hb hu => c2 q i b hq hb (hs b (x4 b (c1 q b hb)) hu)) (c3 q y hq hy), hi, e1, rfl⟩
theorem Foc.wr (kp : Kp P) {base : Nat} {S : Fp} {h : AH} {l : List α} {a : Option Addr} {i : Nat} {Ci : Fp} {cs : List Value} (x : Foc w P S h l a i Ci cs) (hb : ∀ b, S b → base ≤ b) {j : Nat} {new : List Value} (hj : j + new.length ≤ w) (h0 : 0 < new.length) :
    ∃ ad h', a = some ad ∧ Am.wr base h ad.block (ad.off + i * w + j) new = some h' ∧ Foc w P S h' l a i Ci (setAt cs j new) ∧ KB (blk a) h h' ∧ h'.length = h.length := by
  obtain ⟨vs, T, C, x1, x2, x3, x4, c1, c2, c3, hi, e1, e2⟩ := x
  subst e2
  have hle := mul_le' (w := w) hi
  obtain ⟨ad, h', w1, w2, w3, w4, w5⟩ := x1.wr (base := base) (fun b hbb => hb b (x3 b hbb).1) (i := i * w + j) (new := new) (by omega) h0
  refine ⟨ad, h', w1, by rw [Nat.add_assoc]; exact w2, ⟨setAt vs (i * w + j) new, T, C, w3, ?_, x3, x4, c1, c2, fun q y hq hy => ?_, hi, ?_, rfl⟩, w4, w5⟩
  · simp [setAt]; omega
  · have e : chunk w q (setAt vs (i * w + j) new) = chunk w q vs := by
      apply List.ext_getElem?
      intro t
      by_cases ht : t < w
      · rw [chunk, chunk, List.getElem?_take_of_lt ht, List.getElem?_take_of_lt ht, List.getElem?_drop, List.getElem?_drop, setAt_get (by omega), if_neg]
        intro hh
        rcases Nat.lt_or_gt_of_ne hq with hlt | hgt
        · have := mul_le' (w := w) hlt; omega
        · have := mul_le' (w := w) hgt; omega
      · rw [List.getElem?_eq_none (by simp [chunk]; omega), List.getElem?_eq_none (by simp [chunk]; omega)]
    rw [e]
    exact kp _ _ _ _ _ _ w4 (fun b hbb hk => (x3 b hk).2 (c1 q b hbb)) (c3 q y hq hy)
  · rw [← e1]
    apply List.ext_getElem?
    intro t
    have hcl : (chunk w i vs).length = w := chunk_len x2 hi
    by_cases ht : t < w
    · rw [chunk, List.getElem?_take_of_lt ht, List.getElem?_drop, setAt_get (by omega), setAt_get (by omega)]
      by_cases hin : j ≤ t ∧ t < j + new.length
      · rw [if_pos (by omega), if_pos (by omega), show i * w + t - (i * w + j) = t - j from by omega]
      · rw [if_neg (by omega), if_neg (by omega), chunk, List.getElem?_take_of_lt ht, List.getElem?_drop]
    · rw [List.getElem?_eq_none (by simp [chunk]; omega), List.getElem?_eq_none (by simp [setAt]; omega)]
theorem Foc.cell {S : Fp} {h : AH} {l : List α} {a : Option Addr} {i : Nat} {Ci : Fp} {cs : List Value} (x : Foc w P S h l a i Ci cs) {j : Nat} {v : Value} (hv : cs[j]? = some v) : ∃ ad, a = some ad ∧ Am.cell h ad.block (ad.off + i * w + j) = some v := by
  obtain ⟨vs, T, C, x1, x2, x3, x4, c1, c2, c3, hi, e1, e2⟩ := x
  have hjw : j < w := by
    have h1 := (List.getElem?_eq_some_iff.1 hv).1
    rw [← e1, chunk_len x2 hi] at h1
    exact h1
  rw [← e1, chunk, List.getElem?_take_of_lt hjw, List.getElem?_drop] at hv
  obtain ⟨ad, g1, g2⟩ := x1.cell hv
  exact ⟨ad, g1, by rw [Nat.add_assoc]; exact g2⟩
end

theorem chunk_setAt_self {w i : Nat} {vs cs : List Value} (hc : cs.length = w) (hi : i * w + w ≤ vs.length) : chunk w i (setAt vs (i * w) cs) = cs := by
  apply List.ext_getElem?
  intro j
  by_cases hj : j < w
  · rw [chunk, List.getElem?_take_of_lt hj, List.getElem?_drop, setAt_get (by omega), if_pos (by omega), show i * w + j - i * w = j from by omega]
  · rw [List.getElem?_eq_none (by simp [chunk]; omega), List.getElem?_eq_none (by omega)]
theorem chunk_setAt_other {w i j : Nat} {vs cs : List Value} (hc : cs.length = w) (hi : i * w + w ≤ vs.length) (hne : j ≠ i) : chunk w j (setAt vs (i * w) cs) = chunk w j vs := by
  apply List.ext_getElem?
  intro k
  by_cases hk : k < w
  · rw [chunk, chunk, List.getElem?_take_of_lt hk, List.getElem?_take_of_lt hk, List.getElem?_drop, List.getElem?_drop, setAt_get (by omega), if_neg]
    intro hh
    rcases Nat.lt_or_gt_of_ne hne with hlt | hgt
    · have := mul_le' (w := w) hlt; omega
    · have := mul_le' (w := w) hgt; omega
  · rw [List.getElem?_eq_none (by simp [chunk]; omega), List.getElem?_eq_none (by simp [chunk]; omega)]
theorem chunk_app_other {w i : Nat} {vs cs : List Value} (hi : i * w + w ≤ vs.length) : chunk w i (vs ++ cs) = chunk w i vs := by
  apply List.ext_getElem?
  intro k
  by_cases hk : k < w
  · rw [chunk, chunk, List.getElem?_take_of_lt hk, List.getElem?_take_of_lt hk, List.getElem?_drop, List.getElem?_drop, List.getElem?_append_left (by omega)]
  · rw [List.getElem?_eq_none (by simp [chunk]; omega), List.getElem?_eq_none (by simp [chunk]; omega)]
theorem chunk_app_self {w i : Nat} {vs cs : List Value} (hc : cs.length = w) (hi : vs.length = i * w) : chunk w i (vs ++ cs) = cs := by
  rw [chunk, ← hi, List.drop_left, ← hc, List.take_length]
theorem take_snoc {α : Type} {l : List α} {i : Nat} (hi : i < l.length) : l.take (i + 1) = l.take i ++ [l[i]] := by simp

/-- A term whose rows are all its own. -/
def TmD : Nat → Fp → AH → Tm → List Value → Prop
  | 0, _, _, _, _ => False
  | f + 1, S, h, .mk k n s l, cs => s.size ≤ maxLen ∧ l.length ≤ maxLen ∧ ∃ a, cs = termV k n s a l.length ∧ RowD 4 (TmD f) S h l a
theorem TmD.kp : ∀ f, Kp (TmD f)
  | 0 => fun S U h h' x cs k hs y => y.elim
  | f + 1 => fun S U h h' x cs k hs y => by
    obtain ⟨kk, n, s, l⟩ := x
    obtain ⟨h1, h2, a, e, r⟩ := y
    exact ⟨h1, h2, a, e, r.keep (TmD.kp f) k hs⟩
theorem TmD.mo : ∀ f, Mo (TmD f)
  | 0 => fun S S' h x cs hs y => y.elim
  | f + 1 => fun S S' h x cs hs y => by
    obtain ⟨kk, n, s, l⟩ := x
    obtain ⟨h1, h2, a, e, r⟩ := y
    exact ⟨h1, h2, a, e, r.mono hs⟩
theorem RowD.tsR' {f : Nat} (ih : ∀ S h t cs, TmD f S h t cs → TmR h S f t cs) {S : Fp} {h : AH} {l : List Tm} {a : Option Addr} (x : RowD 4 (TmD f) S h l a) : TsR h S f l a := by
  obtain ⟨vs, T, x1, x2, x3, x4, C, c1, c2, c3⟩ := x
  exact ⟨vs, x1, x3.imp id fun g b hb => (g b hb).1, x2, fun i t hi => (ih _ _ _ _ (c3 i t hi)).mono (fun b hb => x4 b (c1 i b hb)) _ _ _⟩
theorem TmD.tmR : ∀ f S h t cs, TmD f S h t cs → TmR h S f t cs
  | 0, S, h, t, cs, x => x.elim
  | f + 1, S, h, .mk k n s l, cs, x => by
    obtain ⟨h1, h2, a, e, r⟩ := x
    subst e
    exact TmR.of (RowD.tsR' (TmD.tmR f) r) h1 h2
theorem RowD.tsR {f : Nat} {S : Fp} {h : AH} {l : List Tm} {a : Option Addr} (x : RowD 4 (TmD f) S h l a) : TsR h S f l a := x.tsR' (TmD.tmR f)
end Go.Proofs.Ytnmjhhipbfngkaa.Am
