/- Rows of cells, one's own rows, and what stays as it was.
Conditions: none. -/
import Derived.Test.YtgigdaijailfkaaAm21
set_option linter.unusedSimpArgs false
set_option linter.unusedVariables false
namespace Go.Proofs.Ytgigdaijailfkaa.Am
open Go Go.RowKit

/-- All blocks stay but those in S. -/
def KB (S : Nat → Prop) (h h' : AH) : Prop := h.length ≤ h'.length ∧ ∀ b, b < h.length → ¬ S b → hget h' b = hget h b
abbrev NoB : Nat → Prop := fun _ => False
def blk (a : Option Addr) (b : Nat) : Prop := ∃ ad, a = some ad ∧ ad.block = b
theorem KB.refl (S : Nat → Prop) (h : AH) : KB S h h := ⟨Nat.le_refl _, fun _ _ _ => rfl⟩
theorem KB.trans {S S' T : Nat → Prop} {a b c : AH} (x : KB S a b) (y : KB S' b c) (h1 : ∀ i, i < a.length → S i → T i) (h2 : ∀ i, i < a.length → S' i → T i) : KB T a c :=
  ⟨Nat.le_trans x.1 y.1, fun i hi hn => by
    rw [y.2 i (Nat.lt_of_lt_of_le hi x.1) (fun h => hn (h2 i hi h)), x.2 i hi (fun h => hn (h1 i hi h))]⟩
theorem KB.mono {S T : Nat → Prop} {a b : AH} (x : KB S a b) (h1 : ∀ i, i < a.length → S i → T i) : KB T a b := ⟨x.1, fun i hi hn => x.2 i hi fun h => hn (h1 i hi h)⟩
theorem KB.push (S : Nat → Prop) (h : AH) (x : Option Blk) : KB S h (h ++ [x]) := ⟨by simp, fun b hb _ => hget_append_lt hb⟩
theorem KB.set {S : Nat → Prop} {h : AH} {b : Nat} (x : Option Blk) (hb : S b) : KB S h (h.set b x) := ⟨by simp, fun i _ hn => hget_set_ne fun e => hn (e ▸ hb)⟩

/-- A row of cells. -/
def Sl (h : AH) (a : Option Addr) (vs : List Value) : Prop := vs = [] ∨ ∃ ad k, a = some ad ∧ hget h ad.block = some k ∧ ad.off + vs.length ≤ k.cs.length ∧ ∀ (i : Nat) (v : Value), vs[i]? = some v → k.cs[ad.off + i]? = some v
/-- A row of one's own. -/
def Own (base t : Nat) (h : AH) (a : Option Addr) (vs : List Value) : Prop := (a = none ∧ vs = []) ∨ ∃ ad k, a = some ad ∧ base ≤ ad.block ∧ hget h ad.block = some k ∧ k.ty = t ∧ ad.off + vs.length ≤ k.cs.length ∧ ∀ (i : Nat) (v : Value), vs[i]? = some v → k.cs[ad.off + i]? = some v
theorem Own.sl {base t : Nat} {h : AH} {a : Option Addr} {vs : List Value} (x : Own base t h a vs) : Sl h a vs := by
  rcases x with ⟨_, h⟩ | ⟨ad, k, h1, _, h2, _, h3, h4⟩
  · exact .inl h
  · exact .inr ⟨ad, k, h1, h2, h3, h4⟩
theorem Sl.keep {S : Nat → Prop} {h h' : AH} {a : Option Addr} {vs : List Value} (x : Sl h a vs) (k : KB S h h') (hs : ∀ b, blk a b → ¬ S b) : Sl h' a vs := by
  rcases x with h | ⟨ad, kk, h1, h2, h3, h4⟩
  · exact .inl h
  · exact .inr ⟨ad, kk, h1, by rw [k.2 _ (hget_lt h2) (hs _ ⟨ad, h1, rfl⟩)]; exact h2, h3, h4⟩
theorem Own.keep {base t : Nat} {S : Nat → Prop} {h h' : AH} {a : Option Addr} {vs : List Value} (x : Own base t h a vs) (k : KB S h h') (hs : ∀ b, blk a b → ¬ S b) : Own base t h' a vs := by
  rcases x with h | ⟨ad, kk, h1, h0, h2, ht, h3, h4⟩
  · exact .inl h
  · exact .inr ⟨ad, kk, h1, h0, by rw [k.2 _ (hget_lt h2) (hs _ ⟨ad, h1, rfl⟩)]; exact h2, ht, h3, h4⟩
theorem Own.lt {base t : Nat} {h : AH} {a : Option Addr} {vs : List Value} (x : Own base t h a vs) {b : Nat} (hb : blk a b) : base ≤ b ∧ b < h.length := by
  obtain ⟨ad, rfl, rfl⟩ := hb
  rcases x with ⟨h, _⟩ | ⟨ad', kk, h1, h0, h2, _⟩
  · cases h
  · injection h1 with h1; subst h1; exact ⟨h0, hget_lt h2⟩
theorem Sl.cell {h : AH} {a : Option Addr} {vs : List Value} (x : Sl h a vs) {i : Nat} {v : Value} (hi : vs[i]? = some v) : ∃ ad, a = some ad ∧ Am.cell h ad.block (ad.off + i) = some v := by
  rcases x with h | ⟨ad, kk, h1, h2, h3, h4⟩
  · subst h; simp at hi
  · exact ⟨ad, h1, by simp [Am.cell, h2, h4 i v hi]⟩
theorem Sl.raw {h : AH} {a : Option Addr} {vs : List Value} (x : Sl h a vs) (hl : vs.all leaf = true) : rawAt h a vs.length = some vs := by
  rcases x with h | ⟨ad, kk, h1, h2, h3, h4⟩
  · subst h; rfl
  · have e : (kk.cs.drop ad.off).take vs.length = vs := by
      apply List.ext_getElem?
      intro i
      by_cases hi : i < vs.length
      · rw [List.getElem?_take_of_lt hi, List.getElem?_drop, h4 i _ (List.getElem?_eq_getElem hi), List.getElem?_eq_getElem hi]
      · rw [List.getElem?_eq_none (by simp; omega), List.getElem?_eq_none (by omega)]
    unfold rawAt
    split
    · rename_i h0
      rw [List.eq_nil_of_length_eq_zero h0]
    · subst h1
      simp only [Option.bind_some, h2]
      rw [e, if_pos ⟨h3, hl⟩]
theorem Own.new (base t : Nat) (h : AH) (cs : List Value) (hb : base ≤ h.length) : Own base t (h ++ [some ⟨cs, t⟩]) (some ⟨h.length, 0, none⟩) cs :=
  .inr ⟨⟨h.length, 0, none⟩, ⟨cs, t⟩, rfl, hb, hget_append_new, rfl, by simp, fun i v hi => by simpa using hi⟩
theorem blk_new {h : AH} {b : Nat} {o : Nat} : blk (some ⟨h.length, o, none⟩) b ↔ b = h.length :=
  ⟨fun ⟨ad, e, hb⟩ => by injection e with e; subst e; exact hb.symm, fun e => ⟨_, rfl, e.symm⟩⟩

/-- A write into one's own row. -/
theorem Own.wr {base t : Nat} {h : AH} {a : Option Addr} {vs : List Value} (x : Own base t h a vs) {i : Nat} {new : List Value} (hi : i + new.length ≤ vs.length) (h0 : 0 < new.length) :
    ∃ ad h', a = some ad ∧ Am.wr base h ad.block (ad.off + i) new = some h' ∧ Own base t h' a (setAt vs i new) ∧ KB (blk a) h h' ∧ h'.length = h.length := by
  rcases x with ⟨_, h⟩ | ⟨ad, kk, h1, hb, h2, ht, h3, h4⟩
  · subst h; simp only [List.length_nil] at hi; omega
  · refine ⟨ad, h.set ad.block (some ⟨setAt kk.cs (ad.off + i) new, kk.ty⟩), h1, ?_, ?_, KB.set _ ⟨ad, h1, rfl⟩, by simp⟩
    · unfold Am.wr
      rw [if_pos hb, h2]
      simp only [Option.bind_some]
      rw [if_pos (by omega)]
    · have hl : (setAt vs i new).length = vs.length := by simp [setAt]; omega
      refine .inr ⟨ad, ⟨setAt kk.cs (ad.off + i) new, kk.ty⟩, h1, hb, hget_set_self (hget_lt h2), ht, ?_, fun j v hj => ?_⟩
      · rw [hl]; simp [setAt]; omega
      · simp only
        rw [setAt_get hi] at hj
        rw [setAt_get (by omega)]
        split at hj
        · rename_i hin
          rw [if_pos (by omega), show ad.off + j - (ad.off + i) = j - i from by omega]
          exact hj
        · rename_i hout
          rw [if_neg (by omega)]
          exact h4 j v hj

/-- An append to one's own row. -/
theorem Own.app {base t sz bytes : Nat} {h : AH} {a : Option Addr} {olds : List Value} (x : Own base t h a olds) {n m : Nat} (hn : olds.length = n * sz) (hsz : 0 < sz) {new : List Value} {src : Option (List Value)} (hs : src = some new) (hb : base ≤ h.length)
    (h1 : (n + m) * bytes ≤ 140737488355328) (h2 : n + m ≤ 9223372036854775807) (hm : new.length = m * sz) :
    ∃ a' h', Am.app base h t sz bytes a n src m = some (.slice a' (n + m) (n + m), h') ∧ Own base t h' a' (olds ++ new) ∧ KB (blk a) h h' ∧ ((m = 0 ∧ a' = a ∧ h' = h) ∨ (∀ b, blk a' b → b = h.length)) := by
  unfold Am.app
  by_cases h0 : m = 0
  · subst h0
    have : new = [] := List.eq_nil_of_length_eq_zero (by omega)
    subst this
    rw [if_pos rfl]
    exact ⟨a, h, rfl, by simpa using x, KB.refl _ _, .inl ⟨rfl, rfl, rfl⟩⟩
  · rw [if_neg h0]
    subst hs
    simp only [Option.bind_some]
    unfold grow
    rw [if_pos ⟨h1, h2⟩]
    rcases x with ⟨rfl, ho⟩ | ⟨ad, kk, rfl, hbb, hk, ht, h3, h4⟩
    · subst ho
      have : n = 0 := by
        rcases Nat.eq_zero_or_pos n with h | h
        · exact h
        · have := Nat.mul_pos h hsz; simp at hn; omega
      subst this
      simp only [if_true]
      refine ⟨some ⟨h.length, 0, none⟩, h ++ [some ⟨new, t⟩], by simp, by simpa using Own.new base t h new hb, KB.push _ _ _, .inr fun b hb' => blk_new.1 hb'⟩
    · simp only [hk, Option.bind_some]
      have e : (kk.cs.drop ad.off).take (n * sz) = olds := by
        rw [← hn]
        apply List.ext_getElem?
        intro i
        by_cases hi : i < olds.length
        · rw [List.getElem?_take_of_lt hi, List.getElem?_drop, h4 i _ (List.getElem?_eq_getElem hi), List.getElem?_eq_getElem hi]
        · rw [List.getElem?_eq_none (by simp; omega), List.getElem?_eq_none (by omega)]
      rw [if_pos ⟨hbb, ht, by omega⟩, e]
      have hlen : (h.set ad.block none).length = h.length := by simp
      refine ⟨_, _, rfl, ?_, ?_, .inr fun b hb' => blk_new.1 hb'⟩
      · have := Own.new base t (h.set ad.block none) (olds ++ new) (by rw [hlen]; exact hb)
        rw [hlen] at this
        exact this
      · exact KB.trans (KB.set (S := blk (some ad)) none ⟨ad, rfl, rfl⟩) (KB.push NoB _ _) (fun _ _ h => h) (fun _ _ h => h.elim)

/-! ### Rows of numbers -/
def iv (k : IntKind) (zs : List Int) : List Value := zs.map (Value.int k)
theorem iv_get {k : IntKind} {zs : List Int} {i : Nat} {z : Int} (h : zs[i]? = some z) : (iv k zs)[i]? = some (.int k z) := by simp [iv, h]
@[simp] theorem iv_length (k : IntKind) (zs : List Int) : (iv k zs).length = zs.length := by simp [iv]
theorem iv_leaf (k : IntKind) (zs : List Int) : (iv k zs).all leaf = true := by
  rw [List.all_eq_true]
  intro v hv
  simp only [iv, List.mem_map] at hv
  obtain ⟨z, _, rfl⟩ := hv
  rfl
theorem iv_append (k : IntKind) (xs ys : List Int) : iv k xs ++ iv k ys = iv k (xs ++ ys) := by simp [iv]
theorem Sl.int {h : AH} {a : Option Addr} {k : IntKind} {zs : List Int} (x : Sl h a (iv k zs)) {i : Nat} (hi : i < zs.length) : ∃ ad, a = some ad ∧ (Am.cell h ad.block (ad.off + i)).bind (getI k) = some zs[i] := by
  obtain ⟨ad, h1, h2⟩ := x.cell (iv_get (List.getElem?_eq_getElem hi))
  exact ⟨ad, h1, by rw [h2]; simp [getI]⟩
end Go.Proofs.Ytgigdaijailfkaa.Am
