/- Rows of what is said, and of timers: six cells an entry.
Conditions: none. -/
import Derived.Test.YtnmjhhipbfngkaaTm3
set_option linter.unusedSimpArgs false
set_option linter.unusedVariables false
namespace Go.Proofs.Ytnmjhhipbfngkaa.Am
open Go Go.RowKit

structure Sd where
  kind : Int
  pid : Int
  t : Tm
def SsR (h : AH) (p : Nat → Prop) (f : Nat) (l : List Sd) (a : Option Addr) : Prop :=
  ∃ vs, Sl h a vs ∧ (vs = [] ∨ ∀ b, blk a b → p b) ∧ vs.length = l.length * 6 ∧ ∀ i x, l[i]? = some x → ∃ cs, (vs.drop (i * 6)).take 6 = .int .i64 x.kind :: .int .i64 x.pid :: cs ∧ TmR h p f x.t cs
theorem SsR.keep {h h' : AH} {p S : Nat → Prop} (k : KB S h h') (hp : ∀ b, p b → ¬ S b) {f : Nat} {l : List Sd} {a : Option Addr} (x : SsR h p f l a) : SsR h' p f l a := by
  obtain ⟨vs, h4, h5, h6, h7⟩ := x
  refine ⟨vs, ?_, h5, h6, fun i t hi => ?_⟩
  · rcases h5 with e | h5
    · exact .inl e
    · exact h4.keep k fun b hb hs => hp b (h5 b hb) hs
  · obtain ⟨cs, e, hm⟩ := h7 i t hi
    exact ⟨cs, e, TmR.keep k hp f _ _ hm⟩
theorem SsR.get {h : AH} {p : Nat → Prop} {f : Nat} {l : List Sd} {a : Option Addr} (x : SsR h p f l a) {i : Nat} (hi : i < l.length) :
    ∃ ad k n s a2 m, a = some ad ∧ ad.block < h.length ∧ Am.cell h ad.block (ad.off + i * 6) = some (.int .i64 l[i].kind) ∧ Am.cell h ad.block (ad.off + i * 6 + 1) = some (.int .i64 l[i].pid) ∧ Am.cell h ad.block (ad.off + i * 6 + 1 + 1) = some (.int .i64 k) ∧
      Am.cell h ad.block (ad.off + i * 6 + 1 + 1 + 1) = some (.int .i64 n) ∧ Am.cell h ad.block (ad.off + i * 6 + 1 + 1 + 1 + 1) = some (.string s) ∧ Am.cell h ad.block (ad.off + i * 6 + 1 + 1 + 1 + 1 + 1) = some (.slice a2 m m) ∧ TmR h p f l[i].t (termV k n s a2 m) := by
  obtain ⟨vs, h4, h5, h6, h7⟩ := x
  have hlt : i * 6 + 5 < vs.length := by omega
  obtain ⟨cs, ecs, hm⟩ := h7 i l[i] (List.getElem?_eq_getElem hi)
  cases f with
  | zero => exact hm.elim
  | succ f =>
    generalize ht : l[i].t = tt at hm
    obtain ⟨k, n, s, ll⟩ := tt
    obtain ⟨a2, rfl, _, _, _⟩ := hm.parts
    have each : ∀ (j : Nat) (v : Value), (Value.int .i64 l[i].kind :: .int .i64 l[i].pid :: termV k n s a2 ll.length)[j]? = some v → vs[i * 6 + j]? = some v := by
      intro j v hv
      have hj : j < 6 := by have := (List.getElem?_eq_some_iff.1 hv).1; simpa using this
      rw [← ecs, List.getElem?_take_of_lt hj, List.getElem?_drop] at hv
      exact hv
    rcases h4 with e | ⟨ad, kk, e1, e2, e3, e4⟩
    · subst e; simp at hlt
    · have c : ∀ (j : Nat) (v : Value), (Value.int .i64 l[i].kind :: .int .i64 l[i].pid :: termV k n s a2 ll.length)[j]? = some v → Am.cell h ad.block (ad.off + i * 6 + j) = some v := by
        intro j v hv
        have := e4 _ _ (each j v hv)
        rw [Nat.add_assoc]
        simp [Am.cell, e2, this]
      exact ⟨ad, k, n, s, a2, ll.length, e1, hget_lt e2, c 0 _ rfl, c 1 _ rfl, c 2 _ rfl, c 3 _ rfl, c 4 _ rfl, c 5 _ rfl, hm⟩

abbrev saidV (kind pid k n : Int) (s : ByteArray) (a : Option Addr) (m : Nat) : List Value := [.int .i64 kind, .int .i64 pid, .int .i64 k, .int .i64 n, .string s, .slice a m m]
theorem chunk6_self {vs cs : List Value} {i : Nat} (hc : cs.length = 6) (hi : i * 6 + 6 ≤ vs.length) : ((setAt vs (i * 6) cs).drop (i * 6)).take 6 = cs := by
  apply List.ext_getElem?
  intro j
  by_cases hj : j < 6
  · rw [List.getElem?_take_of_lt hj, List.getElem?_drop, setAt_get (by omega), if_pos (by omega), show i * 6 + j - i * 6 = j from by omega]
  · rw [List.getElem?_eq_none (by simp; omega), List.getElem?_eq_none (by omega)]
theorem chunk6_other {vs cs : List Value} {i j : Nat} (hc : cs.length = 6) (hi : i * 6 + 6 ≤ vs.length) (hne : j ≠ i) : ((setAt vs (i * 6) cs).drop (j * 6)).take 6 = (vs.drop (j * 6)).take 6 := by
  apply List.ext_getElem?
  intro k
  by_cases hk : k < 6
  · rw [List.getElem?_take_of_lt hk, List.getElem?_take_of_lt hk, List.getElem?_drop, List.getElem?_drop, setAt_get (by omega), if_neg (by omega)]
  · rw [List.getElem?_eq_none (by simp; omega), List.getElem?_eq_none (by simp; omega)]
theorem rep_len6 (z0 z1 z2 z3 z4 z5 : Value) : ∀ n, (rep [z0, z1, z2, z3, z4, z5] n).length = n * 6
  | 0 => rfl
  | n + 1 => by simp only [rep, List.length_append, rep_len6 z0 z1 z2 z3 z4 z5 n]; simp; omega
theorem g6 {kind pid k n : Int} {s : ByteArray} {a : Option Addr} {m : Nat} {β : Type} {f : Int → Int → Int → Int → ByteArray → Option Addr × Nat → Option β} {z : Option β} (hf : f kind pid k n s (a, m) = z) :
    (((some (Value.agg (saidV kind pid k n s a m).toArray)).bind (getAgg 6)).bind fun l => ((l[0]?).bind (getI .i64)).bind fun n1 => ((l[1]?).bind (getI .i64)).bind fun n2 => ((l[2]?).bind (getI .i64)).bind fun n3 => ((l[3]?).bind (getI .i64)).bind fun n4 => ((l[4]?).bind getStr).bind fun s5 => ((l[5]?).bind getS).bind fun l6 => f n1 n2 n3 n4 s5 l6) = z := hf
theorem SsR.le {h : AH} {p : Nat → Prop} {f f' : Nat} (hf : f ≤ f') {l : List Sd} {a : Option Addr} (x : SsR h p f l a) : SsR h p f' l a := by
  obtain ⟨vs, h1, h2, h3, h4⟩ := x
  exact ⟨vs, h1, h2, h3, fun i y hy => by obtain ⟨cs, e, m⟩ := h4 i y hy; exact ⟨cs, e, m.le hf⟩⟩

end Go.Proofs.Ytnmjhhipbfngkaa.Am
