/- The laws' own helpers on numbers: copies, comparisons, marksI.
Conditions: none. -/
import Derived.Test.YtnmjhhipbfngkaaEq1
import Derived.Test.YtnmjhhipbfngkaaEq2
import Derived.Test.YtnmjhhipbfngkaaEq3
import Derived.Test.YtnmjhhipbfngkaaEq4
import Derived.Test.YtnmjhhipbfngkaaKt
set_option linter.unusedSimpArgs false
set_option linter.unusedVariables false
namespace Go.Proofs.Ytnmjhhipbfngkaa.Am
open Go Go.RowKit

theorem toIntS_loop {base : Nat} {a0 : Option Addr} {zs : List Int} (hn : zs.length ≤ 140737488355328) {a : Option Addr} : ∀ (d i : Nat) (h : AH), i + d = zs.length → Sl h a0 (iv .i64 zs) → (∀ b, blk a0 b → ¬ blk a b) → ∀ rest : List Int, rest.length = d → Own base 3 h a (iv .i64 (zs.take i ++ rest)) →
    ∃ h', loopL (B92_0 base) [some (.slice a0 zs.length zs.length), some (.slice a zs.length zs.length), some (.int .i64 (i : Int))] h = some (2, [some (.slice a zs.length zs.length)], h') ∧ Own base 3 h' a (iv .i64 zs) ∧ KB (blk a) h h' := by
  intro d
  induction d with
  | zero =>
    intro i h hi hs hb rest hr ho
    have e : zs.take i ++ rest = zs := by
      rw [List.eq_nil_of_length_eq_zero hr, List.append_nil, List.take_of_length_le (by omega)]
    rw [e] at ho
    refine ⟨h, ?_, ho, KB.refl _ _⟩
    rw [loopL_eq, B92_0_eq]
    have : ¬ ((i : Int) < (zs.length : Int)) := by omega
    simp [this]
  | succ d ih =>
    intro i h hi hs hb rest hr ho
    have hlt : i < zs.length := by omega
    obtain ⟨ad, h1, h2⟩ := hs.int hlt
    match rest, hr with
    | z :: rest, hr =>
      obtain ⟨ad2, h', g1, g2, g3, g4, g5⟩ := ho.wr (i := i) (new := [.int .i64 zs[i]]) (by simp; omega) (by simp)
      have e : setAt (iv .i64 (zs.take i ++ z :: rest)) i [.int .i64 zs[i]] = iv .i64 (zs.take (i + 1) ++ rest) := by
        have ht : (zs.take i).length = i := by simp; omega
        have e1 : (iv .i64 (zs.take i)).length = i := by simp; omega
        rw [← iv_append]
        simp only [setAt, List.length_singleton]
        have e2 : (iv .i64 (zs.take i) ++ iv .i64 (z :: rest)).take i = iv .i64 (zs.take i) := by
          rw [List.take_append_of_le_length (by omega), List.take_of_length_le (by omega)]
        have e3 : (iv .i64 (zs.take i) ++ iv .i64 (z :: rest)).drop (i + 1) = iv .i64 rest := by
          rw [List.drop_append, e1]
          have : i + 1 - i = 1 := by omega
          rw [this]
          simp [iv]
          omega
        rw [e2, e3, List.take_succ_eq_append_getElem hlt]
        simp only [iv, List.map_append, List.map_cons, List.map_nil]
      rw [e] at g3
      obtain ⟨h'', k1, k2, k3⟩ := ih (i + 1) h' (by omega) (hs.keep g4 hb) hb rest (by simpa using hr) g3
      refine ⟨h'', ?_, k2, KB.trans g4 k3 (fun _ _ h => h) (fun _ _ h => h)⟩
      rw [loopL_eq, B92_0_eq]
      have c1 : ((i : Int) < (zs.length : Int)) := by omega
      subst h1; subst g1
      rw [w64i (by omega) (by omega)]
      have hc : (((i : Int) + 1 : Int)) = ((i + 1 : Nat) : Int) := by omega
      simp only [c1, decide_true, if_true, Option.bind_some, Int.toNat_natCast, Nat.mul_one, h2, g2, hc]
      rw [if_pos ⟨by omega, trivial⟩, if_pos ⟨by omega, trivial⟩]
      simp only [Option.bind_some, if_true]
      exact k1

/-- A copy of numbers. -/
theorem toIntS_run {base : Nat} {h : AH} {a0 : Option Addr} {zs : List Int} (hs : Sl h a0 (iv .i64 zs)) (hn : zs.length ≤ 1048576) (hb : base ≤ h.length) :
    ∃ a h', run (Et base) 92 [.slice a0 zs.length zs.length] h = some (.slice a zs.length zs.length, h') ∧ Own base 3 h' a (iv .i64 zs) ∧ KB NoB h h' ∧ ∀ b, blk a b → h.length ≤ b := by
  have hrep : ∀ n, rep [Value.int .i64 0] n = iv .i64 (List.replicate n 0) := by
    intro n
    induction n with
    | zero => rfl
    | succ n ih => simp only [rep, ih]; rfl
  have hown := Own.new base 3 h (rep [Value.int .i64 0] zs.length) hb
  rw [hrep] at hown
  have hk : KB NoB h (h ++ [some ⟨rep [Value.int .i64 0] zs.length, 3⟩]) := KB.push _ _ _
  have hsep : ∀ b, blk a0 b → zs = [] ∨ ¬ blk (some (⟨h.length, 0, none⟩ : Addr)) b := by
    intro b hb'
    rcases hs with e | ⟨ad, k, h1, h2, _⟩
    · left
      have := congrArg List.length e
      simp at this
      exact this
    · right
      rw [blk_new]
      obtain ⟨ad', e1, e2⟩ := hb'
      rw [h1] at e1
      injection e1 with e1
      subst e1; subst e2
      have := hget_lt h2
      omega
  have main : ∃ h', loopL (B92_0 base) [some (.slice a0 zs.length zs.length), some (.slice (some ⟨h.length, 0, none⟩) zs.length zs.length), some (.int .i64 ((0 : Nat) : Int))] (h ++ [some ⟨rep [Value.int .i64 0] zs.length, 3⟩]) = some (2, [some (.slice (some ⟨h.length, 0, none⟩) zs.length zs.length)], h') ∧ Own base 3 h' (some ⟨h.length, 0, none⟩) (iv .i64 zs) ∧ KB (blk (some (⟨h.length, 0, none⟩ : Addr))) (h ++ [some ⟨rep [Value.int .i64 0] zs.length, 3⟩]) h' := by
    by_cases hz : zs = []
    · subst hz
      refine ⟨_, ?_, by simpa [hrep] using hown, KB.refl _ _⟩
      rw [loopL_eq, B92_0_eq]
      simp
    · exact toIntS_loop (by omega) zs.length 0 _ (by omega) (hs.keep hk fun _ _ h => h.elim) (fun b hb' => (hsep b hb').resolve_left hz) (List.replicate zs.length 0) (by simp) (by simpa [hrep] using hown)
  obtain ⟨h', m1, m2, m3⟩ := main
  refine ⟨some ⟨h.length, 0, none⟩, h', r92 ?_, m2, KB.trans hk m3 (fun _ _ h => h) (fun i hi h => by rw [blk_new] at h; omega), fun b hb' => by rw [blk_new] at hb'; omega⟩
  rw [if_pos ⟨rfl, by omega, by omega, by omega⟩]
  simp only [Int.toNat_natCast, Option.bind_some]
  rw [show ((0 : Nat) : Int) = 0 from rfl] at m1
  rw [m1]
  simp [sget, getS]

theorem eqIntS_loop {base : Nat} {h : AH} {a b : Option Addr} {xs ys : List Int} (hx : Sl h a (iv .i64 xs)) (hy : Sl h b (iv .i64 ys)) (hl : xs.length = ys.length) (hn : xs.length ≤ 140737488355328) : ∀ (d i : Nat), i + d = xs.length → xs.take i = ys.take i →
    loopL (B71_0 base) [some (.slice a xs.length xs.length), some (.slice b ys.length ys.length), some (.int .i64 (i : Int))] h = if xs = ys then some (2, [], h) else some (1, [some (.bool false)], h) := by
  intro d
  induction d with
  | zero =>
    intro i hi he
    rw [List.take_of_length_le (by omega), List.take_of_length_le (by omega)] at he
    rw [if_pos he, loopL_eq, B71_0_eq]
    have : ¬ ((i : Int) < (xs.length : Int)) := by omega
    simp [this]
  | succ d ih =>
    intro i hi he
    have hlt : i < xs.length := by omega
    have hlt2 : i < ys.length := by omega
    obtain ⟨ad, h1, h2⟩ := hx.int hlt
    obtain ⟨ad2, h3, h4⟩ := hy.int hlt2
    rw [loopL_eq, B71_0_eq]
    have c1 : ((i : Int) < (xs.length : Int)) := by omega
    have c2 : ((i : Int) < (ys.length : Int)) := by omega
    subst h1; subst h3
    rw [w64i (by omega) (by omega)]
    have hc : (((i : Int) + 1 : Int)) = ((i + 1 : Nat) : Int) := by omega
    simp only [c1, c2, decide_true, if_true, Option.bind_some, Int.toNat_natCast, Nat.mul_one, h2, h4, hc]
    rw [if_pos ⟨by omega, trivial⟩, if_pos ⟨by omega, trivial⟩]
    by_cases hq : xs[i] = ys[i]
    · have : (xs[i] != ys[i]) = false := by simp [hq]
      rw [this]
      simp only [Bool.false_eq_true, if_false, Option.bind_some, if_true]
      exact ih (i + 1) (by omega) (by rw [List.take_succ_eq_append_getElem hlt, List.take_succ_eq_append_getElem hlt2, he, hq])
    · have hne : ¬ xs = ys := fun e => hq (by subst e; rfl)
      have : (xs[i] != ys[i]) = true := by simp [hq]
      rw [this, if_neg hne]
      simp

/-- Are two rows of numbers the same? -/
theorem eqIntS_run {base : Nat} {h : AH} {a b : Option Addr} {xs ys : List Int} (hx : Sl h a (iv .i64 xs)) (hy : Sl h b (iv .i64 ys)) (hn : xs.length ≤ 140737488355328) :
    run (Et base) 71 [.slice a xs.length xs.length, .slice b ys.length ys.length] h = some (.bool (decide (xs = ys)), h) := by
  refine r71 ?_
  by_cases hl : xs.length = ys.length
  · have : (((xs.length : Nat) : Int) != ((ys.length : Nat) : Int)) = false := by simp [hl]
    rw [this]
    simp only [Bool.false_eq_true, if_false]
    have hm := eqIntS_loop (base := base) hx hy hl hn xs.length 0 (by omega) (by simp)
    rw [show ((0 : Nat) : Int) = 0 from rfl] at hm
    rw [hm]
    by_cases he : xs = ys
    · simp [he]
    · simp [he, sget, getB]
  · have : (((xs.length : Nat) : Int) != ((ys.length : Nat) : Int)) = true := by simp; omega
    rw [this]
    have hne : ¬ xs = ys := fun e => hl (by rw [e])
    simp [hne]

def marksI (k n : Nat) : List Int := (List.range n).map fun i => ((k + i : Nat) : Int)
@[simp] theorem marksI_length (k n : Nat) : (marksI k n).length = n := by simp [marksI]
theorem marksI_get {k n i : Nat} (h : i < n) : (marksI k n)[i]'(by simpa using h) = ((k + i : Nat) : Int) := by simp [marksI]

end Go.Proofs.Ytnmjhhipbfngkaa.Am
