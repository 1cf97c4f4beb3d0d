/- The bytes of a number, as the program's addNum and the reference's PutNum put them behind others.
Conditions: none. -/
import Derived.Test.YtnmjhhipbfngkaaBy
import Derived.Laws.BitsLemmas
set_option linter.unusedSimpArgs false
set_option linter.unusedVariables false
namespace Go.Proofs.Ytnmjhhipbfngkaa.Am
open Go Go.RowKit

/-- One cell more, by way of a row of its own. -/
theorem Own.app1 {base t bytes : Nat} {h : AH} {a : Option Addr} {olds : List Value} (x : Own base t h a olds) {n : Nat} (hn : olds.length = n) {v : Value} (hv : leaf v = true) (hb : base ≤ h.length)
    (h1 : (n + 1) * bytes ≤ 140737488355328) (h2 : n + 1 ≤ 9223372036854775807) :
    ∃ a' h', Am.app base (h ++ [some ⟨[v], t⟩]) t 1 bytes a n (rawAt (h ++ [some ⟨[v], t⟩]) (some ⟨h.length, 0, none⟩) (1 * 1)) 1 = some (.slice a' (n + 1) (n + 1), h') ∧ Own base t h' a' (olds ++ [v]) ∧ KB (blk a) h h' ∧ ∀ b, blk a' b → h.length ≤ b := by
  have hr : rawAt (h ++ [some ⟨[v], t⟩]) (some ⟨h.length, 0, none⟩) (1 * 1) = some [v] := (Own.new base t h [v] hb).sl.raw (by simp [hv])
  have k0 : KB NoB h (h ++ [some ⟨[v], t⟩]) := KB.push _ _ _
  obtain ⟨a', h', g1, g2, g3, g4⟩ := (x.keep k0 fun _ _ h => h.elim).app (n := n) (m := 1) (sz := 1) (bytes := bytes) (by omega) (by omega) hr (by simp; omega) h1 h2 (by simp)
  refine ⟨a', h', g1, g2, KB.trans k0 g3 (fun _ _ h => h.elim) (fun _ _ h => h), fun b hb' => ?_⟩
  rcases g4 with ⟨h0, _⟩ | g4
  · omega
  · have := g4 b hb'
    simp at this
    omega

/-- A number's bytes. -/
def vi : Nat → Nat → List Int
  | 0, v => [(v : Int)]
  | f + 1, v => if v ≤ 127 then [(v : Int)] else ((v % 128 + 128 : Nat) : Int) :: vi f (v / 128)
def cl_ (v : Int) : Int := if v > 1000000 then 1000000 else if v < -1000000 then -1000000 else v
def zz (v : Int) : Nat := if v < 0 then (-2 * v - 1).toNat else (2 * v).toNat
def encN (v : Int) : List Int := vi 3 (zz (cl_ v))
theorem vi_length : ∀ f v, (vi f v).length ≤ f + 1
  | 0, v => by simp [vi]
  | f + 1, v => by
    simp only [vi]
    split
    · simp
    · have := vi_length f (v / 128); simp; omega

theorem spec_byte {v : Nat} (hv : v < 2 ^ 40) : IntKind.u8.wrap (Go.bits .or .i64 (Go.bits .and .i64 (v : Int) (127 : Int)) (128 : Int)) = ((v % 128 + 128 : Nat) : Int) := by
  have b64 : ∀ n : Int, 0 ≤ n → n < 2 ^ 60 → IntKind.i64.wrap n = n := fun n h0 h1 => w64i (by omega) (by omega)
  have e1 : Go.bits .and .i64 (v : Int) (127 : Int) = (v : Int) % 128 := bits_mask .i64 60 (by decide) b64 7 (by decide) _ (by omega) (by omega)
  rw [e1]
  have e2 : Go.bits .or .i64 (128 : Int) ((v : Int) % 128) = 128 + (v : Int) % 128 := bits_join .i64 60 (by decide) b64 7 128 _ (by omega) (by decide) (by decide) (by omega) (by omega) (by omega)
  have hcomm : Go.bits .or .i64 ((v : Int) % 128) 128 = Go.bits .or .i64 128 ((v : Int) % 128) := by
    simp only [Go.bits]; rw [BitVec.or_comm]
  rw [hcomm, e2, wu8 (by omega) (by omega)]
  omega
theorem spec_next (v : Nat) : Int.fdiv (v : Int) (2 ^ min ((7 : Int)).toNat 64) = ((v / 128 : Nat) : Int) := by
  have : (2 : Int) ^ min ((7 : Int)).toNat 64 = 128 := by decide
  rw [this, Int.fdiv_eq_ediv_of_nonneg _ (by decide)]
  omega
theorem impl_byte {v : Nat} (hv : v < 2 ^ 40) : IntKind.u8.wrap (IntKind.i64.wrap ((Int.tmod (v : Int) (128 : Int)) + (128 : Int))) = ((v % 128 + 128 : Nat) : Int) := by
  rw [Int.tmod_eq_emod_of_nonneg (by omega), w64i (by omega) (by omega), wu8 (by omega) (by omega)]
  omega
theorem impl_next {v : Nat} (hv : v < 2 ^ 40) : IntKind.i64.wrap (Int.tdiv (v : Int) (128 : Int)) = ((v / 128 : Nat) : Int) := by
  rw [Int.tdiv_eq_ediv_of_nonneg (by omega), w64i (by omega) (by omega)]
  omega

/-- What both loops do. -/
def VLoop (base : Nat) (B : Body) : Prop := ∀ (f v : Nat) (h : AH) (a : Option Addr) (xs : List Int), v < 128 ^ (f + 1) → f ≤ 4 → xs.length + f + 2 ≤ 1048576 * 4 → base ≤ h.length → Own base 5 h a (iv .u8 xs) →
    ∃ a' xs' v' h', loopL B [some (.slice a xs.length xs.length), some (.int .i64 (v : Int))] h = some (2, [some (.slice a' (List.length xs') (List.length xs')), some (.int .i64 ((v' : Nat) : Int))], h') ∧ Own base 5 h' a' (iv .u8 xs') ∧ v' ≤ 127 ∧ xs' ++ [(v' : Int)] = xs ++ vi f v ∧ KB (blk a) h h' ∧
      (∀ b, blk a' b → blk a b ∨ h.length ≤ b) ∧ xs'.length ≤ xs.length + f

theorem impl_loop {base : Nat} : VLoop base (B81_0 base) := by
  intro f
  induction f with
  | zero =>
    intro v h a xs hv _ _ hb ho
    refine ⟨a, xs, v, h, ?_, ho, by omega, rfl, KB.refl _ _, fun b h => .inl h, by omega⟩
    rw [loopL_eq, B81_0_eq]
    have : ¬ ((v : Int) > 127) := by omega
    simp [this]
  | succ f ih =>
    intro v h a xs hv hf hl hb ho
    by_cases h1 : v ≤ 127
    · refine ⟨a, xs, v, h, ?_, ho, h1, by simp [vi, h1], KB.refl _ _, fun b h => .inl h, by omega⟩
      rw [loopL_eq, B81_0_eq]
      have : ¬ ((v : Int) > 127) := by omega
      simp [this]
    · have hvb : v < 2 ^ 40 := by
        have : 128 ^ (f + 1 + 1) ≤ 128 ^ 5 := Nat.pow_le_pow_right (by decide) (by omega)
        have : (128 : Nat) ^ 5 < 2 ^ 40 := by decide
        omega
      obtain ⟨a1, h1', g1, g2, g3, g4⟩ := ho.app1 (t := 5) (bytes := 1) (n := xs.length) (by simp) (v := .int .u8 ((v % 128 + 128 : Nat) : Int)) rfl hb (by omega) (by omega)
      have e : iv .u8 xs ++ [Value.int .u8 ((v % 128 + 128 : Nat) : Int)] = iv .u8 (xs ++ [((v % 128 + 128 : Nat) : Int)]) := by simp [iv]
      rw [e] at g2
      have hdiv : v / 128 < 128 ^ (f + 1) := by
        rw [Nat.pow_succ] at hv
        exact Nat.div_lt_of_lt_mul (by rw [Nat.mul_comm]; exact hv)
      obtain ⟨a2, xs2, v2, h2', k1, k2, k3, k4, k5, k6, k7⟩ := ih (v / 128) h1' a1 _ hdiv (by omega) (by simp; omega) (by have := g3.1; omega) g2
      refine ⟨a2, xs2, v2, h2', ?_, k2, k3, ?_, KB.trans g3 k5 (fun _ _ h => h) (fun i hi h => absurd (g4 i h) (by omega)), fun b hb' => ?_, by simp at k7; omega⟩
      · rw [loopL_eq, B81_0_eq, impl_byte hvb, impl_next hvb]
        have : ((v : Int) > 127) := by omega
        simp only [this, decide_true, if_true, g1, Option.bind_some, getS]
        simp only [List.length_append, List.length_singleton] at k1
        exact k1
      · rw [k4]; simp [vi, h1]
      · rcases k6 b hb' with h | h
        · exact .inr (g4 b h)
        · have := g3.1; exact .inr (by omega)

theorem zz_lt (v : Int) : zz (cl_ v) < 128 ^ (3 + 1) := by
  unfold zz cl_
  have : (128 : Nat) ^ (3 + 1) = 268435456 := by decide
  rw [this]
  split <;> (try split) <;> (try split) <;> omega

/-- impl.addNum: the bytes of a number put behind. -/
theorem addNum_run {base : Nat} {h : AH} {a : Option Addr} {xs : List Int} {v : Int} (ho : Own base 5 h a (iv .u8 xs)) (hl : xs.length ≤ 1048576 * 2) (hb : base ≤ h.length) :
    ∃ a' h', run (Et base) 81 [.slice a xs.length xs.length, .int .i64 v] h = some (.slice a' (xs ++ encN v).length (xs ++ encN v).length, h') ∧ Own base 5 h' a' (iv .u8 (xs ++ encN v)) ∧ KB (blk a) h h' ∧ (∀ b, blk a' b → h.length ≤ b) := by
  obtain ⟨a1, xs1, v1, h1, k1, k2, k3, k4, k5, k6, k7⟩ := impl_loop (base := base) 3 (zz (cl_ v)) h a xs (zz_lt v) (by omega) (by omega) hb ho
  obtain ⟨a2, h2, g1, g2, g3, g4⟩ := k2.app1 (t := 5) (bytes := 1) (n := xs1.length) (by simp) (v := .int .u8 (v1 : Int)) rfl (by have := k5.1; omega) (by omega) (by omega)
  have e : iv .u8 xs1 ++ [Value.int .u8 (v1 : Int)] = iv .u8 (xs ++ encN v) := by
    rw [encN, ← k4]; simp [iv]
  have e2 : xs1.length + 1 = (xs ++ encN v).length := by
    rw [encN, ← k4]; simp
  rw [e] at g2
  rw [e2] at g1
  have hc : (if (if (1000000 : Int) < v then (1000000 : Int) else v) > (-1000000 : Int) then (if (1000000 : Int) < v then (1000000 : Int) else v) else (-1000000 : Int)) = cl_ v := by
    unfold cl_
    split <;> (try split) <;> (try split) <;> (try split) <;> omega
  refine ⟨a2, h2, r81 ?_, g2, KB.trans k5 g3 (fun _ _ h => h) (fun i hi h => ?_), fun b hb' => by have := g4 b hb'; have := k5.1; omega⟩
  · rw [hc]
    have hcl : -1000000 ≤ cl_ v ∧ cl_ v ≤ 1000000 := by unfold cl_; split <;> (try split) <;> omega
    by_cases hneg : cl_ v < 0
    · have hz : IntKind.i64.wrap ((IntKind.i64.wrap ((-2 : Int) * cl_ v)) - (1 : Int)) = ((zz (cl_ v) : Nat) : Int) := by
        rw [w64i (n := -2 * cl_ v) (by omega) (by omega), w64i (by omega) (by omega)]
        unfold zz
        rw [if_pos hneg]
        omega
      rw [hz]
      simp only [hneg, decide_true, if_true, Option.bind_some, joinK, sget, getS, getI, List.tail_cons, k1]
      rw [wu8 (by omega) (by omega), g1]
      simp [getS]
    · have hz : IntKind.i64.wrap ((2 : Int) * cl_ v) = ((zz (cl_ v) : Nat) : Int) := by
        rw [w64i (by omega) (by omega)]
        unfold zz
        rw [if_neg hneg]
        omega
      rw [hz]
      simp only [hneg, decide_false, Bool.false_eq_true, if_false, if_true, Option.bind_some, joinK, sget, getS, getI, List.tail_cons, k1]
      rw [wu8 (by omega) (by omega), g1]
      simp [getS]
  · rcases k6 i h with h | h
    · exact h
    · omega

end Go.Proofs.Ytnmjhhipbfngkaa.Am
