/- The program's GetNum and the reference's GetNum read the same number, the same next place and the same flag out of any bytes at any place, for all bytes (of at most 2^20; beyond that the law answers true by itself) and all places.
Conditions: none. -/
import Derived.Test.YtgigdaijailfkaaPFnExactGetNumx2
import Derived.Test.YtgigdaijailfkaaWSized
namespace Go.Proofs.Ytgigdaijailfkaa.Pure
set_option linter.unusedSimpArgs false
open Go.RowKit Go.Proofs.Ytgigdaijailfkaa.PFnExactGetNum Go.Proofs.YtgigdaijailfkaaW.PrintWords Go.Proofs.YtgigdaijailfkaaW.PrintLast Go.Proofs.YtgigdaijailfkaaW.PrintMore

def Byt (l : List Int) : Prop := ∀ x ∈ l, 0 ≤ x ∧ x ≤ 255

theorem rd_byt {l : List Int} (h : Byt l) (i : Int) : 0 ≤ rd l i ∧ rd l i ≤ 255 := by
  unfold rd
  by_cases hi : i.toNat < l.length
  · have : l.getD i.toNat 0 = l[i.toNat] := by simp [hi]
    rw [this]; exact h _ (List.getElem_mem hi)
  · have : l.getD i.toNat 0 = 0 := by simp [List.getElem?_eq_none (Nat.le_of_not_lt hi)]
    rw [this]; omega

theorem w64 {n : Int} (h0 : -9223372036854775808 ≤ n) (h1 : n ≤ 9223372036854775807) : wrap64 n = n := by
  unfold wrap64; omega

theorem bits_i64 (n : Int) (h₀ : 0 ≤ n) (h₁ : n < 2 ^ 60) : IntKind.i64.wrap n = n := by
  rw [IntKind.wrap_i64]; omega

theorem and127 {x : Int} (h0 : 0 ≤ x) (h1 : x < 2 ^ 60) : Go.bits .and .i64 x 127 = x % 128 :=
  bits_mask .i64 60 (by decide) bits_i64 7 (by decide) x h0 h1
theorem and1 {x : Int} (h0 : 0 ≤ x) (h1 : x < 2 ^ 60) : Go.bits .and .i64 x 1 = x % 2 :=
  bits_mask .i64 60 (by decide) bits_i64 1 (by decide) x h0 h1

theorem shl_at (y : Int) (s : Nat) (hs : s ≤ 64) (h0 : 0 ≤ y) (h1 : y * 2 ^ s < 2 ^ 60) : shl .i64 y (s : Int) = y * 2 ^ s := by
  unfold shl
  have : min (s : Int).toNat IntKind.i64.bits = s := by simp [IntKind.bits]; omega
  rw [this]
  exact bits_i64 _ (Int.mul_nonneg h0 (Int.pow_nonneg (by decide))) h1

/-- The number that the bytes so far stand for, with one byte more. -/
def nextM (l : List Int) (a x m : Int) : Int := m + rd l (a + x) % 128 * 128 ^ x.toNat

theorem mono_s (l : List Int) (a m x : Int) : ∀ k, LeO (spec_GetNum.l0 k l a m x) (spec_GetNum.l0 (k + 1) l a m x) := fun k => (spec_GetNum.mono_l k).1 _ _ _ _
theorem mono_i (l : List Int) (a m x : Int) : ∀ k, LeO (impl_GetNum.l0 k l a m x) (impl_GetNum.l0 (k + 1) l a m x) := fun k => (impl_GetNum.mono_l k).1 _ _ _ _

theorem spec_out (k : Nat) (l : List Int) (a m x : Int) (h : ¬ (x < 4 ∧ a ≥ 0 ∧ a < (l.length : Int) ∧ a + x < (l.length : Int))) (hx : 0 ≤ x) (hl : l.length ≤ 1048576) (hx4 : x ≤ 4) :
    spec_GetNum.l0 (k + 2) l a m x = some (0, 0, false) := by
  simp only [spec_GetNum.l0]
  by_cases h1 : x < 4
  · rw [if_pos h1]
    by_cases h2 : a ≥ 0
    · rw [if_pos h2]
      by_cases h3 : a < (l.length : Int)
      · rw [if_pos h3, w64 (by omega) (by omega)]
        have h4 : ¬ (a + x < (l.length : Int)) := fun h4 => h ⟨h1, h2, h3, h4⟩
        rw [decide_eq_false h4]; simp [spec_GetNum.j1]
      · rw [if_neg h3]; simp [spec_GetNum.j1]
    · rw [if_neg h2]; simp [spec_GetNum.j1]
  · rw [if_neg h1]; simp [spec_GetNum.j1]

theorem impl_out (k : Nat) (l : List Int) (a m x : Int) (h : ¬ (x < 4 ∧ a ≥ 0 ∧ a < (l.length : Int) ∧ a + x < (l.length : Int))) (hx : 0 ≤ x) (hl : l.length ≤ 1048576) (hx4 : x ≤ 4) :
    impl_GetNum.l0 (k + 2) l a m x = some (0, 0, false) := by
  simp only [impl_GetNum.l0]
  by_cases h1 : x < 4
  · rw [if_pos h1]
    by_cases h2 : a ≥ 0
    · rw [if_pos h2, w64 (by omega) (by omega)]
      have h4 : ¬ (a < (l.length : Int) - x) := fun h4 => h ⟨h1, h2, by omega, by omega⟩
      rw [decide_eq_false h4]; simp [impl_GetNum.j1]
    · rw [if_neg h2]; simp [impl_GetNum.j1]
  · rw [if_neg h1]; simp [impl_GetNum.j1]

/-- What either ends with, once the last byte of a number has been read. -/
def fin (a x c m : Int) : Int × Int × Bool :=
  if c = 0 ∧ x > 0 then (0, 0, false)
  else
    let n := if m % 2 = 1 then -(m / 2) - 1 else m / 2
    if -1000000 ≤ n ∧ n ≤ 1000000 then (n, a + x + 1, true) else (0, 0, false)

theorem pow_le (x : Nat) (h : x < 4) : (128 : Int) ^ x * 128 ≤ 268435456 := by
  rcases x with _ | _ | _ | _ | x
  · decide
  · decide
  · decide
  · decide
  · omega

theorem next_bounds {l : List Int} {a m x : Int} (hb : Byt l) (h1 : x < 4) (hx : 0 ≤ x) (hm0 : 0 ≤ m) (hm : m < 128 ^ x.toNat) : 0 ≤ nextM l a x m ∧ nextM l a x m < 128 ^ (x + 1).toNat ∧ (128 : Int) ^ (x + 1).toNat ≤ 268435456 := by
  have hc := rd_byt hb (a + x)
  have e : (x + 1).toNat = x.toNat + 1 := by omega
  have hp := pow_le x.toNat (by omega)
  rw [e, Int.pow_succ]
  unfold nextM
  generalize hq : (128 : Int) ^ x.toNat = q at *
  generalize rd l (a + x) = c at *
  have h7 : c % 128 ≤ 127 := by omega
  have h8 : 0 ≤ c % 128 := by omega
  have h9 : c % 128 * q ≤ 127 * q := Int.mul_le_mul_of_nonneg_right h7 (by omega)
  have h10 : 0 ≤ c % 128 * q := Int.mul_nonneg h8 (by omega)
  refine ⟨by omega, by omega, by omega⟩

section
variable {l : List Int} {a m x : Int} (hl : l.length ≤ 1048576) (hb : Byt l) (h1 : x < 4) (h2 : a ≥ 0) (h4 : a + x < (l.length : Int)) (hx : 0 ≤ x) (hm0 : 0 ≤ m) (hm : m < 128 ^ x.toNat)
include hl hb h1 h2 h4 hx hm0 hm
theorem spec_m : Go.bits .or .i64 m (shl .i64 (Go.bits .and .i64 (wrap64 (rd l (wrap64 (a + x)))) 127) (IntKind.u64.wrap (wrap64 (7 * x)))) = nextM l a x m := by
  have hc := rd_byt hb (a + x)
  have hp := pow_le x.toNat (by omega)
  have hnb := next_bounds (a := a) hb h1 hx hm0 hm
  rw [w64 (n := a + x) (by omega) (by omega), w64 (n := rd l (a + x)) (by omega) (by omega), w64 (n := 7 * x) (by omega) (by omega)]
  rw [and127 hc.1 (by omega)]
  have hu : IntKind.u64.wrap (7 * x) = ((7 * x.toNat : Nat) : Int) := by
    simp [IntKind.wrap, IntKind.bits, IntKind.signed]; omega
  have h2p : (2 : Int) ^ (7 * x.toNat) = 128 ^ x.toNat := by rw [Int.pow_mul]; rfl
  have hs : rd l (a + x) % 128 * 2 ^ (7 * x.toNat) < 2 ^ 60 := by
    rw [h2p]
    unfold nextM at hnb
    omega
  rw [hu, shl_at _ _ (by omega) (by omega) hs, h2p]
  have hor := bits_join .i64 60 (by decide) bits_i64 (7 * x.toNat) (rd l (a + x) % 128 * 128 ^ x.toNat) m
    (Int.mul_nonneg (by omega) (Int.pow_nonneg (by decide))) (by rw [h2p]; exact Int.mul_emod_left _ _) (by rw [← h2p]; exact hs) hm0 (by rw [h2p]; exact hm) (by omega)
  have hcomm : Go.bits .or .i64 m (rd l (a + x) % 128 * 128 ^ x.toNat) = Go.bits .or .i64 (rd l (a + x) % 128 * 128 ^ x.toNat) m := by
    simp only [Go.bits]; rw [BitVec.or_comm]
  rw [hcomm, hor]; unfold nextM; omega

theorem impl_m : wrap64 (m + (shl .i64 (Int.tmod (wrap64 (rd l (wrap64 (a + x)))) 128) (wrap64 (7 * x)))) = nextM l a x m := by
  have hc := rd_byt hb (a + x)
  have hp := pow_le x.toNat (by omega)
  have hnb := next_bounds (a := a) hb h1 hx hm0 hm
  rw [w64 (n := a + x) (by omega) (by omega), w64 (n := rd l (a + x)) (by omega) (by omega), w64 (n := 7 * x) (by omega) (by omega)]
  rw [Int.tmod_eq_emod_of_nonneg hc.1]
  have hu : 7 * x = ((7 * x.toNat : Nat) : Int) := by omega
  have h2p : (2 : Int) ^ (7 * x.toNat) = 128 ^ x.toNat := by rw [Int.pow_mul]; rfl
  have hs : rd l (a + x) % 128 * 2 ^ (7 * x.toNat) < 2 ^ 60 := by
    rw [h2p]
    unfold nextM at hnb
    omega
  rw [hu, shl_at _ _ (by omega) (by omega) hs, h2p]
  unfold nextM at hnb ⊢
  exact w64 (by omega) (by omega)

theorem spec_in (k : Nat) : spec_GetNum.l0 (k + 2) l a m x = if rd l (a + x) > 127 then spec_GetNum.l0 k l a (nextM l a x m) (x + 1) else some (fin a x (rd l (a + x)) (nextM l a x m)) := by
  have hc := rd_byt hb (a + x)
  have hnb := next_bounds (a := a) hb h1 hx hm0 hm
  have hM := spec_m hl hb h1 h2 h4 hx hm0 hm
  have hwx := w64 (n := a + x) (by omega) (by omega)
  have hwc := w64 (n := rd l (a + x)) (by omega) (by omega)
  simp only [spec_GetNum.l0]
  rw [if_pos h1, if_pos h2, if_pos (by omega)]
  simp only [spec_GetNum.j1]
  rw [hM]
  simp only [hwx, hwc]
  rw [decide_eq_true h4, if_pos rfl, if_pos (by omega), if_pos h4]
  have hu : 0 ≤ IntKind.u64.wrap (wrap64 (7 * x)) := by
    rw [w64 (by omega) (by omega)]
    simp [IntKind.wrap, IntKind.bits, IntKind.signed]; omega
  rw [if_pos hu]
  by_cases hgt : rd l (a + x) > 127
  · rw [if_pos hgt, if_pos hgt, w64 (n := x + 1) (by omega) (by omega)]
  · rw [if_neg hgt, if_neg hgt]
    generalize nextM l a x m = M at *
    generalize rd l (a + x) = c at *
    rw [and1 (by omega) (by omega)]
    have e1 : wrap64 (wrap64 (-(M / 2)) - 1) = -(M / 2) - 1 := by rw [w64 (n := -(M / 2)) (by omega) (by omega), w64 (by omega) (by omega)]
    have e2 : wrap64 (a + x + 1) = a + x + 1 := w64 (by omega) (by omega)
    rw [e1, e2]
    unfold fin spec_l1In.f
    by_cases c1 : M % 2 = 1 <;> by_cases c2 : x > 0 <;> by_cases c3 : c = 0 <;> simp only [c1, c2, c3, if_true, if_false, true_and, false_and, and_true, and_false, Option.bind_some]
    all_goals first
      | rfl
      | (simp only [ge_iff_le]
         split
         · rename_i q
           by_cases q2 : (if M % 2 = 1 then -(M / 2) - 1 else M / 2) ≤ 1000000
           · simp only [c1, if_true, if_false] at q2
             simp [q, q2]
           · simp only [c1, if_true, if_false] at q2
             simp [q, q2]
         · rename_i q
           simp [q])

theorem impl_in (k : Nat) : impl_GetNum.l0 (k + 2) l a m x = if rd l (a + x) > 127 then impl_GetNum.l0 k l a (nextM l a x m) (x + 1) else some (fin a x (rd l (a + x)) (nextM l a x m)) := by
  have hc := rd_byt hb (a + x)
  have hnb := next_bounds (a := a) hb h1 hx hm0 hm
  have hM := impl_m hl hb h1 h2 h4 hx hm0 hm
  have hwx := w64 (n := a + x) (by omega) (by omega)
  have hwc := w64 (n := rd l (a + x)) (by omega) (by omega)
  simp only [impl_GetNum.l0]
  rw [if_pos h1, if_pos h2]
  simp only [impl_GetNum.j1]
  rw [hM]
  simp only [hwx, hwc]
  rw [w64 (n := (l.length : Int) - x) (by omega) (by omega)]
  rw [decide_eq_true (by omega : a < (l.length : Int) - x), if_pos rfl, if_pos (by omega), if_pos h4]
  rw [if_pos (by rw [w64 (by omega) (by omega)]; omega)]
  by_cases hgt : rd l (a + x) > 127
  · rw [if_pos (by omega), if_pos hgt, w64 (n := x + 1) (by omega) (by omega)]
  · rw [if_neg (by omega), if_neg hgt]
    generalize nextM l a x m = M at *
    generalize rd l (a + x) = c at *
    rw [Int.tmod_eq_emod_of_nonneg hnb.1]
    have e2 : wrap64 (a + x + 1) = a + x + 1 := w64 (by omega) (by omega)
    have e3 : Int.tdiv M 2 = M / 2 := Int.tdiv_eq_ediv_of_nonneg hnb.1
    have e4 : wrap64 (M / 2) = M / 2 := w64 (by omega) (by omega)
    have e5 : M % 2 = 1 → wrap64 (Int.tdiv (wrap64 (-(wrap64 (M + 1)))) 2) = -(M / 2) - 1 := by
      intro ho
      rw [w64 (n := M + 1) (by omega) (by omega), w64 (n := -(M + 1)) (by omega) (by omega), Int.neg_tdiv, Int.tdiv_eq_ediv_of_nonneg (by omega), w64 (by omega) (by omega)]
      omega
    rw [e2, e3, e4]
    unfold fin impl_in.f
    by_cases c1 : M % 2 = 1
    · rw [e5 c1]
      by_cases c2 : x > 0 <;> by_cases c3 : c = 0 <;> simp only [c1, c2, c3, if_true, if_false, true_and, false_and, and_true, and_false, Option.bind_some]
      all_goals first
      | rfl
      | (simp only [ge_iff_le]
         split
         · rename_i q
           by_cases q2 : -(M / 2) - 1 ≤ 1000000
           · simp [q, q2]
           · simp [q, q2]
         · rename_i q
           simp [q])
    · by_cases c2 : x > 0 <;> by_cases c3 : c = 0 <;> simp only [c1, c2, c3, if_true, if_false, true_and, false_and, and_true, and_false, Option.bind_some]
      all_goals first
      | rfl
      | (simp only [ge_iff_le]
         split
         · rename_i q
           by_cases q2 : M / 2 ≤ 1000000
           · simp [q, q2]
           · simp [q, q2]
         · rename_i q
           simp [q])
end

theorem both {l : List Int} {a : Int} (hl : l.length ≤ 1048576) (hb : Byt l) : ∀ (d : Nat) (x m : Int), x + d = 4 → 0 ≤ x → 0 ≤ m → m < 128 ^ x.toNat →
    ∃ r, spec_GetNum.l0 (2 * d + 2) l a m x = some r ∧ impl_GetNum.l0 (2 * d + 2) l a m x = some r := by
  intro d
  induction d with
  | zero =>
    intro x m hd hx hm0 hm
    exact ⟨_, spec_out 0 l a m x (by omega) hx hl (by omega), impl_out 0 l a m x (by omega) hx hl (by omega)⟩
  | succ d ih =>
    intro x m hd hx hm0 hm
    by_cases h : x < 4 ∧ a ≥ 0 ∧ a < (l.length : Int) ∧ a + x < (l.length : Int)
    · obtain ⟨h1, h2, _, h4⟩ := h
      have hnb := next_bounds (a := a) hb h1 hx hm0 hm
      rw [show 2 * (d + 1) + 2 = (2 * d + 2) + 2 from by omega, spec_in hl hb h1 h2 h4 hx hm0 hm, impl_in hl hb h1 h2 h4 hx hm0 hm]
      by_cases hgt : rd l (a + x) > 127
      · rw [if_pos hgt, if_pos hgt]
        exact ih (x + 1) _ (by omega) (by omega) hnb.1 hnb.2.1
      · rw [if_neg hgt, if_neg hgt]
        exact ⟨_, rfl, rfl⟩
    · rw [show 2 * (d + 1) + 2 = (2 * d + 2) + 2 from by omega]
      exact ⟨_, spec_out _ l a m x h hx hl (by omega), impl_out _ l a m x h hx hl (by omega)⟩

theorem to_l (l : List Int) (hl : l.length ≤ 1048576) : ∀ (d : Nat) (i : Nat) (k : Nat) (o : List Int), i + d = l.length → o.length = l.length → (∀ j, j < i → o[j]? = l[j]?) → d < k → laws_toByteS.l0 k l o (i : Int) = some l := by
  intro d
  induction d with
  | zero =>
    intro i k o hd ho hi hk
    obtain ⟨k, rfl⟩ : ∃ m, k = m + 1 := ⟨k - 1, by omega⟩
    simp only [laws_toByteS.l0]
    rw [if_neg (by omega)]
    congr 1
    apply List.ext_getElem? 
    intro j
    by_cases hj : j < i
    · exact hi j hj
    · rw [List.getElem?_eq_none (by omega), List.getElem?_eq_none (by omega)]
  | succ d ih =>
    intro i k o hd ho hi hk
    obtain ⟨k, rfl⟩ : ∃ m, k = m + 1 := ⟨k - 1, by omega⟩
    simp only [laws_toByteS.l0]
    rw [if_pos (by omega), if_pos (by omega), if_pos (by omega), w64 (by omega) (by omega)]
    have := ih (i + 1) k (o.set (i : Int).toNat (rd l i)) (by omega) (by simp [ho]) (fun j hj => by
      by_cases hji : j = i
      · subst hji
        have hlt : j < l.length := by omega
        simp [rd, ho, hlt]
      · have : (i : Int).toNat = i := by omega
        rw [this, List.getElem?_set_ne (by omega)]
        exact hi j (by omega)) (by omega)
    simpa using this

theorem to_f (l : List Int) (hl : l.length ≤ 1048576) (k : Nat) (hk : l.length < k) : laws_toByteS.f k l = some l := by
  unfold laws_toByteS.f
  rw [if_pos (by omega), if_pos (by omega)]
  exact to_l l hl l.length 0 k _ (by omega) (by simp) (fun j hj => by omega) hk

theorem eq_l (l : List Int) (hl : l.length ≤ 1048576) : ∀ (d : Nat) (i : Nat) (k : Nat), i + d = l.length → d < k → laws_eqByteS.l0 k l l (i : Int) = some true := by
  intro d
  induction d with
  | zero =>
    intro i k hd hk
    obtain ⟨k, rfl⟩ : ∃ m, k = m + 1 := ⟨k - 1, by omega⟩
    simp only [laws_eqByteS.l0]
    rw [if_neg (by omega)]
  | succ d ih =>
    intro i k hd hk
    obtain ⟨k, rfl⟩ : ∃ m, k = m + 1 := ⟨k - 1, by omega⟩
    simp only [laws_eqByteS.l0]
    rw [if_pos (by omega), if_pos (by omega), if_pos (by omega), if_true, w64 (by omega) (by omega)]
    have := ih (i + 1) k (by omega) (by omega)
    simpa using this

theorem eq_f (l : List Int) (hl : l.length ≤ 1048576) (k : Nat) (hk : l.length < k) : laws_eqByteS.f k l l = some true := by
  unfold laws_eqByteS.f
  rw [if_pos rfl]
  exact eq_l l hl l.length 0 k (by omega) hk

theorem FnExactGetNum : laws_FnExactGetNum.Pure := by
  intro l a hm y hw ha
  by_cases hbig : (l.length : Int) > 1048576
  · exact ⟨0, by unfold laws_FnExactGetNum.f; rw [if_pos hbig]⟩
  · have hl : l.length ≤ 1048576 := by omega
    have hb : Byt l := fun x hx => by
      have := hw x hx
      simp [Lit.wf, IntKind.min, IntKind.max, IntKind.bits, IntKind.signed] at this
      omega
    obtain ⟨r, hs, hi⟩ := both (a := a) hl hb 4 0 0 (by omega) (by omega) (by omega) (by decide)
    let K := l.length + 20
    have hs' : spec_GetNum.f (K + 1) l a = some r := at_rounds (mono_s l a 0 0) (by omega : 2 * 4 + 2 ≤ K + 1) hs
    have hi' : impl_GetNum.f (K + 1) l a = some r := at_rounds (mono_i l a 0 0) (by omega : 2 * 4 + 2 ≤ K + 1) hi
    refine ⟨K + 1, ?_⟩
    unfold laws_FnExactGetNum.f
    rw [if_neg hbig, to_f l hl _ (by omega)]
    simp only [Option.bind_some]
    rw [hs', hi']
    simp only [Option.bind_some, if_true]
    have hj : laws_FnExactGetNum.j0 (K + 1) l l false = some true := by
      simp only [laws_FnExactGetNum.j0]
      rw [to_f l hl K (by omega)]
      simp only [Option.bind_some]
      rw [eq_f l hl K (by omega)]
      simp
    have : (r.2.2 != r.2.2) = false := by simp
    rw [this]
    exact hj

end Go.Proofs.Ytgigdaijailfkaa.Pure

namespace Go.Proofs.Ytgigdaijailfkaa.PrintWords
open Go.ChangeShapes Go.WideShapes
/-- The words' law on sizes, under the name by which the row asks for it. -/
theorem sized_ints {H : Type} {enc : TypeId × Value → H} {P : Program} {W : World} {base : Nat} {spare : Nat → Bool} {held : Bool} {t e : TypeId} {k : IntKind} {a : Option Addr} {len cap : Nat} {d : DataW H} {ps : List MemPlace} {ts : List TypeId} {ds : List (DataW H)} {j : Nat}
    (hsz : (DataW.weightsEach P ts ds).all (· ≤ reachBytes) = true) (ht : ts[j]? = some t) (hd : ds[j]? = some d) (hu : P.underlying t = some (.slice e)) (he : P.underlying e = some (.int k)) (hc : P.cellsOf e = 1) {B : Nat} (hB : P.bytesOf e = B)
    (h : DataW.Trod enc P W base spare held t (.slice a len cap) d ps) : len * B ≤ 140737488351232 :=
  Go.Proofs.YtgigdaijailfkaaW.PrintWords.sized_ints hsz ht hd hu he hc hB h
end Go.Proofs.Ytgigdaijailfkaa.PrintWords
