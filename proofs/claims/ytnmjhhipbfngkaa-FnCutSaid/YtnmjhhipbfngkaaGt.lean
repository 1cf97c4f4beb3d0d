/- Numbers and their bytes: what is written is read again, cut it is not; what is read was written so.
Conditions: none. -/
import Derived.Test.YtnmjhhipbfngkaaGn
set_option linter.unusedSimpArgs false
set_option linter.unusedVariables false
namespace Go.Proofs.Ytnmjhhipbfngkaa.Am
open Go Go.RowKit

theorem gn_app (xs bs : List Int) : ∀ (f k : Nat) (u : Int), gnL (xs ++ bs) ((xs.length : Nat) : Int) f k u = (gnL bs 0 f k u).map fun p => (p.1, ((xs.length : Nat) : Int) + p.2)
  | 0, _, _ => rfl
  | f + 1, k, u => by
    have e : (xs ++ bs).getD (((xs.length : Nat) : Int) + (k : Int)).toNat 0 = bs.getD ((0 : Int) + (k : Int)).toNat 0 := by
      rw [show (((xs.length : Nat) : Int) + (k : Int)).toNat = xs.length + k from by omega, show ((0 : Int) + (k : Int)).toNat = k from by omega]
      simp [List.getD, List.getElem?_append_right]
    rw [gnL, gnL, e, gn_app xs bs f (k + 1)]
    by_cases c : (0 : Int) ≤ 0 ∧ (0 : Int) + (k : Int) < ((bs.length : Nat) : Int)
    · rw [if_pos c, if_pos (by simp; omega)]
      split
      · rfl
      · split
        · rfl
        · simp only [Option.map_some]
          congr 2
          omega
    · rw [if_neg c, if_neg (by simp; omega)]
      rfl
theorem gn_end (zs : List Int) {a : Int} (h0 : 0 ≤ a) (h1 : a ≤ ((zs.length : Nat) : Int)) (f k : Nat) (u : Int) : gnL zs a f k u = (gnL (zs.drop a.toNat) 0 f k u).map fun p => (p.1, a + p.2) := by
  have := gn_app (zs.take a.toNat) (zs.drop a.toNat) f k u
  rw [List.take_append_drop] at this
  have e : (((zs.take a.toNat).length : Nat) : Int) = a := by simp; omega
  rw [e] at this
  exact this
theorem gn_none (zs : List Int) {a : Int} (h : a < 0 ∨ ((zs.length : Nat) : Int) ≤ a) : gnL zs a 4 0 0 = none := by
  rw [gnL, if_neg (by omega)]

theorem unzz_zz (w : Int) : unzz ((zz w : Nat) : Int) = w := by
  unfold unzz zz
  by_cases h : w < 0
  · rw [if_pos h, if_pos (by omega)]; omega
  · rw [if_neg h, if_neg (by omega)]; omega
theorem zz_unzz {u : Int} (h : 0 ≤ u) : ((zz (unzz u) : Nat) : Int) = u := by
  unfold unzz zz
  by_cases c : u % 2 = 1
  · rw [if_pos c, if_pos (by omega)]; omega
  · rw [if_neg c, if_neg (by omega)]; omega
theorem cl_in (v : Int) : -1000000 ≤ cl_ v ∧ cl_ v ≤ 1000000 := by unfold cl_; split <;> (try split) <;> omega
theorem cl_self {n : Int} (h : inB n (-1000000) 1000000 = true) : cl_ n = n := by
  simp only [inB, Bool.and_eq_true, decide_eq_true_eq] at h
  unfold cl_
  rw [if_neg (by omega), if_neg (by omega)]
theorem inB_cl (v : Int) : inB (cl_ v) (-1000000) 1000000 = true := by
  have := cl_in v
  simp only [inB, Bool.and_eq_true, decide_eq_true_eq]
  omega
theorem zz_small (v : Int) : zz (cl_ v) ≤ 2000000 := by
  have := cl_in v
  unfold zz
  split <;> omega
/-- The three shapes. -/
theorem encN_cases (v : Int) : ∃ z : Nat, z = zz (cl_ v) ∧ z ≤ 2000000 ∧ ((z ≤ 127 ∧ encN v = [(z : Int)]) ∨ (128 ≤ z ∧ z / 128 ≤ 127 ∧ encN v = [((z % 128 + 128 : Nat) : Int), ((z / 128 : Nat) : Int)]) ∨
    (128 ≤ z ∧ 128 ≤ z / 128 ∧ z / 128 / 128 ≤ 127 ∧ encN v = [((z % 128 + 128 : Nat) : Int), ((z / 128 % 128 + 128 : Nat) : Int), ((z / 128 / 128 : Nat) : Int)])) := by
  refine ⟨zz (cl_ v), rfl, zz_small v, ?_⟩
  have hz := zz_small v
  unfold encN
  generalize zz (cl_ v) = z at hz
  by_cases c1 : z ≤ 127
  · exact .inl ⟨c1, by simp [vi, c1]⟩
  · by_cases c2 : z / 128 ≤ 127
    · exact .inr (.inl ⟨by omega, c2, by simp [vi, c1, c2]⟩)
    · exact .inr (.inr ⟨by omega, by omega, by omega, by
        have c3 : z / 128 / 128 ≤ 127 := by omega
        simp only [vi, c1, c2, c3, if_true, if_false]⟩)
theorem encN_bytes (v : Int) : ∀ x ∈ encN v, 0 ≤ x ∧ x ≤ 255 := by
  obtain ⟨z, _, hz, ⟨_, e⟩ | ⟨_, _, e⟩ | ⟨_, _, _, e⟩⟩ := encN_cases v <;> rw [e] <;> simp <;> omega
theorem encN_pos (v : Int) : 0 < (encN v).length := by
  obtain ⟨z, _, hz, ⟨_, e⟩ | ⟨_, _, e⟩ | ⟨_, _, _, e⟩⟩ := encN_cases v <;> rw [e] <;> simp
theorem encN_len (v : Int) : (encN v).length ≤ 4 := by
  obtain ⟨z, _, hz, ⟨_, e⟩ | ⟨_, _, e⟩ | ⟨_, _, _, e⟩⟩ := encN_cases v <;> rw [e] <;> simp

theorem p0 : (128 : Int) ^ 0 = 1 := by decide
theorem p1 : (128 : Int) ^ 1 = 128 := by decide
theorem p2 : (128 : Int) ^ 2 = 16384 := by decide
theorem p3 : (128 : Int) ^ 3 = 2097152 := by decide

/-- Written, read. -/
theorem gn_enc (v : Int) : gnL (encN v) 0 4 0 0 = some (cl_ v, (((encN v).length : Nat) : Int)) := by
  obtain ⟨z, hz0, hz, h⟩ := encN_cases v
  have hu : unzz ((z : Nat) : Int) = cl_ v := by rw [hz0]; exact unzz_zz _
  have hin := inB_cl v
  rcases h with ⟨c1, e⟩ | ⟨c1, c2, e⟩ | ⟨c1, c2, c3, e⟩ <;> rw [e]
  · rw [gnL]
    simp only [List.length_cons, List.length_nil, Int.zero_add, Nat.zero_add, show ((0 : Nat) : Int).toNat = 0 from rfl, List.getD_cons_zero]
    rw [if_pos (by omega), if_neg (by omega), p0]
    have e1 : (z : Int) % 128 * 1 = (z : Int) := by omega
    rw [e1, hu, if_neg (by rw [hin]; simp)]
    simp
  · rw [gnL]
    simp only [List.length_cons, List.length_nil, Int.zero_add, Nat.zero_add, show ((0 : Nat) : Int).toNat = 0 from rfl, List.getD_cons_zero]
    rw [if_pos (by omega), if_pos (by omega), p0, gnL]
    simp only [List.length_cons, List.length_nil, Int.zero_add, Nat.zero_add, show ((1 : Nat) : Int).toNat = 1 from rfl, List.getD_cons_succ, List.getD_cons_zero]
    rw [if_pos (by omega), if_neg (by omega), p1]
    have e1 : ((z % 128 + 128 : Nat) : Int) % 128 * 1 + ((z / 128 : Nat) : Int) % 128 * 128 = (z : Int) := by omega
    rw [e1, hu, if_neg (by rw [hin]; simp; omega)]
    simp
  · rw [gnL]
    simp only [List.length_cons, List.length_nil, Int.zero_add, Nat.zero_add, show ((0 : Nat) : Int).toNat = 0 from rfl, List.getD_cons_zero]
    rw [if_pos (by omega), if_pos (by omega), p0, gnL]
    simp only [List.length_cons, List.length_nil, Int.zero_add, Nat.zero_add, show ((1 : Nat) : Int).toNat = 1 from rfl, List.getD_cons_succ, List.getD_cons_zero]
    rw [if_pos (by omega), if_pos (by omega), p1, gnL]
    simp only [List.length_cons, List.length_nil, Int.zero_add, Nat.zero_add, show ((2 : Nat) : Int).toNat = 2 from rfl, show ((1 + 1 : Nat) : Int).toNat = 2 from rfl, List.getD_cons_succ, List.getD_cons_zero]
    rw [if_pos (by omega), if_neg (by omega)]
    have e0 : (128 : Int) ^ (1 + 1) = 16384 := by decide
    rw [e0]
    have e1 : ((z % 128 + 128 : Nat) : Int) % 128 * 1 + ((z / 128 % 128 + 128 : Nat) : Int) % 128 * 128 + ((z / 128 / 128 : Nat) : Int) % 128 * 16384 = (z : Int) := by omega
    rw [e1, hu, if_neg (by rw [hin]; simp; omega)]
    simp
/-- Cut, it is not. -/
theorem gn_cut (v : Int) : gnL (encN v).dropLast 0 4 0 0 = none := by
  obtain ⟨z, hz0, hz, h⟩ := encN_cases v
  rcases h with ⟨c1, e⟩ | ⟨c1, c2, e⟩ | ⟨c1, c2, c3, e⟩ <;> rw [e]
  · rfl
  · simp only [List.dropLast]
    rw [gnL]
    simp only [List.length_cons, List.length_nil, Int.zero_add, Nat.zero_add, show ((0 : Nat) : Int).toNat = 0 from rfl, List.getD_cons_zero]
    rw [if_pos (by omega), if_pos (by omega), gnL, if_neg (by simp)]
  · simp only [List.dropLast]
    rw [gnL]
    simp only [List.length_cons, List.length_nil, Int.zero_add, Nat.zero_add, show ((0 : Nat) : Int).toNat = 0 from rfl, List.getD_cons_zero]
    rw [if_pos (by omega), if_pos (by omega), gnL]
    simp only [List.length_cons, List.length_nil, Int.zero_add, Nat.zero_add, show ((1 : Nat) : Int).toNat = 1 from rfl, List.getD_cons_succ, List.getD_cons_zero]
    rw [if_pos (by omega), if_pos (by omega), gnL, if_neg (by simp)]
theorem encN_of {u : Int} (h0 : 0 ≤ u) (hin : inB (unzz u) (-1000000) 1000000 = true) : encN (unzz u) = vi 3 u.toNat ∧ u ≤ 2000000 := by
  have hz := zz_unzz h0
  have hs := zz_small (unzz u)
  unfold encN
  rw [cl_self hin] at hs ⊢
  exact ⟨by congr 1; omega, by omega⟩
/-- Read, so written. -/
theorem gn_dec {bs : List Int} (hb : ∀ x ∈ bs, 0 ≤ x ∧ x ≤ 255) {n e : Int} (h : gnL bs 0 4 0 0 = some (n, e)) : 0 ≤ e ∧ e ≤ ((bs.length : Nat) : Int) ∧ encN n = bs.take e.toNat := by
  rcases bs with _ | ⟨x0, r0⟩
  · simp [gnL] at h
  have b0 := hb x0 (by simp)
  rw [gnL] at h
  simp only [List.length_cons, Int.zero_add, Nat.zero_add, show ((0 : Nat) : Int).toNat = 0 from rfl, List.getD_cons_zero] at h
  rw [if_pos (by omega), p0] at h
  by_cases c0 : x0 ≥ 128
  · rw [if_pos c0] at h
    rcases r0 with _ | ⟨x1, r1⟩
    · simp [gnL] at h
    have b1 := hb x1 (by simp)
    rw [gnL] at h
    simp only [List.length_cons, Int.zero_add, Nat.zero_add, show ((1 : Nat) : Int).toNat = 1 from rfl, List.getD_cons_succ, List.getD_cons_zero] at h
    rw [if_pos (by omega), p1] at h
    by_cases c1 : x1 ≥ 128
    · rw [if_pos c1] at h
      rcases r1 with _ | ⟨x2, r2⟩
      · simp [gnL] at h
      have b2 := hb x2 (by simp)
      rw [gnL] at h
      simp only [List.length_cons, Int.zero_add, Nat.zero_add, show ((1 + 1 : Nat) : Int).toNat = 2 from rfl, List.getD_cons_succ, List.getD_cons_zero] at h
      have e0 : (128 : Int) ^ (1 + 1) = 16384 := by decide
      rw [if_pos (by omega), e0] at h
      by_cases c2 : x2 ≥ 128
      · rw [if_pos c2] at h
        rcases r2 with _ | ⟨x3, r3⟩
        · simp [gnL] at h
        have b3 := hb x3 (by simp)
        rw [gnL] at h
        simp only [List.length_cons, Int.zero_add, Nat.zero_add, show ((1 + 1 + 1 : Nat) : Int).toNat = 3 from rfl, List.getD_cons_succ, List.getD_cons_zero] at h
        have e1 : (128 : Int) ^ (1 + 1 + 1) = 2097152 := by decide
        rw [if_pos (by omega), e1] at h
        by_cases c3 : x3 ≥ 128
        · rw [if_pos c3] at h
          simp [gnL] at h
        · rw [if_neg c3] at h
          split at h
          · cases h
          · rename_i hc
            have hin : inB (unzz (x0 % 128 * 1 + x1 % 128 * 128 + x2 % 128 * 16384 + x3 % 128 * 2097152)) (-1000000) 1000000 = true := by
              cases hq : inB (unzz (x0 % 128 * 1 + x1 % 128 * 128 + x2 % 128 * 16384 + x3 % 128 * 2097152)) (-1000000) 1000000 with
              | true => rfl
              | false => exact absurd (.inr hq) hc
            have := (encN_of (by omega) hin).2
            have hx3 : ¬ x3 = 0 := fun hx => hc (.inl ⟨hx, by omega⟩)
            omega
      · rw [if_neg c2] at h
        split at h
        · cases h
        · rename_i hc
          have hin : inB (unzz (x0 % 128 * 1 + x1 % 128 * 128 + x2 % 128 * 16384)) (-1000000) 1000000 = true := by
            cases hq : inB (unzz (x0 % 128 * 1 + x1 % 128 * 128 + x2 % 128 * 16384)) (-1000000) 1000000 with
            | true => rfl
            | false => exact absurd (.inr hq) hc
          have hx2 : ¬ x2 = 0 := fun hx => hc (.inl ⟨hx, by omega⟩)
          injection h with h
          injection h with h1 h2
          have ee := encN_of (u := x0 % 128 * 1 + x1 % 128 * 128 + x2 % 128 * 16384) (by omega) hin
          rw [h1] at ee
          have he : e = 3 := by rw [← h2]; rfl
          subst he
          refine ⟨by omega, by simp; omega, ?_⟩
          rw [ee.1]
          have g1 : ¬ (x0 % 128 * 1 + x1 % 128 * 128 + x2 % 128 * 16384).toNat ≤ 127 := by omega
          have g2 : ¬ (x0 % 128 * 1 + x1 % 128 * 128 + x2 % 128 * 16384).toNat / 128 ≤ 127 := by omega
          have g3 : (x0 % 128 * 1 + x1 % 128 * 128 + x2 % 128 * 16384).toNat / 128 / 128 ≤ 127 := by omega
          simp only [vi, g1, g2, g3, if_true, if_false]
          show _ = [x0, x1, x2]
          congr 1
          · omega
          · congr 1
            · omega
            · congr 1
              omega
    · rw [if_neg c1] at h
      split at h
      · cases h
      · rename_i hc
        have hin : inB (unzz (x0 % 128 * 1 + x1 % 128 * 128)) (-1000000) 1000000 = true := by
          cases hq : inB (unzz (x0 % 128 * 1 + x1 % 128 * 128)) (-1000000) 1000000 with
          | true => rfl
          | false => exact absurd (.inr hq) hc
        have hx1 : ¬ x1 = 0 := fun hx => hc (.inl ⟨hx, by omega⟩)
        injection h with h
        injection h with h1 h2
        have ee := encN_of (u := x0 % 128 * 1 + x1 % 128 * 128) (by omega) hin
        rw [h1] at ee
        have he : e = 2 := by rw [← h2]; rfl
        subst he
        refine ⟨by omega, by simp; omega, ?_⟩
        rw [ee.1]
        have g1 : ¬ (x0 % 128 * 1 + x1 % 128 * 128).toNat ≤ 127 := by omega
        have g2 : (x0 % 128 * 1 + x1 % 128 * 128).toNat / 128 ≤ 127 := by omega
        simp only [vi, g1, g2, if_true, if_false]
        show _ = [x0, x1]
        congr 1
        · omega
        · congr 1
          omega
  · rw [if_neg c0] at h
    split at h
    · cases h
    · rename_i hc
      have hin : inB (unzz (x0 % 128 * 1)) (-1000000) 1000000 = true := by
        cases hq : inB (unzz (x0 % 128 * 1)) (-1000000) 1000000 with
        | true => rfl
        | false => exact absurd (.inr hq) hc
      injection h with h
      injection h with h1 h2
      have ee := encN_of (u := x0 % 128 * 1) (by omega) hin
      rw [h1] at ee
      have he : e = 1 := by rw [← h2]; rfl
      subst he
      refine ⟨by omega, by simp; omega, ?_⟩
      rw [ee.1]
      have g1 : (x0 % 128 * 1).toNat ≤ 127 := by omega
      simp only [vi, g1, if_true]
      show _ = [x0]
      congr 1
      omega
end Go.Proofs.Ytnmjhhipbfngkaa.Am
