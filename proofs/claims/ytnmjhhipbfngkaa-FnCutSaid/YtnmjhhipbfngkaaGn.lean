/- GetNum: what both read.
Conditions: none. -/
import Derived.Test.YtnmjhhipbfngkaaPN
import Derived.Test.YtnmjhhipbfngkaaOk
import Derived.Test.YtnmjhhipbfngkaaEq1
import Derived.Test.YtnmjhhipbfngkaaEq2
import Derived.Test.YtnmjhhipbfngkaaEq3
import Derived.Test.YtnmjhhipbfngkaaEq4
set_option linter.unusedSimpArgs false
set_option linter.unusedVariables false
namespace Go.Proofs.Ytnmjhhipbfngkaa.Am
open Go Go.RowKit

def unzz (u : Int) : Int := if u % 2 = 1 then -((u + 1) / 2) else u / 2
/-- A number read at a place; none: it is none. -/
def gnL (zs : List Int) (a : Int) : Nat → Nat → Int → Option (Int × Int)
  | 0, _, _ => none
  | f + 1, k, u => if 0 ≤ a ∧ a + (k : Int) < ((zs.length : Nat) : Int) then
      (if zs.getD (a + (k : Int)).toNat 0 ≥ 128 then gnL zs a f (k + 1) (u + zs.getD (a + (k : Int)).toNat 0 % 128 * 128 ^ k)
      else if (zs.getD (a + (k : Int)).toNat 0 = 0 ∧ 0 < k) ∨ inB (unzz (u + zs.getD (a + (k : Int)).toNat 0 % 128 * 128 ^ k)) (-1000000) 1000000 = false then none
      else some (unzz (u + zs.getD (a + (k : Int)).toNat 0 % 128 * 128 ^ k), a + (k : Int) + 1)) else none

theorem sh0 {k : Nat} (hk : k < 4) : ¬ (IntKind.wrap .i64 ((7 : Int) * (k : Int)) < 0) ∧ ¬ (IntKind.wrap .u64 (IntKind.wrap .i64 ((7 : Int) * (k : Int))) < 0) := by
  rcases (by omega : k = 0 ∨ k = 1 ∨ k = 2 ∨ k = 3) with rfl | rfl | rfl | rfl <;> exact ⟨by decide, by decide⟩
theorem pw {k : Nat} (hk : k < 4) : (2 : Int) ^ min ((IntKind.wrap .i64 ((7 : Int) * (k : Int)))).toNat 64 = 128 ^ k ∧ (2 : Int) ^ min ((IntKind.wrap .u64 (IntKind.wrap .i64 ((7 : Int) * (k : Int))))).toNat 64 = 128 ^ k := by
  rcases (by omega : k = 0 ∨ k = 1 ∨ k = 2 ∨ k = 3) with rfl | rfl | rfl | rfl <;> exact ⟨by decide, by decide⟩
theorem pwv {k : Nat} (hk : k < 4) : ((128 : Int) ^ k = 1 ∧ k = 0) ∨ ((128 : Int) ^ k = 128 ∧ k = 1) ∨ ((128 : Int) ^ k = 16384 ∧ k = 2) ∨ ((128 : Int) ^ k = 2097152 ∧ k = 3) := by
  rcases (by omega : k = 0 ∨ k = 1 ∨ k = 2 ∨ k = 3) with rfl | rfl | rfl | rfl
  · exact .inl ⟨by decide, rfl⟩
  · exact .inr (.inl ⟨by decide, rfl⟩)
  · exact .inr (.inr (.inl ⟨by decide, rfl⟩))
  · exact .inr (.inr (.inr ⟨by decide, rfl⟩))
theorem shBd {k : Nat} (hk : k < 4) {u x : Int} (hu : 0 ≤ u) (hu2 : u < 128 ^ k) (hx : 0 ≤ x) (hx2 : x ≤ 255) : 0 ≤ u + x % 128 * 128 ^ k ∧ u + x % 128 * 128 ^ k < 128 ^ (k + 1) ∧ u + x % 128 * 128 ^ k < 268435456 := by
  rw [Int.pow_succ]
  rcases pwv hk with ⟨e, _⟩ | ⟨e, _⟩ | ⟨e, _⟩ | ⟨e, _⟩ <;> rw [e] at hu2 ⊢ <;> omega
theorem shI {k : Nat} (hk : k < 4) {u x : Int} (hu : 0 ≤ u) (hu2 : u < 128 ^ k) (hx : 0 ≤ x) (hx2 : x ≤ 255) :
    IntKind.wrap .i64 (u + (IntKind.wrap .i64 ((Int.tmod (IntKind.wrap .i64 x) (128 : Int)) * 2 ^ min ((IntKind.wrap .i64 ((7 : Int) * (k : Int)))).toNat 64))) = u + x % 128 * 128 ^ k := by
  rw [w64i (n := x) (by omega) (by omega), Int.tmod_eq_emod_of_nonneg hx, (pw hk).1]
  rcases pwv hk with ⟨e, _⟩ | ⟨e, _⟩ | ⟨e, _⟩ | ⟨e, _⟩ <;> rw [e] at hu2 ⊢ <;> (rw [w64i (n := x % 128 * _) (by omega) (by omega), w64i (by omega) (by omega)])
theorem b60 : ∀ n : Int, 0 ≤ n → n < 2 ^ 60 → IntKind.i64.wrap n = n := fun n h0 h1 => w64i (by omega) (by omega)
theorem shS {k : Nat} (hk : k < 4) {u x : Int} (hu : 0 ≤ u) (hu2 : u < 128 ^ k) (hx : 0 ≤ x) (hx2 : x ≤ 255) :
    Go.bits .or .i64 u (IntKind.wrap .i64 ((Go.bits .and .i64 (IntKind.wrap .i64 x) (127 : Int)) * 2 ^ min ((IntKind.wrap .u64 (IntKind.wrap .i64 ((7 : Int) * (k : Int))))).toNat 64)) = u + x % 128 * 128 ^ k := by
  rw [w64i (n := x) (by omega) (by omega), (pw hk).2]
  have e1 : Go.bits .and .i64 x (127 : Int) = x % 128 := bits_mask .i64 60 (by decide) b60 7 (by decide) _ (by omega) (by omega)
  have hc : ∀ a b : Int, Go.bits .or .i64 a b = Go.bits .or .i64 b a := fun a b => by simp only [Go.bits]; rw [BitVec.or_comm]
  rw [e1, hc]
  rcases pwv hk with ⟨e, rfl⟩ | ⟨e, rfl⟩ | ⟨e, rfl⟩ | ⟨e, rfl⟩ <;> rw [e] at hu2 ⊢ <;> rw [w64i (by omega) (by omega)]
  · rw [bits_join .i64 60 (by decide) b60 0 _ u (by omega) (by omega) (by omega) hu (by omega) (by omega)]; omega
  · rw [bits_join .i64 60 (by decide) b60 7 _ u (by omega) (by omega) (by omega) hu (by omega) (by omega)]; omega
  · rw [bits_join .i64 60 (by decide) b60 14 _ u (by omega) (by omega) (by omega) hu (by omega) (by omega)]; omega
  · rw [bits_join .i64 60 (by decide) b60 21 _ u (by omega) (by omega) (by omega) hu (by omega) (by omega)]; omega
theorem and1 {u : Int} (h0 : 0 ≤ u) (h1 : u < 268435456) : Go.bits .and .i64 u (1 : Int) = u % 2 := bits_mask .i64 60 (by decide) b60 1 (by decide) _ h0 (by omega)

/-- What both give. -/
def gnV (r : Option (Int × Int)) : Value := match r with
  | some (n, e) => .tuple #[.int .i64 n, .int .i64 e, .bool true]
  | none => .tuple #[.int .i64 0, .int .i64 0, .bool false]
/-- How a loop may be left. -/
def gnX (r : Option (Int × Int)) (h : AH) (x : Nat × Slots × AH) : Prop := match r with
  | some (n, e) => x = (1, [some (.int .i64 n), some (.int .i64 e), some (.bool true)], h)
  | none => x = (1, [some (.int .i64 0), some (.int .i64 0), some (.bool false)], h) ∨ x = (2, [], h)

theorem implGet_loop {base : Nat} {h : AH} {a0 : Option Addr} {zs : List Int} {at_ : Int} (s : Sl h a0 (iv .u8 zs)) (hz : ∀ z ∈ zs, 0 ≤ z ∧ z ≤ 255) (hl : zs.length ≤ 1048576 * 4) (ha : at_ ≤ 9223372036854775807) : ∀ (f k : Nat) (u : Int), f + k = 4 → 0 ≤ u → u < 128 ^ k →
    ∃ r, loopL (B86_0 base) [some (.slice a0 zs.length zs.length), some (.int .i64 at_), some (.int .i64 u), some (.int .i64 (k : Int))] h = some r ∧ gnX (gnL zs at_ f k u) h r := by
  intro f
  induction f with
  | zero =>
    intro k u hk hu hu2
    refine ⟨_, loop_off (by decide) ?_, .inr rfl⟩
    rw [B86_0_eq]
    refine bj (q := ([some (.slice a0 zs.length zs.length), some (.int .i64 at_), some (.int .i64 u), some (.int .i64 (k : Int)), some (.bool false)], h)) (ifF (by simp; omega) rfl) ?_
    exact bS rfl (bI rfl (bI rfl (bI rfl (bB rfl (ifF (by decide) rfl)))))
  | succ f ih =>
    intro k u hk hu hu2
    have hk4 : k < 4 := by omega
    rw [gnL]
    by_cases c : 0 ≤ at_ ∧ at_ + (k : Int) < ((zs.length : Nat) : Int)
    · rw [if_pos c]
      have hi : (at_ + (k : Int)).toNat < zs.length := by omega
      have hg : zs.getD (at_ + (k : Int)).toNat 0 = zs[(at_ + (k : Int)).toNat] := by simp [hi]
      rw [hg]
      obtain ⟨ad, rfl, g⟩ := s.int hi
      have hx := hz _ (List.getElem_mem hi)
      generalize hxx : zs[(at_ + (k : Int)).toNat] = x at g hx
      have hb := shBd hk4 hu hu2 hx.1 hx.2
      have pre : ∀ r, ((if (decide (x ≥ (128 : Int))) = true then some (0, [some (.slice (some ad) zs.length zs.length), some (.int .i64 at_), some (.int .i64 (u + x % 128 * 128 ^ k)), some (.int .i64 ((k + 1 : Nat) : Int))], h)
          else (if ((x == (0 : Int)) && decide ((k : Int) > (0 : Int)) || !inB (unzz (u + x % 128 * 128 ^ k)) (-1000000) 1000000) = true then some (1, [some (.int .i64 0), some (.int .i64 0), some (.bool false)], h) else some (1, [some (.int .i64 (unzz (u + x % 128 * 128 ^ k))), some (.int .i64 (at_ + (k : Int) + 1)), some (.bool true)], h))) : Option (Nat × Slots × AH)) = some r → B86_0 base [some (.slice (some ad) zs.length zs.length), some (.int .i64 at_), some (.int .i64 u), some (.int .i64 (k : Int))] h = some r := by
        intro r hr
        rw [B86_0_eq]
        have w1 : IntKind.wrap .i64 (((zs.length : Nat) : Int) - (k : Int)) = ((zs.length : Nat) : Int) - (k : Int) := w64i (by omega) (by omega)
        refine bj (q := ([some (.slice (some ad) zs.length zs.length), some (.int .i64 at_), some (.int .i64 u), some (.int .i64 (k : Int)), some (.bool true)], h)) (ifT (decide_eq_true (by omega)) (ifT (decide_eq_true c.1) (by rw [w1, decide_eq_true (by omega)]))) ?_
        refine bS rfl (bI rfl (bI rfl (bI rfl (bB rfl (ifT rfl ?_)))))
        have w2 : IntKind.wrap .i64 (at_ + (k : Int)) = at_ + (k : Int) := w64i (by omega) (by omega)
        rw [w2]
        refine ifT ⟨by omega, by simp; omega⟩ (bs rfl ?_)
        rw [Nat.mul_one]
        refine bs g (ifF (sh0 hk4).1 ?_)
        rw [shI hk4 hu hu2 hx.1 hx.2, w64i (n := x) (by omega) (by omega)]
        by_cases c1 : x ≥ 128
        · rw [if_pos (decide_eq_true c1)] at hr
          refine ifT (decide_eq_true c1) ?_
          rw [w64i (n := (k : Int) + 1) (by omega) (by omega), show (k : Int) + 1 = ((k + 1 : Nat) : Int) from by omega]
          exact hr
        · rw [if_neg (by simpa using c1)] at hr
          refine ifF (by simpa using c1) ?_
          refine bj (q := ([some (.int .i64 at_), some (.int .i64 (k : Int)), some (.int .i64 x), some (.int .i64 (unzz (u + x % 128 * 128 ^ k)))], h)) ?_ ?_
          · generalize u + x % 128 * 128 ^ k = U at hb
            unfold unzz
            by_cases c2 : U % 2 = 1
            · refine ifT (by rw [Int.tmod_eq_emod_of_nonneg hb.1]; simp [c2]) ?_
              rw [if_pos c2, w64i (n := U + 1) (by omega) (by omega), w64i (n := 0 - (U + 1)) (by omega) (by omega)]
              have e : Int.tdiv (0 - (U + 1)) 2 = -((U + 1) / 2) := by
                rw [show (0 : Int) - (U + 1) = -(U + 1) from by omega, Int.neg_tdiv, Int.tdiv_eq_ediv_of_nonneg (by omega)]
              rw [e, w64i (by omega) (by omega)]
            · refine ifF (by rw [Int.tmod_eq_emod_of_nonneg hb.1]; simpa using c2) ?_
              rw [if_neg c2, Int.tdiv_eq_ediv_of_nonneg hb.1, w64i (by omega) (by omega)]
          · refine bI rfl (bI rfl (bI rfl (bI rfl ?_)))
            generalize unzz (u + x % 128 * 128 ^ k) = N at hr
            refine bj (q := ([some (.int .i64 at_), some (.int .i64 (k : Int)), some (.int .i64 N), some (.bool ((x == (0 : Int)) && decide ((k : Int) > (0 : Int)) || !inB N (-1000000) 1000000))], h)) ?_ ?_
            · by_cases c3 : (x == (0 : Int)) = true
              · refine ifT c3 ?_
                by_cases c4 : (k : Int) > 0
                · exact ifT (decide_eq_true c4) (by rw [c3, decide_eq_true c4]; rfl)
                · exact ifF (by simpa using c4) (bs in_run (bB rfl (by rw [c3, decide_eq_false c4]; simp)))
              · exact ifF c3 (bs in_run (bB rfl (by rw [Bool.eq_false_iff.2 c3]; simp)))
            · refine bI rfl (bI rfl (bI rfl (bB rfl ?_)))
              cases hB : ((x == (0 : Int)) && decide ((k : Int) > (0 : Int)) || !inB N (-1000000) 1000000) with
              | true => rw [hB, if_pos rfl] at hr; exact ifT rfl hr
              | false =>
                rw [hB, if_neg (by decide)] at hr
                refine ifF (by decide) ?_
                rw [w64i (n := at_ + (k : Int)) (by omega) (by omega), w64i (by omega) (by omega)]
                exact hr
      by_cases c1 : x ≥ 128
      · rw [if_pos c1]
        obtain ⟨r, e, hr⟩ := ih (k + 1) (u + x % 128 * 128 ^ k) (by omega) hb.1 hb.2.1
        exact ⟨r, loop_on (pre _ (ifT (decide_eq_true c1) rfl)) e, hr⟩
      · rw [if_neg c1]
        by_cases c2 : (x = 0 ∧ 0 < k) ∨ inB (unzz (u + x % 128 * 128 ^ k)) (-1000000) 1000000 = false
        · rw [if_pos c2]
          refine ⟨_, loop_off (by decide) (pre _ (ifF (by simpa using c1) (ifT ?_ rfl))), .inl rfl⟩
          rcases c2 with ⟨e1, e2⟩ | e1
          · simp [e1, e2]
          · simp [e1]
        · rw [if_neg c2]
          refine ⟨_, loop_off (by decide) (pre _ (ifF (by simpa using c1) (ifF ?_ rfl))), rfl⟩
          intro hc
          apply c2
          simp only [Bool.or_eq_true, Bool.and_eq_true, beq_iff_eq, decide_eq_true_eq, Bool.not_eq_true'] at hc
          rcases hc with ⟨e1, e2⟩ | e1
          · exact .inl ⟨e1, by omega⟩
          · exact .inr e1
    · rw [if_neg c]
      refine ⟨_, loop_off (by decide) ?_, .inr rfl⟩
      rw [B86_0_eq]
      have w1 : IntKind.wrap .i64 (((zs.length : Nat) : Int) - (k : Int)) = ((zs.length : Nat) : Int) - (k : Int) := w64i (by omega) (by omega)
      refine bj (q := ([some (.slice a0 zs.length zs.length), some (.int .i64 at_), some (.int .i64 u), some (.int .i64 (k : Int)), some (.bool false)], h)) (ifT (decide_eq_true (by omega)) ?_) ?_
      · by_cases c1 : at_ ≥ 0
        · exact ifT (decide_eq_true c1) (by rw [w1, decide_eq_false (by omega)])
        · exact ifF (by simpa using c1) rfl
      · exact bS rfl (bI rfl (bI rfl (bI rfl (bB rfl (ifF (by decide) rfl)))))
theorem implGet_run {base : Nat} {h : AH} {a0 : Option Addr} {zs : List Int} {at_ : Int} (s : Sl h a0 (iv .u8 zs)) (hz : ∀ z ∈ zs, 0 ≤ z ∧ z ≤ 255) (hl : zs.length ≤ 1048576 * 4) (ha : at_ ≤ 9223372036854775807) :
    run (Et base) 86 [.slice a0 zs.length zs.length, .int .i64 at_] h = some (gnV (gnL zs at_ 4 0 0), h) := by
  obtain ⟨r, e, hr⟩ := implGet_loop (base := base) s hz hl ha 4 0 0 (by omega) (by omega) (by decide)
  rw [show ((0 : Nat) : Int) = 0 from rfl] at e
  refine r86 (bs e ?_)
  cases hg : gnL zs at_ 4 0 0 with
  | some p =>
    obtain ⟨n, ee⟩ := p
    rw [hg] at hr
    have hr : r = _ := hr
    subst hr
    exact ifT rfl (bI rfl (bI rfl (bB rfl rfl)))
  | none =>
    rw [hg] at hr
    rcases hr with rfl | rfl
    · exact ifT rfl (bI rfl (bI rfl (bB rfl rfl)))
    · exact ifF (by simp) (ifT rfl rfl)

theorem specGet_loop {base : Nat} {h : AH} {a0 : Option Addr} {zs : List Int} {at_ : Int} (s : Sl h a0 (iv .u8 zs)) (hz : ∀ z ∈ zs, 0 ≤ z ∧ z ≤ 255) (hl : zs.length ≤ 1048576 * 4) (ha : at_ ≤ 9223372036854775807) : ∀ (f k : Nat) (u : Int), f + k = 4 → 0 ≤ u → u < 128 ^ k →
    ∃ r, loopL (B122_0 base) [some (.slice a0 zs.length zs.length), some (.int .i64 at_), some (.int .i64 u), some (.int .i64 (k : Int))] h = some r ∧ gnX (gnL zs at_ f k u) h r := by
  intro f
  induction f with
  | zero =>
    intro k u hk hu hu2
    refine ⟨_, loop_off (by decide) ?_, .inr rfl⟩
    rw [B122_0_eq]
    refine bj (q := ([some (.slice a0 zs.length zs.length), some (.int .i64 at_), some (.int .i64 u), some (.int .i64 (k : Int)), some (.bool false)], h)) (ifF (by simp; omega) rfl) ?_
    exact bS rfl (bI rfl (bI rfl (bI rfl (bB rfl (ifF (by decide) rfl)))))
  | succ f ih =>
    intro k u hk hu hu2
    have hk4 : k < 4 := by omega
    rw [gnL]
    by_cases c : 0 ≤ at_ ∧ at_ + (k : Int) < ((zs.length : Nat) : Int)
    · rw [if_pos c]
      have hi : (at_ + (k : Int)).toNat < zs.length := by omega
      have hg : zs.getD (at_ + (k : Int)).toNat 0 = zs[(at_ + (k : Int)).toNat] := by simp [hi]
      rw [hg]
      obtain ⟨ad, rfl, g⟩ := s.int hi
      have hx := hz _ (List.getElem_mem hi)
      generalize hxx : zs[(at_ + (k : Int)).toNat] = x at g hx
      have hb := shBd hk4 hu hu2 hx.1 hx.2
      have pre : ∀ r, ((if (decide (x ≥ (128 : Int))) = true then some (0, [some (.slice (some ad) zs.length zs.length), some (.int .i64 at_), some (.int .i64 (u + x % 128 * 128 ^ k)), some (.int .i64 ((k + 1 : Nat) : Int))], h)
          else (if ((x == (0 : Int)) && decide ((k : Int) > (0 : Int)) || !inB (unzz (u + x % 128 * 128 ^ k)) (-1000000) 1000000) = true then some (1, [some (.int .i64 0), some (.int .i64 0), some (.bool false)], h) else some (1, [some (.int .i64 (unzz (u + x % 128 * 128 ^ k))), some (.int .i64 (at_ + (k : Int) + 1)), some (.bool true)], h))) : Option (Nat × Slots × AH)) = some r → B122_0 base [some (.slice (some ad) zs.length zs.length), some (.int .i64 at_), some (.int .i64 u), some (.int .i64 (k : Int))] h = some r := by
        intro r hr
        rw [B122_0_eq]
        have w2 : IntKind.wrap .i64 (at_ + (k : Int)) = at_ + (k : Int) := w64i (by omega) (by omega)
        refine bj (q := ([some (.slice (some ad) zs.length zs.length), some (.int .i64 at_), some (.int .i64 u), some (.int .i64 (k : Int)), some (.bool true)], h)) (ifT (decide_eq_true (by omega)) (ifT (decide_eq_true c.1) (ifT (decide_eq_true (by omega)) (by rw [w2, decide_eq_true c.2])))) ?_
        refine bS rfl (bI rfl (bI rfl (bI rfl (bB rfl (ifT rfl ?_)))))
        rw [w2]
        refine ifT ⟨by omega, by simp; omega⟩ (bs rfl ?_)
        rw [Nat.mul_one]
        refine bs g (ifF (sh0 hk4).2 ?_)
        rw [shS hk4 hu hu2 hx.1 hx.2, w64i (n := x) (by omega) (by omega)]
        by_cases c1 : x ≥ 128
        · rw [if_pos (decide_eq_true c1)] at hr
          refine ifT (decide_eq_true (by omega)) ?_
          rw [w64i (n := (k : Int) + 1) (by omega) (by omega), show (k : Int) + 1 = ((k + 1 : Nat) : Int) from by omega]
          exact hr
        · rw [if_neg (by simpa using c1)] at hr
          refine ifF (by simp; omega) ?_
          refine bj (q := ([some (.int .i64 at_), some (.int .i64 (k : Int)), some (.int .i64 x), some (.int .i64 (unzz (u + x % 128 * 128 ^ k)))], h)) ?_ ?_
          · generalize u + x % 128 * 128 ^ k = U at hb
            unfold unzz
            have p2 : (2 : Int) ^ min ((1 : Int)).toNat 64 = 2 := by decide
            rw [and1 hb.1 hb.2.2, p2, Int.fdiv_eq_ediv_of_nonneg _ (by decide)]
            by_cases c2 : U % 2 = 1
            · refine ifT (by simp [c2]) ?_
              rw [if_pos c2, w64i (n := 0 - U / 2) (by omega) (by omega), w64i (by omega) (by omega), show (0 : Int) - U / 2 - 1 = -((U + 1) / 2) from by omega]
            · refine ifF (by simpa using c2) ?_
              rw [if_neg c2]
          · refine bI rfl (bI rfl (bI rfl (bI rfl ?_)))
            generalize unzz (u + x % 128 * 128 ^ k) = N at hr
            refine bj (q := ([some (.int .i64 at_), some (.int .i64 (k : Int)), some (.int .i64 N), some (.bool ((x == (0 : Int)) && decide ((k : Int) > (0 : Int)) || !inB N (-1000000) 1000000))], h)) ?_ ?_
            · by_cases c4 : (k : Int) > 0
              · refine ifT (decide_eq_true c4) ?_
                by_cases c3 : (x == (0 : Int)) = true
                · exact ifT c3 (by rw [c3, decide_eq_true c4]; rfl)
                · exact ifF c3 (bs l1In_run (bB rfl (by rw [Bool.eq_false_iff.2 c3]; simp)))
              · exact ifF (by simpa using c4) (bs l1In_run (bB rfl (by rw [decide_eq_false c4]; simp)))
            · refine bI rfl (bI rfl (bI rfl (bB rfl ?_)))
              cases hB : ((x == (0 : Int)) && decide ((k : Int) > (0 : Int)) || !inB N (-1000000) 1000000) with
              | true => rw [hB, if_pos rfl] at hr; exact ifT rfl hr
              | false =>
                rw [hB, if_neg (by decide)] at hr
                refine ifF (by decide) ?_
                rw [w64i (n := at_ + (k : Int)) (by omega) (by omega), w64i (by omega) (by omega)]
                exact hr
      by_cases c1 : x ≥ 128
      · rw [if_pos c1]
        obtain ⟨r, e, hr⟩ := ih (k + 1) (u + x % 128 * 128 ^ k) (by omega) hb.1 hb.2.1
        exact ⟨r, loop_on (pre _ (ifT (decide_eq_true c1) rfl)) e, hr⟩
      · rw [if_neg c1]
        by_cases c2 : (x = 0 ∧ 0 < k) ∨ inB (unzz (u + x % 128 * 128 ^ k)) (-1000000) 1000000 = false
        · rw [if_pos c2]
          refine ⟨_, loop_off (by decide) (pre _ (ifF (by simpa using c1) (ifT ?_ rfl))), .inl rfl⟩
          rcases c2 with ⟨e1, e2⟩ | e1
          · simp [e1, e2]
          · simp [e1]
        · rw [if_neg c2]
          refine ⟨_, loop_off (by decide) (pre _ (ifF (by simpa using c1) (ifF ?_ rfl))), rfl⟩
          intro hc
          apply c2
          simp only [Bool.or_eq_true, Bool.and_eq_true, beq_iff_eq, decide_eq_true_eq, Bool.not_eq_true'] at hc
          rcases hc with ⟨e1, e2⟩ | e1
          · exact .inl ⟨e1, by omega⟩
          · exact .inr e1
    · rw [if_neg c]
      refine ⟨_, loop_off (by decide) ?_, .inr rfl⟩
      rw [B122_0_eq]
      refine bj (q := ([some (.slice a0 zs.length zs.length), some (.int .i64 at_), some (.int .i64 u), some (.int .i64 (k : Int)), some (.bool false)], h)) (ifT (decide_eq_true (by omega)) ?_) ?_
      · by_cases c1 : at_ ≥ 0
        · refine ifT (decide_eq_true c1) ?_
          by_cases c2 : at_ < ((zs.length : Nat) : Int)
          · exact ifT (decide_eq_true c2) (by rw [w64i (n := at_ + (k : Int)) (by omega) (by omega), decide_eq_false (by omega)])
          · exact ifF (by simpa using c2) rfl
        · exact ifF (by simpa using c1) rfl
      · exact bS rfl (bI rfl (bI rfl (bI rfl (bB rfl (ifF (by decide) rfl)))))
theorem specGet_run {base : Nat} {h : AH} {a0 : Option Addr} {zs : List Int} {at_ : Int} (s : Sl h a0 (iv .u8 zs)) (hz : ∀ z ∈ zs, 0 ≤ z ∧ z ≤ 255) (hl : zs.length ≤ 1048576 * 4) (ha : at_ ≤ 9223372036854775807) :
    run (Et base) 122 [.slice a0 zs.length zs.length, .int .i64 at_] h = some (gnV (gnL zs at_ 4 0 0), h) := by
  obtain ⟨r, e, hr⟩ := specGet_loop (base := base) s hz hl ha 4 0 0 (by omega) (by omega) (by decide)
  rw [show ((0 : Nat) : Int) = 0 from rfl] at e
  refine r122 (bs e ?_)
  cases hg : gnL zs at_ 4 0 0 with
  | some p =>
    obtain ⟨n, ee⟩ := p
    rw [hg] at hr
    have hr : r = _ := hr
    subst hr
    exact ifT rfl (bI rfl (bI rfl (bB rfl rfl)))
  | none =>
    rw [hg] at hr
    rcases hr with rfl | rfl
    · exact ifT rfl (bI rfl (bI rfl (bB rfl rfl)))
    · exact ifF (by simp) (ifT rfl rfl)
end Go.Proofs.Ytnmjhhipbfngkaa.Am
