/- The same term, read at two places.
Conditions: none. -/
import Derived.Test.YtomcfongmahjaaaOk2
set_option linter.unusedSimpArgs false
set_option linter.unusedVariables false
namespace Go.Proofs.Ytomcfongmahjaaa.Am
open Go Go.RowKit

/-! ### The same term, read at two places -/
def SameT (base f : Nat) : Prop := ∀ (f2 : Nat) (h : AH) (p p2 : Nat → Prop) (t : Tm) (cs cs2 : List Value), TmR h p f t cs → TmR h p2 f2 t cs2 → base ≤ h.length →
  ∃ h', run (Et base) 9 [.agg cs.toArray, .agg cs2.toArray] h = some (.bool true, h') ∧ KB NoB h h'
theorem sameT_loop {base f f2 b0 b1 : Nat} (ih : SameT base f) {p p2 : Nat → Prop} {l : List Tm} {a a2 : Option Addr} {k n : Int} {s : ByteArray} (hl : l.length ≤ 9223372036854775807) : ∀ (d i : Nat) (h : AH), i + d = l.length → TsR h p f l a → TsR h p2 f2 l a2 → Own base 27 h (at0 b0) (termV k n s a l.length) → Own base 27 h (at0 b1) (termV k n s a2 l.length) → base ≤ h.length →
    ∃ h', loopL (B9_0 base) [some (.pointer (at0 b0)), some (.pointer (at0 b1)), some (.int .i64 (l.length : Int)), some (.int .i64 (i : Int))] h = some (2, [], h') ∧ KB NoB h h' := by
  intro d
  induction d with
  | zero =>
    intro i h hi hs hs2 o o2 hb
    refine ⟨h, loop_off (by decide) ?_, KB.refl _ _⟩
    rw [B9_0_eq]
    exact ifF (by simp; omega) rfl
  | succ d ihd =>
    intro i h hi hs hs2 o o2 hb
    have hlt : i < l.length := by omega
    obtain ⟨ad, c0, c1, c2, c3, rfl, g0, g1, g2, g3, hm⟩ := hs.get hlt
    obtain ⟨ad2, d0, d1, d2, d3, rfl, y0, y1, y2, y3, hm2⟩ := hs2.get hlt
    obtain ⟨h1, e1, k1⟩ := ih f2 h p p2 l[i] _ _ hm hm2 hb
    cases f with
    | zero => exact hm.elim
    | succ f =>
      cases f2 with
      | zero => exact hm2.elim
      | succ f2 =>
        generalize ht : l[i] = tt at hm hm2
        obtain ⟨k', n', s', ll⟩ := tt
        obtain ⟨a3, ecs, _, _, _⟩ := hm.parts
        injection ecs with q0 ecs
        injection ecs with q1 ecs
        injection ecs with q2 ecs
        injection ecs with q3 _
        subst q0; subst q1; subst q2; subst q3
        obtain ⟨a4, ecs, _, _, _⟩ := hm2.parts
        injection ecs with q0 ecs
        injection ecs with q1 ecs
        injection ecs with q2 ecs
        injection ecs with q3 _
        subst q0; subst q1; subst q2; subst q3
        obtain ⟨h2, m1, m2⟩ := ihd (i + 1) h1 (by omega) (hs.keep k1 fun _ _ h => h) (hs2.keep k1 fun _ _ h => h) (o.keepN k1) (o2.keepN k1) (by have := k1.1; omega)
        refine ⟨h2, loop_on ?_ m1, kN k1 m2⟩
        rw [B9_0_eq]
        refine ifT (decide_eq_true (by omega)) (bS (o.at0 (i := 3) rfl) (ifT ⟨by omega, by simp; omega⟩ (bs rfl ?_)))
        simp only [Int.toNat_natCast]
        refine bI g0 (bI g1 (bT g2 (bS g3 (bS (o2.at0 (i := 3) rfl) (ifT ⟨by omega, by simp; omega⟩ (bs rfl ?_))))))
        refine bI y0 (bI y1 (bT y2 (bS y3 (bs e1 (bB rfl (ifF (by decide) ?_))))))
        rw [w64i (by omega) (by omega), show ((i : Int) + 1) = ((i + 1 : Nat) : Int) from by omega]
theorem sameT_run {base : Nat} : ∀ f, SameT base f
  | 0 => fun f2 h p p2 t cs cs2 x => x.elim
  | f + 1 => fun f2 h p p2 t cs cs2 x x2 hb => by
    cases f2 with
    | zero => exact x2.elim
    | succ f2 =>
      obtain ⟨k, n, s, l⟩ := t
      obtain ⟨a, rfl, hts, hs, hl⟩ := x.parts
      obtain ⟨a2, rfl, hts2, _, _⟩ := x2.parts
      simp only [maxLen] at hl
      obtain ⟨o1, k1, q1⟩ := box_own (base := base) (t := 27) (h := h) (cs := termV k n s a l.length) hb rfl
      generalize hh1 : h ++ [some (⟨termV k n s a l.length, 27⟩ : Blk)] = h1 at o1 k1 q1
      obtain ⟨o2, k2, q2⟩ := box_own (base := base) (t := 27) (h := h1) (cs := termV k n s a2 l.length) (by omega) rfl
      generalize hh2 : h1 ++ [some (⟨termV k n s a2 l.length, 27⟩ : Blk)] = h2 at o2 k2 q2
      have o1' := o1.keepN k2
      have k02 := kN k1 k2
      obtain ⟨h3, e3, k3⟩ := sameT_loop (base := base) (f := f) (f2 := f2) (b0 := h.length) (b1 := h1.length) (k := k) (n := n) (s := s) (sameT_run f) (by omega) l.length 0 h2 (by omega) (hts.keep k02 fun _ _ h => h) (hts2.keep k02 fun _ _ h => h) o1' o2 (by omega)
      rw [show ((0 : Nat) : Int) = 0 from rfl] at e3
      refine ⟨h3, r9 (lets fun y1 ey => ?_), kN k02 k3⟩
      have ey2 : y1 = h1 := by rw [ey]; exact hh1
      subst ey2
      refine lets fun y2 ey => ?_
      have ey2 : y2 = h2 := by rw [ey]; exact hh2
      subst ey2
      refine bj (q := ([some (.pointer (at0 h.length)), some (.pointer (at0 y1.length)), some (.bool false)], y2)) ?_ ?_
      · refine bI (o1'.at0 (i := 0) rfl) (bI (o2.at0 (i := 0) rfl) (ifF (by simp) ?_))
        refine bI (o1'.at0 (i := 1) rfl) (bI (o2.at0 (i := 1) rfl) (ifF (by simp) ?_))
        refine bT (o1'.at0 (i := 2) rfl) (bT (o2.at0 (i := 2) rfl) (ifF (by simp) ?_))
        exact bS (o1'.at0 (i := 3) rfl) (bS (o2.at0 (i := 3) rfl) (by simp))
      · refine bs rfl (bs rfl (bB rfl (ifF (by decide) (bS (o1'.at0 (i := 3) rfl) ?_))))
        exact bs e3 (ifF (by simp) (ifT rfl rfl))
end Go.Proofs.Ytomcfongmahjaaa.Am
