/- Terms: the same tree read twice is the same.
Conditions: none. -/
import Derived.Test.YtnmjhhipbfngkaaTm2
set_option linter.unusedSimpArgs false
set_option linter.unusedVariables false
namespace Go.Proofs.Ytnmjhhipbfngkaa.Am
open Go Go.RowKit

/-- The same tree, read at two places. -/
def EqT (base f : Nat) : Prop := ∀ (f2 : Nat) (h : AH) (p p2 : Nat → Prop) (t : Tm) (cs cs2 : List Value), TmR h p f t cs → TmR h p2 f2 t cs2 → base ≤ h.length →
  ∃ h', run (Et base) 16 [.agg cs.toArray, .agg cs2.toArray] h = some (.bool true, h') ∧ KB NoB h h'

theorem eqTermS_loop {base f f2 : Nat} (ih : EqT base f) {p p2 : Nat → Prop} {l : List Tm} {a a2 : Option Addr} (hl : l.length ≤ 9223372036854775807) : ∀ (d i : Nat) (h : AH), i + d = l.length → TsR h p f l a → TsR h p2 f2 l a2 → base ≤ h.length →
    ∃ h', loopL (B70_0 base) [some (.slice a l.length l.length), some (.slice a2 l.length l.length), some (.int .i64 (i : Int))] h = some (2, [], h') ∧ KB NoB h h' := by
  intro d
  induction d with
  | zero =>
    intro i h hi hs hs2 hb
    refine ⟨h, ?_, KB.refl _ _⟩
    rw [loopL_eq, B70_0_eq]
    have : ¬ ((i : Int) < (l.length : Int)) := by omega
    simp [this]
  | succ d ihd =>
    intro i h hi hs hs2 hb
    have hlt : i < l.length := by omega
    obtain ⟨ad, c0, c1, c2, c3, rfl, g0, g1, g2, g3, hm⟩ := hs.get hlt
    obtain ⟨ad2, d0, d1, d2, d3, rfl, y0, y1, y2, y3, hm2⟩ := hs2.get hlt
    obtain ⟨h1, e1, k1⟩ := ih f2 h p p2 l[i] _ _ hm hm2 hb
    cases f with
    | zero => exact hm.elim
    | succ f =>
      cases f2 with
      | zero => exact hm2.elim
      | succ f2 =>
        generalize ht : l[i] = tt at hm hm2
        obtain ⟨k, n, s, ll⟩ := tt
        obtain ⟨a3, ecs, _, _, _⟩ := hm.parts
        injection ecs with q0 ecs
        injection ecs with q1 ecs
        injection ecs with q2 ecs
        injection ecs with q3 _
        subst q0; subst q1; subst q2; subst q3
        obtain ⟨a4, ecs, _, _, _⟩ := hm2.parts
        injection ecs with q0 ecs
        injection ecs with q1 ecs
        injection ecs with q2 ecs
        injection ecs with q3 _
        subst q0; subst q1; subst q2; subst q3
        obtain ⟨h2, m1, m2⟩ := ihd (i + 1) h1 (by omega) (hs.keep k1 fun _ _ h => h) (hs2.keep k1 fun _ _ h => h) (by have := k1.1; omega)
        refine ⟨h2, ?_, KB.trans k1 m2 (fun _ _ h => h) (fun _ _ h => h)⟩
        have step : B70_0 base [some (.slice (some ad) l.length l.length), some (.slice (some ad2) l.length l.length), some (.int .i64 (i : Int))] h = some (0, [some (.slice (some ad) l.length l.length), some (.slice (some ad2) l.length l.length), some (.int .i64 (IntKind.wrap .i64 ((i : Int) + (1 : Int))))], h1) := by
          rw [B70_0_eq]
          refine ifT (decide_eq_true (by omega)) (ifT ⟨by omega, by omega⟩ (bs rfl ?_))
          simp only [Int.toNat_natCast]
          refine bI g0 (bI g1 (bT g2 (bS g3 (ifT ⟨by omega, by omega⟩ (bs rfl ?_)))))
          refine bI y0 (bI y1 (bT y2 (bS y3 ?_)))
          exact bs e1 (bB rfl (ifF (by decide) rfl))
        rw [loopL_eq, step]
        simp only [Option.bind_some, if_true]
        rw [w64i (by omega) (by omega), show ((i : Int) + 1) = ((i + 1 : Nat) : Int) from by omega]
        exact m1

theorem eqTermS_run {base f f2 : Nat} (ih : EqT base f) {h : AH} {p p2 : Nat → Prop} {l : List Tm} {a a2 : Option Addr} (hl : l.length ≤ 9223372036854775807) (hs : TsR h p f l a) (hs2 : TsR h p2 f2 l a2) (hb : base ≤ h.length) :
    ∃ h', run (Et base) 70 [.slice a l.length l.length, .slice a2 l.length l.length] h = some (.bool true, h') ∧ KB NoB h h' := by
  obtain ⟨h', e, k⟩ := eqTermS_loop (base := base) ih hl l.length 0 h (by omega) hs hs2 hb
  refine ⟨h', r70 (ifF (by simp) ?_), k⟩
  rw [show ((0 : Nat) : Int) = 0 from rfl] at e
  exact bs e (ifF (by simp) (ifT rfl rfl))

theorem eqTerm_run {base : Nat} : ∀ f, EqT base f
  | 0 => fun f2 h p p2 t cs cs2 x => x.elim
  | f + 1 => fun f2 h p p2 t cs cs2 x x2 hb => by
    cases f2 with
    | zero => exact x2.elim
    | succ f2 =>
      obtain ⟨k, n, s, l⟩ := t
      obtain ⟨a, rfl, hts, hs, hl⟩ := x.parts
      obtain ⟨a2, rfl, hts2, _, _⟩ := x2.parts
      simp only [maxLen] at hl
      obtain ⟨o1, k1, q1⟩ := box_own (base := base) (t := 32) (h := h) (cs := termV k n s a l.length) hb rfl
      generalize hh1 : h ++ [some (⟨termV k n s a l.length, 32⟩ : Blk)] = h1 at o1 k1 q1
      obtain ⟨o2, k2, q2⟩ := box_own (base := base) (t := 32) (h := h1) (cs := termV k n s a2 l.length) (by omega) rfl
      generalize hh2 : h1 ++ [some (⟨termV k n s a2 l.length, 32⟩ : Blk)] = h2 at o2 k2 q2
      have o1' := o1.keepN k2
      have k02 : KB NoB h h2 := KB.trans k1 k2 (fun _ _ h => h) (fun _ _ h => h)
      obtain ⟨h3, e3, k3⟩ := eqTermS_run (base := base) (eqTerm_run f) (by omega) (hts.keep k02 fun _ _ h => h) (hts2.keep k02 fun _ _ h => h) (by omega)
      refine ⟨h3, r16 (lets fun h1' eh => ?_), KB.trans k02 k3 (fun _ _ h => h) (fun _ _ h => h)⟩
      rw [hh1] at eh
      subst eh
      refine lets fun h2' eh => ?_
      rw [hh2] at eh
      subst eh
      refine bI (o1'.at0 (i := 0) rfl) (bI (o2.at0 (i := 0) rfl) (ifF (by simp) ?_))
      refine bI (o1'.at0 (i := 1) rfl) (bI (o2.at0 (i := 1) rfl) (ifF (by simp) ?_))
      refine bT (o1'.at0 (i := 2) rfl) (bT (o2.at0 (i := 2) rfl) (ifF (by simp) ?_))
      refine bS (o1'.at0 (i := 3) rfl) (bS (o2.at0 (i := 3) rfl) ?_)
      exact bs e3 (bB rfl (ifF (by decide) rfl))
end Go.Proofs.Ytnmjhhipbfngkaa.Am
