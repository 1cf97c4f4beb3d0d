/- Rows of what is said: the same read twice.
Conditions: none. -/
import Derived.Test.YtnmjhhipbfngkaaSd3
set_option linter.unusedSimpArgs false
set_option linter.unusedVariables false
namespace Go.Proofs.Ytnmjhhipbfngkaa.Am
open Go Go.RowKit

/-- Two readings of the same tree have the same numbers and length. -/
theorem eqSaid_run {base f f2 : Nat} {h : AH} {p p2 : Nat → Prop} {kind pid k n k2 n2 : Int} {s s2 : ByteArray} {a a2 : Option Addr} {m m2 : Nat} {t : Tm} (hm : TmR h p f t (termV k n s a m)) (hm2 : TmR h p2 f2 t (termV k2 n2 s2 a2 m2)) (hb : base ≤ h.length) :
    ∃ h', run (Et base) 132 [.agg (saidV kind pid k n s a m).toArray, .agg (saidV kind pid k2 n2 s2 a2 m2).toArray] h = some (.bool true, h') ∧ KB NoB h h' := by
  obtain ⟨o1, k1, q1⟩ := box_own (base := base) (t := 174) (h := h) (cs := saidV kind pid k n s a m) hb rfl
  generalize hh1 : h ++ [some (⟨saidV kind pid k n s a m, 174⟩ : Blk)] = h1 at o1 k1 q1
  obtain ⟨o2, k2', q2⟩ := box_own (base := base) (t := 174) (h := h1) (cs := saidV kind pid k2 n2 s2 a2 m2) (by omega) rfl
  generalize hh2 : h1 ++ [some (⟨saidV kind pid k2 n2 s2 a2 m2, 174⟩ : Blk)] = h2 at o2 k2' q2
  have o1' := o1.keepN k2'
  have kk : KB NoB h h2 := KB.trans k1 k2' (fun _ _ h => h) (fun _ _ h => h)
  obtain ⟨h3, e3, k3⟩ := eqTerm_run (base := base) f f2 h2 p p2 t _ _ (TmR.keep kk (fun _ _ h => h) _ _ _ hm) (TmR.keep kk (fun _ _ h => h) _ _ _ hm2) (by omega)
  refine ⟨h3, r132 (lets fun h1' eh => ?_), KB.trans kk k3 (fun _ _ h => h) (fun _ _ h => h)⟩
  rw [hh1] at eh
  subst eh
  refine lets fun h2' eh => ?_
  rw [hh2] at eh
  subst eh
  refine bI (o1'.at0 (i := 0) rfl) (bI (o2.at0 (i := 0) rfl) (ifF (by simp) ?_))
  refine bI (o1'.at0 (i := 1) rfl) (bI (o2.at0 (i := 1) rfl) (ifF (by simp) ?_))
  refine bI (o1'.at0 (i := 2) rfl) (bI (o1'.at0 (i := 3) rfl) (bT (o1'.at0 (i := 4) rfl) (bS (o1'.at0 (i := 5) rfl) ?_)))
  refine bI (o2.at0 (i := 2) rfl) (bI (o2.at0 (i := 3) rfl) (bT (o2.at0 (i := 4) rfl) (bS (o2.at0 (i := 5) rfl) ?_)))
  exact bs e3 (bB rfl (ifF (by decide) rfl))

theorem eqSaidS_loop {base f f2 : Nat} {p p2 : Nat → Prop} {l : List Sd} {a a2 : Option Addr} (hl : l.length ≤ 9223372036854775807) : ∀ (d i : Nat) (h : AH), i + d = l.length → SsR h p f l a → SsR h p2 f2 l a2 → base ≤ h.length →
    ∃ h', loopL (B105_0 base) [some (.slice a l.length l.length), some (.slice a2 l.length l.length), some (.int .i64 (i : Int))] h = some (2, [], h') ∧ KB NoB h h' := by
  intro d
  induction d with
  | zero =>
    intro i h hi hs hs2 hb
    refine ⟨h, ?_, KB.refl _ _⟩
    rw [loopL_eq, B105_0_eq]
    have : ¬ ((i : Int) < (l.length : Int)) := by omega
    simp [this]
  | succ d ihd =>
    intro i h hi hs hs2 hb
    have hlt : i < l.length := by omega
    obtain ⟨ad, k, n, s, b, m, rfl, _, g0, g1, g2, g3, g4, g5, hm⟩ := hs.get hlt
    obtain ⟨ad2, k2, n2, s2, b2, m2, rfl, _, y0, y1, y2, y3, y4, y5, hm2⟩ := hs2.get hlt
    obtain ⟨h1, e1, k1⟩ := eqSaid_run (base := base) (kind := l[i].kind) (pid := l[i].pid) hm hm2 hb
    obtain ⟨h2, m1, q2⟩ := ihd (i + 1) h1 (by omega) (hs.keep k1 fun _ _ h => h) (hs2.keep k1 fun _ _ h => h) (by have := k1.1; omega)
    refine ⟨h2, ?_, KB.trans k1 q2 (fun _ _ h => h) (fun _ _ h => h)⟩
    have step : B105_0 base [some (.slice (some ad) l.length l.length), some (.slice (some ad2) l.length l.length), some (.int .i64 (i : Int))] h = some (0, [some (.slice (some ad) l.length l.length), some (.slice (some ad2) l.length l.length), some (.int .i64 (IntKind.wrap .i64 ((i : Int) + (1 : Int))))], h1) := by
      rw [B105_0_eq]
      refine ifT (decide_eq_true (by omega)) (ifT ⟨by omega, by omega⟩ (bs rfl ?_))
      simp only [Int.toNat_natCast]
      refine bI g0 (bI g1 (bI g2 (bI g3 (bT g4 (bS g5 (ifT ⟨by omega, by omega⟩ (bs rfl ?_)))))))
      refine bI y0 (bI y1 (bI y2 (bI y3 (bT y4 (bS y5 ?_)))))
      exact bs e1 (bB rfl (ifF (by decide) rfl))
    rw [loopL_eq, step]
    simp only [Option.bind_some, if_true]
    rw [w64i (by omega) (by omega), show ((i : Int) + 1) = ((i + 1 : Nat) : Int) from by omega]
    exact m1

theorem eqSaidS_run {base f f2 : Nat} {h : AH} {p p2 : Nat → Prop} {l : List Sd} {a a2 : Option Addr} (hl : l.length ≤ 9223372036854775807) (hs : SsR h p f l a) (hs2 : SsR h p2 f2 l a2) (hb : base ≤ h.length) :
    ∃ h', run (Et base) 105 [.slice a l.length l.length, .slice a2 l.length l.length] h = some (.bool true, h') ∧ KB NoB h h' := by
  obtain ⟨h', e, k⟩ := eqSaidS_loop (base := base) hl l.length 0 h (by omega) hs hs2 hb
  refine ⟨h', r105 (ifF (by simp) ?_), k⟩
  rw [show ((0 : Nat) : Int) = 0 from rfl] at e
  exact bs e (ifF (by simp) (ifT rfl rfl))
end Go.Proofs.Ytnmjhhipbfngkaa.Am
