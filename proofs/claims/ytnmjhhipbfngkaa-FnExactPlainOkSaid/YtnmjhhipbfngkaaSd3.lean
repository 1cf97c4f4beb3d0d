/- Rows of what is said: counted, and the same read twice.
Conditions: none. -/
import Derived.Test.YtnmjhhipbfngkaaSd2
set_option linter.unusedSimpArgs false
set_option linter.unusedVariables false
namespace Go.Proofs.Ytnmjhhipbfngkaa.Am
open Go Go.RowKit

theorem szSaid_run {base f : Nat} {h : AH} {p : Nat → Prop} {kind pid k n : Int} {s : ByteArray} {a : Option Addr} {m : Nat} {t : Tm} {left : Int} (hm : TmR h p f t (termV k n s a m)) (hb : base ≤ h.length) (hp : ∀ b, p b → b < h.length) (h0 : 0 ≤ left) (h1 : left ≤ 1048576) :
    ∃ z h', run (Et base) 128 [.agg (saidV kind pid k n s a m).toArray, .int .i64 left] h = some (.int .i64 z, h') ∧ KB NoB h h' ∧ z ≤ left ∧ -1 ≤ z ∧ (¬ z < 0 → TmB f t ∧ z + (tcnt f t : Int) ≤ left) := by
  obtain ⟨o1, k1, q1⟩ := box_own (base := base) (t := 172) (h := h) (cs := saidV kind pid k n s a m) hb rfl
  generalize hh1 : h ++ [some (⟨saidV kind pid k n s a m, 172⟩ : Blk)] = h1' at o1 k1 q1
  obtain ⟨z, h2, e, k2, z1, z2, z3⟩ := szTerm_run (base := base) f h1' p t _ left (TmR.keep k1 (fun _ _ h => h) _ _ _ hm) (by omega) (fun b hbp => by have := hp b hbp; omega) h0 h1
  have kk : KB NoB h h2 := KB.trans k1 k2 (fun _ _ h => h) (fun _ _ h => h)
  have start : ∀ r, (if (decide (z < (0 : Int))) = true then some (Value.int .i64 (-1 : Int), h2) else some (.int .i64 z, h2)) = some r → run (Et base) 128 [.agg (saidV kind pid k n s a m).toArray, .int .i64 left] h = some r := by
    intro r hr
    refine r128 (lets fun h1'' eh => ?_)
    rw [hh1] at eh
    subst eh
    refine bI (o1.at0 (i := 2) rfl) (bI (o1.at0 (i := 3) rfl) (bT (o1.at0 (i := 4) rfl) (bS (o1.at0 (i := 5) rfl) ?_)))
    exact bs e (bI rfl hr)
  by_cases hz : z < 0
  · exact ⟨-1, h2, start _ (ifT (decide_eq_true hz) rfl), kk, by omega, by omega, fun h => absurd (by decide) h⟩
  · exact ⟨z, h2, start _ (ifF (by simpa using hz) rfl), kk, z1, z2, z3⟩

theorem szSaidS_loop {base f : Nat} {p : Nat → Prop} {l : List Sd} {a : Option Addr} (hl : l.length ≤ 1048576) : ∀ (d i : Nat) (h : AH) (left : Int), i + d = l.length → SsR h p f l a → base ≤ h.length → (∀ b, p b → b < h.length) → 0 ≤ left → left ≤ 1048576 →
    ∃ e z h', loopL (B96_0 base) [some (.slice a l.length l.length), some (.int .i64 left), some (.int .i64 (i : Int))] h = some (e, [some (.int .i64 z)], h') ∧ (e = 1 ∨ e = 2) ∧ KB NoB h h' ∧ z ≤ left ∧ -1 ≤ z ∧ (¬ z < 0 → (∀ j x, i ≤ j → l[j]? = some x → TmB f x.t) ∧ z + (sumL (fun x => tcnt f x.t) (l.drop i) : Int) ≤ left) := by
  intro d
  induction d with
  | zero =>
    intro i h left hi hs hb hp h0 h1
    refine ⟨2, left, h, ?_, .inr rfl, KB.refl _ _, Int.le_refl _, by omega, fun _ => ⟨fun j t hj hjt => ?_, by rw [show l.drop i = [] from List.drop_eq_nil_of_le (by omega)]; simp [sumL]⟩⟩
    · rw [loopL_eq, B96_0_eq]
      have : ¬ ((i : Int) < (l.length : Int)) := by omega
      simp [this]
    · have := (List.getElem?_eq_some_iff.1 hjt).1; omega
  | succ d ihd =>
    intro i h left hi hs hb hp h0 h1
    have hlt : i < l.length := by omega
    obtain ⟨ad, k, n, s, a2, m, rfl, hbl, g0, g1, g2, g3, g4, g5, hm⟩ := hs.get hlt
    obtain ⟨z, h', e1, k1, z1, z2, z3⟩ := szSaid_run (base := base) (kind := l[i].kind) (pid := l[i].pid) hm hb hp h0 h1
    have step : ∀ r, (if (decide (z < (0 : Int))) = true then
        some (1, [some (Value.int .i64 (-1 : Int))], h')
      else
        some (0, [some (.slice (some ad) l.length l.length), some (.int .i64 z), some (.int .i64 (IntKind.wrap .i64 ((i : Int) + (1 : Int))))], h')) = some r →
        B96_0 base [some (.slice (some ad) l.length l.length), some (.int .i64 left), some (.int .i64 (i : Int))] h = some r := by
      intro r hr
      rw [B96_0_eq]
      refine ifT (decide_eq_true (by omega)) (ifT ⟨by omega, by omega⟩ (bs rfl ?_))
      simp only [Int.toNat_natCast]
      refine bI g0 (bI g1 (bI g2 (bI g3 (bT g4 (bS g5 ?_)))))
      exact bs e1 (bI rfl hr)
    by_cases hz : z < 0
    · refine ⟨1, -1, h', ?_, .inl rfl, k1, by omega, by omega, fun h => absurd (by decide) h⟩
      rw [loopL_eq, step _ (ifT (decide_eq_true hz) rfl)]
      simp
    · obtain ⟨e, zz, h'', m1, m2, m3, m4, m5, m6⟩ := ihd (i + 1) h' z (by omega) (hs.keep k1 fun _ _ h => h) (by have := k1.1; omega) (fun b hbp => by have := hp b hbp; have := k1.1; omega) (by omega) (by omega)
      refine ⟨e, zz, h'', ?_, m2, KB.trans k1 m3 (fun _ _ h => h) (fun _ _ h => h), by omega, m5, fun hzz => ⟨fun j t hj hjt => ?_, by rw [sumL_drop _ hlt]; have := (m6 hzz).2; have := (z3 hz).2; omega⟩⟩
      · rw [loopL_eq, step _ (ifF (by simpa using hz) rfl)]
        simp only [Option.bind_some, if_true]
        rw [w64i (by omega) (by omega), show ((i : Int) + 1) = ((i + 1 : Nat) : Int) from by omega]
        exact m1
      · by_cases hji : j = i
        · subst hji
          rw [List.getElem?_eq_getElem hlt] at hjt
          injection hjt with hjt
          rw [← hjt]
          exact (z3 hz).1
        · exact (m6 hzz).1 j t (by omega) hjt

theorem szSaidS_run {base f : Nat} {p : Nat → Prop} {h : AH} {l : List Sd} {a : Option Addr} (hl : l.length ≤ 9223372036854775807) (hs : SsR h p f l a) (hb : base ≤ h.length) (hp : ∀ b, p b → b < h.length) :
    ∃ z h', run (Et base) 96 [.slice a l.length l.length, .int .i64 1048576] h = some (.int .i64 z, h') ∧ KB NoB h h' ∧ (¬ z < 0 → l.length ≤ 1048576 ∧ (∀ x ∈ l, TmB f x.t) ∧ l.length + sumL (fun x => tcnt f x.t) l ≤ 1048576) := by
  by_cases c : (1048576 : Int) - (l.length : Int) < 0
  · refine ⟨-1, h, r96 ?_, KB.refl _ _, fun h => absurd (by decide) h⟩
    rw [w64i (by omega) (by omega)]
    exact ifT (decide_eq_true c) rfl
  · obtain ⟨e, z, h2, m1, m2, m3, m4, m5, m6⟩ := szSaidS_loop (base := base) (f := f) (by omega) l.length 0 h (1048576 - l.length) (by omega) hs hb hp (by omega) (by omega)
    refine ⟨z, h2, r96 ?_, m3, fun hz => ⟨by omega, fun x hx => ?_, by have := (m6 hz).2; simp only [List.drop_zero] at this; omega⟩⟩
    · rw [w64i (by omega) (by omega)]
      rw [show ((0 : Nat) : Int) = 0 from rfl] at m1
      refine ifF (by simpa using c) (bs m1 ?_)
      rcases m2 with rfl | rfl
      · exact ifT rfl (bI rfl rfl)
      · exact ifF (by simp) (ifT rfl (bI rfl rfl))
    · obtain ⟨j, hj, rfl⟩ := List.mem_iff_getElem.1 hx
      exact (m6 hz).1 j _ (by omega) (List.getElem?_eq_getElem hj)
end Go.Proofs.Ytnmjhhipbfngkaa.Am
