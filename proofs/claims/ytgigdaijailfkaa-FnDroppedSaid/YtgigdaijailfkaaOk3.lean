/- Timers that are right: both ask the same; the law of TimersOk.
Conditions: none. -/
import Derived.Test.YtgigdaijailfkaaOk2
set_option linter.unusedSimpArgs false
set_option linter.unusedVariables false
namespace Go.Proofs.Ytgigdaijailfkaa.Am
open Go Go.RowKit

def tmOk (f : Nat) (x : Sd) : Bool := inB x.kind 0 1000000000 && (inB x.pid 1 99999 && tOk f x.t)
/-- A timer's six cells, read. -/
theorem q6 {base t n : Nat} {h : AH} {kind pid k nn : Int} {s : ByteArray} {a : Option Addr} {m : Nat} (o : Own base t h (at0 n) (saidV kind pid k nn s a m)) {β : Type} {f : Int → Int → Int → Int → ByteArray → Option Addr × Nat → Option β} {z : Option β} (hf : f kind pid k nn s (a, m) = z) :
    (((Am.cell h n 0).bind (getI .i64)).bind fun n1 => ((Am.cell h n 1).bind (getI .i64)).bind fun n2 => ((Am.cell h n 2).bind (getI .i64)).bind fun n3 => ((Am.cell h n 3).bind (getI .i64)).bind fun n4 => ((Am.cell h n 4).bind getStr).bind fun s5 => ((Am.cell h n 5).bind getS).bind fun l6 => f n1 n2 n3 n4 s5 l6) = z :=
  bI (o.at0 (i := 0) rfl) (bI (o.at0 (i := 1) rfl) (bI (o.at0 (i := 2) rfl) (bI (o.at0 (i := 3) rfl) (bT (o.at0 (i := 4) rfl) (bS (o.at0 (i := 5) rfl) hf)))))
theorem timerOk_run {base f : Nat} {h : AH} {p : Nat → Prop} {k n : Int} {s : ByteArray} {a : Option Addr} {m : Nat} {x : Sd} (hm : TmR h p f x.t (termV k n s a m)) (hb : base ≤ h.length) :
    ∃ h', run (Et base) 81 [.agg (saidV x.kind x.pid k n s a m).toArray] h = some (.bool (tmOk f x), h') ∧ KB NoB h h' := by
  obtain ⟨o1, k1, q1⟩ := box_own (base := base) (t := 70) (h := h) (cs := saidV x.kind x.pid k n s a m) hb rfl
  generalize hh1 : h ++ [some (⟨saidV x.kind x.pid k n s a m, 70⟩ : Blk)] = h1' at o1 k1 q1
  obtain ⟨h2, e2, k2⟩ := implTermOk_run (base := base) (TmR.keep k1 (fun _ _ h => h) _ _ _ hm) (by omega)
  have k02 : KB NoB h h2 := KB.trans k1 k2 (fun _ _ h => h) (fun _ _ h => h)
  have start : ∀ r, (if inB x.kind 0 1000000000 = true then (if inB x.pid 1 99999 = true then some (Value.bool (tOk f x.t), h2) else some (Value.bool false, h1')) else some (Value.bool false, h1')) = some r → run (Et base) 81 [.agg (saidV x.kind x.pid k n s a m).toArray] h = some r := by
    intro r hr
    refine r81 (lets fun h1'' eh => ?_)
    rw [hh1] at eh
    subst eh
    refine bI (o1.at0 (i := 0) rfl) (bs in_run (bB rfl ?_))
    by_cases c1 : inB x.kind 0 1000000000 = true
    · rw [if_pos c1] at hr ⊢
      refine bI (o1.at0 (i := 1) rfl) (bs in_run (bB rfl ?_))
      by_cases c2 : inB x.pid 1 99999 = true
      · rw [if_pos c2] at hr ⊢
        exact bI (o1.at0 (i := 2) rfl) (bI (o1.at0 (i := 3) rfl) (bT (o1.at0 (i := 4) rfl) (bS (o1.at0 (i := 5) rfl) (bs e2 (bB rfl hr)))))
      · rw [if_neg c2] at hr ⊢
        exact hr
    · rw [if_neg c1] at hr ⊢
      exact hr
  unfold tmOk
  cases c1 : inB x.kind 0 1000000000 with
  | false => exact ⟨h1', start _ (ifF (by simp [c1]) rfl), k1⟩
  | true =>
    cases c2 : inB x.pid 1 99999 with
    | false => exact ⟨h1', start _ (ifT c1 (ifF (by simp [c2]) rfl)), k1⟩
    | true => exact ⟨h2, start _ (ifT c1 (ifT c2 rfl)), k02⟩
theorem l14Timer_run {base f : Nat} {h : AH} {p : Nat → Prop} {k n : Int} {s : ByteArray} {a : Option Addr} {m : Nat} {x : Sd} (hm : TmR h p f x.t (termV k n s a m)) (hb : base ≤ h.length) :
    ∃ h', run (Et base) 79 [.agg (saidV x.kind x.pid k n s a m).toArray] h = some (.bool (tmOk f x), h') ∧ KB NoB h h' := by
  obtain ⟨o1, k1, q1⟩ := box_own (base := base) (t := 70) (h := h) (cs := saidV x.kind x.pid k n s a m) hb rfl
  generalize hh1 : h ++ [some (⟨saidV x.kind x.pid k n s a m, 70⟩ : Blk)] = h1' at o1 k1 q1
  obtain ⟨h2, e2, k2⟩ := specTermOk_run (base := base) (TmR.keep k1 (fun _ _ h => h) _ _ _ hm) (by omega)
  have k02 : KB NoB h h2 := KB.trans k1 k2 (fun _ _ h => h) (fun _ _ h => h)
  have start : ∀ r, (if inB x.kind 0 1000000000 = true then (if inB x.pid 1 99999 = true then some (Value.bool (tOk f x.t), h2) else some (Value.bool false, h1')) else some (Value.bool false, h1')) = some r → run (Et base) 79 [.agg (saidV x.kind x.pid k n s a m).toArray] h = some r := by
    intro r hr
    refine r79 (lets fun h1'' eh => ?_)
    rw [hh1] at eh
    subst eh
    refine bI (o1.at0 (i := 0) rfl) (bs l1In_run (bB rfl ?_))
    by_cases c1 : inB x.kind 0 1000000000 = true
    · rw [if_pos c1] at hr ⊢
      refine bI (o1.at0 (i := 1) rfl) (bs l1In_run (bB rfl ?_))
      by_cases c2 : inB x.pid 1 99999 = true
      · rw [if_pos c2] at hr ⊢
        exact bI (o1.at0 (i := 2) rfl) (bI (o1.at0 (i := 3) rfl) (bT (o1.at0 (i := 4) rfl) (bS (o1.at0 (i := 5) rfl) (bs e2 (bB rfl hr)))))
      · rw [if_neg c2] at hr ⊢
        exact hr
    · rw [if_neg c1] at hr ⊢
      exact hr
  unfold tmOk
  cases c1 : inB x.kind 0 1000000000 with
  | false => exact ⟨h1', start _ (ifF (by simp [c1]) rfl), k1⟩
  | true =>
    cases c2 : inB x.pid 1 99999 with
    | false => exact ⟨h1', start _ (ifT c1 (ifF (by simp [c2]) rfl)), k1⟩
    | true => exact ⟨h2, start _ (ifT c1 (ifT c2 rfl)), k02⟩

def d0 : Sd := ⟨0, 0, .mk 0 0 ⟨#[]⟩ []⟩
def badT (f : Nat) (l : List Sd) (i : Nat) : Bool := !tmOk f (l.getD i d0) || (decide (((i : Nat) : Int) > (0 : Int)) && decide ((l.getD (i - 1) d0).kind > (l.getD i d0).kind))
def anyBadT (f : Nat) (l : List Sd) : Nat → Nat → Bool
  | 0, _ => false
  | d + 1, i => badT f l i || anyBadT f l d (i + 1)
def tsOk (f : Nat) (l : List Sd) : Bool := !anyBadT f l l.length 0 && decide (((l.length : Nat) : Int) ≤ (50 : Int))
theorem gD {l : List Sd} {i : Nat} (hi : i < l.length) : l.getD i d0 = l[i] := by simp [hi]

theorem implTimers_loop {base f : Nat} {p : Nat → Prop} {l : List Sd} {a : Option Addr} (hl : l.length ≤ 9223372036854775807) : ∀ (d i : Nat) (h : AH), i + d = l.length → SsR h p f l a → base ≤ h.length →
    ∃ h', loopL (B45_0 base) [some (.slice a l.length l.length), some (.slice a l.length l.length), some (.int .i64 (l.length : Int)), some (.int .i64 (i : Int))] h = (if anyBadT f l d i = true then some (1, [some (.bool false)], h') else some (2, [some (.slice a l.length l.length)], h')) ∧ KB NoB h h' := by
  intro d
  induction d with
  | zero =>
    intro i h hi hs hb
    refine ⟨h, ?_, KB.refl _ _⟩
    rw [anyBadT, if_neg (by decide)]
    refine loop_off (by decide) ?_
    rw [B45_0_eq]
    exact ifF (by simp; omega) rfl
  | succ d ihd =>
    intro i h hi hs hb
    have hlt : i < l.length := by omega
    obtain ⟨ad, k, n, s, a2, m, rfl, hbl, g0, g1, g2, g3, g4, g5, hm⟩ := hs.get hlt
    obtain ⟨o1, k1, q1⟩ := box_own (base := base) (t := 70) (h := h) (cs := saidV l[i].kind l[i].pid k n s a2 m) hb rfl
    generalize hh1 : h ++ [some (⟨saidV l[i].kind l[i].pid k n s a2 m, 70⟩ : Blk)] = h1' at o1 k1 q1
    obtain ⟨h2, e2, k2⟩ := timerOk_run (base := base) (x := l[i]) (TmR.keep k1 (fun _ _ h => h) _ _ _ hm) (by omega)
    have k02 : KB NoB h h2 := KB.trans k1 k2 (fun _ _ h => h) (fun _ _ h => h)
    have o2 := o1.keepN k2
    have n2 := k02.1
    have step : ∀ r, (if badT f l i = true then some (1, [some (.bool false)], h2) else some (0, [some (.slice (some ad) l.length l.length), some (.slice (some ad) l.length l.length), some (.int .i64 (l.length : Int)), some (.int .i64 ((i + 1 : Nat) : Int))], h2)) = some r → B45_0 base [some (.slice (some ad) l.length l.length), some (.slice (some ad) l.length l.length), some (.int .i64 (l.length : Int)), some (.int .i64 (i : Int))] h = some r := by
      intro r hr
      rw [B45_0_eq]
      refine ifT (decide_eq_true (by omega)) (ifT ⟨by omega, by omega⟩ (bs rfl ?_))
      simp only [Int.toNat_natCast]
      refine bI g0 (bI g1 (bI g2 (bI g3 (bT g4 (bS g5 (nw hb rfl fun y ey => ?_))))))
      rw [hh1] at ey
      subst ey
      refine bj (q := ([some (.slice (some ad) l.length l.length), some (.slice (some ad) l.length l.length), some (.int .i64 (l.length : Int)), some (.int .i64 (i : Int)), some (.bool (badT f l i))], h2)) ?_ ?_
      · refine q6 o1 (bs e2 (bB rfl ?_))
        unfold badT
        rw [gD hlt]
        cases c : tmOk f l[i] with
        | false => exact ifT rfl (by simp)
        | true =>
          refine ifF (by decide) ?_
          by_cases c0 : ((i : Nat) : Int) > 0
          · refine ifT (decide_eq_true c0) ?_
            have hlt1 : i - 1 < l.length := by omega
            rw [w64i (by omega) (by omega), show (i : Int) - 1 = ((i - 1 : Nat) : Int) from by omega]
            refine ifT ⟨by omega, by omega⟩ (bs rfl ?_)
            simp only [Int.toNat_natCast]
            obtain ⟨ad', k', n', s', a2', m', ead, _, g0', _⟩ := (hs.keep k02 fun _ _ h => h).get hlt1
            injection ead with ead
            subst ead
            rw [gD hlt1]
            exact bI g0' (bI (o2.at0 (i := 0) rfl) (by first | (rw [decide_eq_true c0]; simp) | (rw [decide_eq_false c0]; simp)))
          · exact ifF (by simpa using c0) (by first | (rw [decide_eq_true c0]; simp) | (rw [decide_eq_false c0]; simp))
      · refine bS rfl (bS rfl (bI rfl (bI rfl (bB rfl ?_))))
        rw [w64i (by omega) (by omega), show ((i : Int) + 1) = ((i + 1 : Nat) : Int) from by omega]
        exact hr
    rw [anyBadT]
    cases c : badT f l i with
    | true =>
      refine ⟨h2, ?_, k02⟩
      rw [Bool.true_or, if_pos rfl]
      exact loop_off (by decide) (step _ (ifT c rfl))
    | false =>
      obtain ⟨h3, e3, k3⟩ := ihd (i + 1) h2 (by omega) (hs.keep k02 fun _ _ h => h) (by omega)
      refine ⟨h3, ?_, KB.trans k02 k3 (fun _ _ h => h) (fun _ _ h => h)⟩
      rw [Bool.false_or]
      exact loop_on (step _ (ifF (by simp [c]) rfl)) e3
theorem implTimersOk_run {base f : Nat} {h : AH} {p : Nat → Prop} {l : List Sd} {a : Option Addr} (hl : l.length ≤ 9223372036854775807) (hs : SsR h p f l a) (hb : base ≤ h.length) :
    ∃ h', run (Et base) 45 [.slice a l.length l.length] h = some (.bool (tsOk f l), h') ∧ KB NoB h h' := by
  obtain ⟨h', e, k⟩ := implTimers_loop (base := base) hl l.length 0 h (by omega) hs hb
  rw [show ((0 : Nat) : Int) = 0 from rfl] at e
  refine ⟨h', r45 ?_, k⟩
  unfold tsOk
  cases c : anyBadT f l l.length 0 with
  | true => rw [c, if_pos rfl] at e; exact bs e (ifT rfl (bB rfl rfl))
  | false => rw [c, if_neg (by decide)] at e; exact bs e (ifF (by simp) (ifT rfl (bS rfl (by simp))))

theorem specTimers_loop {base f : Nat} {p : Nat → Prop} {l : List Sd} {a : Option Addr} (hl : l.length ≤ 9223372036854775807) : ∀ (d i : Nat) (h : AH), i + d = l.length → SsR h p f l a → base ≤ h.length →
    ∃ h', loopL (B43_0 base) [some (.slice a l.length l.length), some (.int .i64 (i : Int))] h = (if anyBadT f l d i = true then some (1, [some (.bool false)], h') else some (2, [some (.slice a l.length l.length)], h')) ∧ KB NoB h h' := by
  intro d
  induction d with
  | zero =>
    intro i h hi hs hb
    refine ⟨h, ?_, KB.refl _ _⟩
    rw [anyBadT, if_neg (by decide)]
    refine loop_off (by decide) ?_
    rw [B43_0_eq]
    exact ifF (by simp; omega) rfl
  | succ d ihd =>
    intro i h hi hs hb
    have hlt : i < l.length := by omega
    obtain ⟨ad, k, n, s, a2, m, rfl, hbl, g0, g1, g2, g3, g4, g5, hm⟩ := hs.get hlt
    obtain ⟨h2, e2, k02⟩ := l14Timer_run (base := base) (x := l[i]) hm (by omega)
    have n2 := k02.1
    have step : ∀ r, (if badT f l i = true then some (1, [some (.bool false)], h2) else some (0, [some (.slice (some ad) l.length l.length), some (.int .i64 ((i + 1 : Nat) : Int))], h2)) = some r → B43_0 base [some (.slice (some ad) l.length l.length), some (.int .i64 (i : Int))] h = some r := by
      intro r hr
      rw [B43_0_eq]
      refine ifT (decide_eq_true (by omega)) ?_
      refine bj (q := ([some (.slice (some ad) l.length l.length), some (.int .i64 (i : Int)), some (.bool (badT f l i))], h2)) ?_ ?_
      · refine ifT ⟨by omega, by omega⟩ (bs rfl ?_)
        simp only [Int.toNat_natCast]
        refine bI g0 (bI g1 (bI g2 (bI g3 (bT g4 (bS g5 ?_)))))
        refine bs e2 (bB rfl ?_)
        unfold badT
        rw [gD hlt]
        cases c : tmOk f l[i] with
        | false => exact ifT rfl (by simp)
        | true =>
          refine ifF (by decide) ?_
          by_cases c0 : ((i : Nat) : Int) > 0
          · refine ifT (decide_eq_true c0) ?_
            have hlt1 : i - 1 < l.length := by omega
            rw [w64i (by omega) (by omega), show (i : Int) - 1 = ((i - 1 : Nat) : Int) from by omega]
            refine ifT ⟨by omega, by omega⟩ (bs rfl ?_)
            simp only [Int.toNat_natCast]
            obtain ⟨ad', k', n', s', a2', m', ead, _, g0', _⟩ := (hs.keep k02 fun _ _ h => h).get hlt1
            injection ead with ead
            subst ead
            obtain ⟨ad', k', n', s', a2', m', ead, _, g0'', _⟩ := (hs.keep k02 fun _ _ h => h).get hlt
            injection ead with ead
            subst ead
            rw [gD hlt1]
            exact bI g0' (ifT ⟨by omega, by omega⟩ (bs rfl (bI g0'' (by first | (rw [decide_eq_true c0]; simp) | (rw [decide_eq_false c0]; simp)))))
          · exact ifF (by simpa using c0) (by first | (rw [decide_eq_true c0]; simp) | (rw [decide_eq_false c0]; simp))
      · refine bS rfl (bI rfl (bB rfl ?_))
        rw [w64i (by omega) (by omega), show ((i : Int) + 1) = ((i + 1 : Nat) : Int) from by omega]
        exact hr
    rw [anyBadT]
    cases c : badT f l i with
    | true =>
      refine ⟨h2, ?_, k02⟩
      rw [Bool.true_or, if_pos rfl]
      exact loop_off (by decide) (step _ (ifT c rfl))
    | false =>
      obtain ⟨h3, e3, k3⟩ := ihd (i + 1) h2 (by omega) (hs.keep k02 fun _ _ h => h) (by omega)
      refine ⟨h3, ?_, KB.trans k02 k3 (fun _ _ h => h) (fun _ _ h => h)⟩
      rw [Bool.false_or]
      exact loop_on (step _ (ifF (by simp [c]) rfl)) e3
theorem specTimersOk_run {base f : Nat} {h : AH} {p : Nat → Prop} {l : List Sd} {a : Option Addr} (hl : l.length ≤ 9223372036854775807) (hs : SsR h p f l a) (hb : base ≤ h.length) :
    ∃ h', run (Et base) 43 [.slice a l.length l.length] h = some (.bool (tsOk f l), h') ∧ KB NoB h h' := by
  obtain ⟨h', e, k⟩ := specTimers_loop (base := base) hl l.length 0 h (by omega) hs hb
  rw [show ((0 : Nat) : Int) = 0 from rfl] at e
  refine ⟨h', r43 ?_, k⟩
  unfold tsOk
  cases c : anyBadT f l l.length 0 with
  | true => rw [c, if_pos rfl] at e; exact bs e (ifT rfl (bB rfl rfl))
  | false => rw [c, if_neg (by decide)] at e; exact bs e (ifF (by simp) (ifT rfl (bS rfl (by simp))))

theorem timersOk_law {base f : Nat} {h : AH} {p : Nat → Prop} {l : List Sd} {a : Option Addr} (hl : l.length ≤ 9223372036854775807) (hs : SsR h p f l a) (hb : base ≤ h.length) (hp : ∀ b, p b → b < h.length) :
    ∃ h', run (Et base) 9 [.slice a l.length l.length] h = some (.bool true, h') := by
  obtain ⟨z, h1, e1, k1, hz⟩ := szTimerS_run (base := base) hl hs hb hp
  have n1 := k1.1
  by_cases hneg : z < 0
  · exact ⟨h1, r9 (bs e1 (bI rfl (ifT (decide_eq_true hneg) rfl)))⟩
  obtain ⟨hlen, hB, hcnt⟩ := hz hneg
  have lt : ∀ {x : AH}, h.length ≤ x.length → ∀ b, p b → b < x.length := fun hx b hbp => by have := hp b hbp; omega
  obtain ⟨a3, h3, e3, s3, k3⟩ := toTimerS_run (base := base) hlen hB (hs.keep k1 fun _ _ h => h) (by omega) (lt n1)
  have n3 := k3.1
  obtain ⟨h5, e5, k5⟩ := specTimersOk_run (base := base) (by omega) s3 (by omega)
  have n5 := k5.1
  have k05 : KB NoB h h5 := KB.trans (KB.trans k1 k3 (fun _ _ h => h) (fun _ _ h => h)) k5 (fun _ _ h => h) (fun _ _ h => h)
  obtain ⟨a7, h7, e7, s7, k7⟩ := toTimerS_run (base := base) hlen hB (hs.keep k05 fun _ _ h => h) (by omega) (lt k05.1)
  have n7 := k7.1
  obtain ⟨h9, e9, k9⟩ := implTimersOk_run (base := base) (by omega) s7 (by omega)
  have n9 := k9.1
  have k09 : KB NoB h h9 := KB.trans (KB.trans k05 k7 (fun _ _ h => h) (fun _ _ h => h)) k9 (fun _ _ h => h) (fun _ _ h => h)
  obtain ⟨a11, h11, e11, s11, k11⟩ := toTimerS_run (base := base) hlen hB (hs.keep k09 fun _ _ h => h) (by omega) (lt k09.1)
  have n11 := k11.1
  obtain ⟨h13, e13, k13⟩ := eqTimerS_run (base := base) (by omega) ((s7.keep k9 fun _ _ h => h).keep k11 fun _ _ h => h) s11 (by omega)
  refine ⟨h13, r9 (bs e1 (bI rfl (ifF (by simpa using hneg) ?_)))⟩
  refine bs e3 (bS rfl (bs e5 (bB rfl (bs e7 (bS rfl (bs e9 (bB rfl (ifF (by simp) ?_))))))))
  exact bs e11 (bS rfl (bs e13 (bB rfl (ifF (by decide) rfl))))
theorem timersOk_entry {base : Nat} {h : AH} {f : Nat} {v : Value} (x : Rd Try.prog h f 58 [v]) (hb : base ≤ h.length) : ∃ h', run (Et base) 9 [v] h = some (.bool true, h') := by
  obtain ⟨g, a, l, rfl, hl, hs⟩ := rd_timers x
  simp only [maxLen] at hl
  exact timersOk_law (by omega) hs hb fun b hb => hb
end Go.Proofs.Ytgigdaijailfkaa.Am
