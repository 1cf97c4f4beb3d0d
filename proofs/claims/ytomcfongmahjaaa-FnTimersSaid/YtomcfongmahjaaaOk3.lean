/- Timers that are right: both ask the same; the law of TimersOk.
Conditions: none. -/
import Derived.Test.YtomcfongmahjaaaOk2
import Derived.Test.YtomcfongmahjaaaTi
set_option linter.unusedSimpArgs false
set_option linter.unusedVariables false
namespace Go.Proofs.Ytomcfongmahjaaa.Am
open Go Go.RowKit

def tmOk (f : Nat) (x : Sd) : Bool := inB x.kind 0 1000000000 && (inB x.pid 1 99999 && tOk f x.t)
/-- A timer's six cells, read. -/
theorem q6 {base t n : Nat} {h : AH} {kind pid k nn : Int} {s : ByteArray} {a : Option Addr} {m : Nat} (o : Own base t h (at0 n) (saidV kind pid k nn s a m)) {β : Type} {f : Int → Int → Int → Int → ByteArray → Option Addr × Nat → Option β} {z : Option β} (hf : f kind pid k nn s (a, m) = z) :
    (((Am.cell h n 0).bind (getI .i64)).bind fun n1 => ((Am.cell h n 1).bind (getI .i64)).bind fun n2 => ((Am.cell h n 2).bind (getI .i64)).bind fun n3 => ((Am.cell h n 3).bind (getI .i64)).bind fun n4 => ((Am.cell h n 4).bind getStr).bind fun s5 => ((Am.cell h n 5).bind getS).bind fun l6 => f n1 n2 n3 n4 s5 l6) = z :=
  bI (o.at0 (i := 0) rfl) (bI (o.at0 (i := 1) rfl) (bI (o.at0 (i := 2) rfl) (bI (o.at0 (i := 3) rfl) (bT (o.at0 (i := 4) rfl) (bS (o.at0 (i := 5) rfl) hf)))))
theorem timerOk_run {base f : Nat} {h : AH} {p : Nat → Prop} {k n : Int} {s : ByteArray} {a : Option Addr} {m : Nat} {x : Sd} (hm : TmR h p f x.t (termV k n s a m)) (hb : base ≤ h.length) :
    ∃ h', run (Et base) 23 [.agg (saidV x.kind x.pid k n s a m).toArray] h = some (.bool (tmOk f x), h') ∧ KB NoB h h' := by
  obtain ⟨o1, k1, q1⟩ := box_own (base := base) (t := 29) (h := h) (cs := saidV x.kind x.pid k n s a m) hb rfl
  generalize hh1 : h ++ [some (⟨saidV x.kind x.pid k n s a m, 29⟩ : Blk)] = h1' at o1 k1 q1
  obtain ⟨h2, e2, k2⟩ := implTermOk_run (base := base) (TmR.keep k1 (fun _ _ h => h) _ _ _ hm) (by omega)
  have k02 : KB NoB h h2 := KB.trans k1 k2 (fun _ _ h => h) (fun _ _ h => h)
  have start : ∀ r, (if inB x.kind 0 1000000000 = true then (if inB x.pid 1 99999 = true then some (Value.bool (tOk f x.t), h2) else some (Value.bool false, h1')) else some (Value.bool false, h1')) = some r → run (Et base) 23 [.agg (saidV x.kind x.pid k n s a m).toArray] h = some r := by
    intro r hr
    refine r23 (lets fun h1'' eh => ?_)
    rw [hh1] at eh
    subst eh
    refine bI (o1.at0 (i := 0) rfl) (bs in_run (bB rfl ?_))
    by_cases c1 : inB x.kind 0 1000000000 = true
    · rw [if_pos c1] at hr ⊢
      refine bI (o1.at0 (i := 1) rfl) (bs in_run (bB rfl ?_))
      by_cases c2 : inB x.pid 1 99999 = true
      · rw [if_pos c2] at hr ⊢
        exact bI (o1.at0 (i := 2) rfl) (bI (o1.at0 (i := 3) rfl) (bT (o1.at0 (i := 4) rfl) (bS (o1.at0 (i := 5) rfl) (bs e2 (bB rfl hr)))))
      · rw [if_neg c2] at hr ⊢
        exact hr
    · rw [if_neg c1] at hr ⊢
      exact hr
  unfold tmOk
  cases c1 : inB x.kind 0 1000000000 with
  | false => exact ⟨h1', start _ (ifF (by simp [c1]) rfl), k1⟩
  | true =>
    cases c2 : inB x.pid 1 99999 with
    | false => exact ⟨h1', start _ (ifT c1 (ifF (by simp [c2]) rfl)), k1⟩
    | true => exact ⟨h2, start _ (ifT c1 (ifT c2 rfl)), k02⟩
theorem l14Timer_run {base f : Nat} {h : AH} {p : Nat → Prop} {k n : Int} {s : ByteArray} {a : Option Addr} {m : Nat} {x : Sd} (hm : TmR h p f x.t (termV k n s a m)) (hb : base ≤ h.length) :
    ∃ h', run (Et base) 28 [.agg (saidV x.kind x.pid k n s a m).toArray] h = some (.bool (tmOk f x), h') ∧ KB NoB h h' := by
  obtain ⟨o1, k1, q1⟩ := box_own (base := base) (t := 29) (h := h) (cs := saidV x.kind x.pid k n s a m) hb rfl
  generalize hh1 : h ++ [some (⟨saidV x.kind x.pid k n s a m, 29⟩ : Blk)] = h1' at o1 k1 q1
  obtain ⟨h2, e2, k2⟩ := specTermOk_run (base := base) (TmR.keep k1 (fun _ _ h => h) _ _ _ hm) (by omega)
  have k02 : KB NoB h h2 := KB.trans k1 k2 (fun _ _ h => h) (fun _ _ h => h)
  have start : ∀ r, (if inB x.kind 0 1000000000 = true then (if inB x.pid 1 99999 = true then some (Value.bool (tOk f x.t), h2) else some (Value.bool false, h1')) else some (Value.bool false, h1')) = some r → run (Et base) 28 [.agg (saidV x.kind x.pid k n s a m).toArray] h = some r := by
    intro r hr
    refine r28 (lets fun h1'' eh => ?_)
    rw [hh1] at eh
    subst eh
    refine bI (o1.at0 (i := 0) rfl) (bs l1In_run (bB rfl ?_))
    by_cases c1 : inB x.kind 0 1000000000 = true
    · rw [if_pos c1] at hr ⊢
      refine bI (o1.at0 (i := 1) rfl) (bs l1In_run (bB rfl ?_))
      by_cases c2 : inB x.pid 1 99999 = true
      · rw [if_pos c2] at hr ⊢
        exact bI (o1.at0 (i := 2) rfl) (bI (o1.at0 (i := 3) rfl) (bT (o1.at0 (i := 4) rfl) (bS (o1.at0 (i := 5) rfl) (bs e2 (bB rfl hr)))))
      · rw [if_neg c2] at hr ⊢
        exact hr
    · rw [if_neg c1] at hr ⊢
      exact hr
  unfold tmOk
  cases c1 : inB x.kind 0 1000000000 with
  | false => exact ⟨h1', start _ (ifF (by simp [c1]) rfl), k1⟩
  | true =>
    cases c2 : inB x.pid 1 99999 with
    | false => exact ⟨h1', start _ (ifT c1 (ifF (by simp [c2]) rfl)), k1⟩
    | true => exact ⟨h2, start _ (ifT c1 (ifT c2 rfl)), k02⟩

def d0 : Sd := ⟨0, 0, .mk 0 0 ⟨#[]⟩ []⟩
def badT (f : Nat) (l : List Sd) (i : Nat) : Bool := !tmOk f (l.getD i d0) || (decide (((i : Nat) : Int) > (0 : Int)) && decide ((l.getD (i - 1) d0).kind > (l.getD i d0).kind))
def anyBadT (f : Nat) (l : List Sd) : Nat → Nat → Bool
  | 0, _ => false
  | d + 1, i => badT f l i || anyBadT f l d (i + 1)
def tsOk (f : Nat) (l : List Sd) : Bool := !anyBadT f l l.length 0 && decide (((l.length : Nat) : Int) ≤ (50 : Int))
theorem gD {l : List Sd} {i : Nat} (hi : i < l.length) : l.getD i d0 = l[i] := by simp [hi]

theorem implTimers_loop {base f : Nat} {p : Nat → Prop} {l : List Sd} {a : Option Addr} (hl : l.length ≤ 9223372036854775807) : ∀ (d i : Nat) (h : AH), i + d = l.length → SsR h p f l a → base ≤ h.length →
    ∃ h', loopL (B10_0 base) [some (.slice a l.length l.length), some (.slice a l.length l.length), some (.int .i64 (l.length : Int)), some (.int .i64 (i : Int))] h = (if anyBadT f l d i = true then some (1, [some (.bool false)], h') else some (2, [some (.slice a l.length l.length)], h')) ∧ KB NoB h h' := by
  intro d
  induction d with
  | zero =>
    intro i h hi hs hb
    refine ⟨h, ?_, KB.refl _ _⟩
    rw [anyBadT, if_neg (by decide)]
    refine loop_off (by decide) ?_
    rw [B10_0_eq]
    exact ifF (by simp; omega) rfl
  | succ d ihd =>
    intro i h hi hs hb
    have hlt : i < l.length := by omega
    obtain ⟨ad, k, n, s, a2, m, rfl, hbl, g0, g1, g2, g3, g4, g5, hm⟩ := hs.get hlt
    obtain ⟨o1, k1, q1⟩ := box_own (base := base) (t := 29) (h := h) (cs := saidV l[i].kind l[i].pid k n s a2 m) hb rfl
    generalize hh1 : h ++ [some (⟨saidV l[i].kind l[i].pid k n s a2 m, 29⟩ : Blk)] = h1' at o1 k1 q1
    obtain ⟨h2, e2, k2⟩ := timerOk_run (base := base) (x := l[i]) (TmR.keep k1 (fun _ _ h => h) _ _ _ hm) (by omega)
    have k02 : KB NoB h h2 := KB.trans k1 k2 (fun _ _ h => h) (fun _ _ h => h)
    have o2 := o1.keepN k2
    have n2 := k02.1
    have step : ∀ r, (if badT f l i = true then some (1, [some (.bool false)], h2) else some (0, [some (.slice (some ad) l.length l.length), some (.slice (some ad) l.length l.length), some (.int .i64 (l.length : Int)), some (.int .i64 ((i + 1 : Nat) : Int))], h2)) = some r → B10_0 base [some (.slice (some ad) l.length l.length), some (.slice (some ad) l.length l.length), some (.int .i64 (l.length : Int)), some (.int .i64 (i : Int))] h = some r := by
      intro r hr
      rw [B10_0_eq]
      refine ifT (decide_eq_true (by omega)) (ifT ⟨by omega, by omega⟩ (bs rfl ?_))
      simp only [Int.toNat_natCast]
      refine bI g0 (bI g1 (bI g2 (bI g3 (bT g4 (bS g5 (nw hb rfl fun y ey => ?_))))))
      rw [hh1] at ey
      subst ey
      refine bj (q := ([some (.slice (some ad) l.length l.length), some (.slice (some ad) l.length l.length), some (.int .i64 (l.length : Int)), some (.int .i64 (i : Int)), some (.bool (badT f l i))], h2)) ?_ ?_
      · refine q6 o1 (bs e2 (bB rfl ?_))
        unfold badT
        rw [gD hlt]
        cases c : tmOk f l[i] with
        | false => exact ifT rfl (by simp)
        | true =>
          refine ifF (by decide) ?_
          by_cases c0 : ((i : Nat) : Int) > 0
          · refine ifT (decide_eq_true c0) ?_
            have hlt1 : i - 1 < l.length := by omega
            rw [w64i (by omega) (by omega), show (i : Int) - 1 = ((i - 1 : Nat) : Int) from by omega]
            refine ifT ⟨by omega, by omega⟩ (bs rfl ?_)
            simp only [Int.toNat_natCast]
            obtain ⟨ad', k', n', s', a2', m', ead, _, g0', _⟩ := (hs.keep k02 fun _ _ h => h).get hlt1
            injection ead with ead
            subst ead
            rw [gD hlt1]
            exact bI g0' (bI (o2.at0 (i := 0) rfl) (by first | (rw [decide_eq_true c0]; simp) | (rw [decide_eq_false c0]; simp)))
          · exact ifF (by simpa using c0) (by first | (rw [decide_eq_true c0]; simp) | (rw [decide_eq_false c0]; simp))
      · refine bS rfl (bS rfl (bI rfl (bI rfl (bB rfl ?_))))
        rw [w64i (by omega) (by omega), show ((i : Int) + 1) = ((i + 1 : Nat) : Int) from by omega]
        exact hr
    rw [anyBadT]
    cases c : badT f l i with
    | true =>
      refine ⟨h2, ?_, k02⟩
      rw [Bool.true_or, if_pos rfl]
      exact loop_off (by decide) (step _ (ifT c rfl))
    | false =>
      obtain ⟨h3, e3, k3⟩ := ihd (i + 1) h2 (by omega) (hs.keep k02 fun _ _ h => h) (by omega)
      refine ⟨h3, ?_, KB.trans k02 k3 (fun _ _ h => h) (fun _ _ h => h)⟩
      rw [Bool.false_or]
      exact loop_on (step _ (ifF (by simp [c]) rfl)) e3
theorem implTimersOk_run {base f : Nat} {h : AH} {p : Nat → Prop} {l : List Sd} {a : Option Addr} (hl : l.length ≤ 9223372036854775807) (hs : SsR h p f l a) (hb : base ≤ h.length) :
    ∃ h', run (Et base) 10 [.slice a l.length l.length] h = some (.bool (tsOk f l), h') ∧ KB NoB h h' := by
  obtain ⟨h', e, k⟩ := implTimers_loop (base := base) hl l.length 0 h (by omega) hs hb
  rw [show ((0 : Nat) : Int) = 0 from rfl] at e
  refine ⟨h', r10 ?_, k⟩
  unfold tsOk
  cases c : anyBadT f l l.length 0 with
  | true => rw [c, if_pos rfl] at e; exact bs e (ifT rfl (bB rfl rfl))
  | false => rw [c, if_neg (by decide)] at e; exact bs e (ifF (by simp) (ifT rfl (bS rfl (by simp))))

theorem specTimers_loop {base f : Nat} {p : Nat → Prop} {l : List Sd} {a : Option Addr} (hl : l.length ≤ 9223372036854775807) : ∀ (d i : Nat) (h : AH), i + d = l.length → SsR h p f l a → base ≤ h.length →
    ∃ h', loopL (B27_0 base) [some (.slice a l.length l.length), some (.int .i64 (i : Int))] h = (if anyBadT f l d i = true then some (1, [some (.bool false)], h') else some (2, [some (.slice a l.length l.length)], h')) ∧ KB NoB h h' := by
  intro d
  induction d with
  | zero =>
    intro i h hi hs hb
    refine ⟨h, ?_, KB.refl _ _⟩
    rw [anyBadT, if_neg (by decide)]
    refine loop_off (by decide) ?_
    rw [B27_0_eq]
    exact ifF (by simp; omega) rfl
  | succ d ihd =>
    intro i h hi hs hb
    have hlt : i < l.length := by omega
    obtain ⟨ad, k, n, s, a2, m, rfl, hbl, g0, g1, g2, g3, g4, g5, hm⟩ := hs.get hlt
    obtain ⟨h2, e2, k02⟩ := l14Timer_run (base := base) (x := l[i]) hm (by omega)
    have n2 := k02.1
    have step : ∀ r, (if badT f l i = true then some (1, [some (.bool false)], h2) else some (0, [some (.slice (some ad) l.length l.length), some (.int .i64 ((i + 1 : Nat) : Int))], h2)) = some r → B27_0 base [some (.slice (some ad) l.length l.length), some (.int .i64 (i : Int))] h = some r := by
      intro r hr
      rw [B27_0_eq]
      refine ifT (decide_eq_true (by omega)) ?_
      refine bj (q := ([some (.slice (some ad) l.length l.length), some (.int .i64 (i : Int)), some (.bool (badT f l i))], h2)) ?_ ?_
      · refine ifT ⟨by omega, by omega⟩ (bs rfl ?_)
        simp only [Int.toNat_natCast]
        refine bI g0 (bI g1 (bI g2 (bI g3 (bT g4 (bS g5 ?_)))))
        refine bs e2 (bB rfl ?_)
        unfold badT
        rw [gD hlt]
        cases c : tmOk f l[i] with
        | false => exact ifT rfl (by simp)
        | true =>
          refine ifF (by decide) ?_
          by_cases c0 : ((i : Nat) : Int) > 0
          · refine ifT (decide_eq_true c0) ?_
            have hlt1 : i - 1 < l.length := by omega
            rw [w64i (by omega) (by omega), show (i : Int) - 1 = ((i - 1 : Nat) : Int) from by omega]
            refine ifT ⟨by omega, by omega⟩ (bs rfl ?_)
            simp only [Int.toNat_natCast]
            obtain ⟨ad', k', n', s', a2', m', ead, _, g0', _⟩ := (hs.keep k02 fun _ _ h => h).get hlt1
            injection ead with ead
            subst ead
            obtain ⟨ad', k', n', s', a2', m', ead, _, g0'', _⟩ := (hs.keep k02 fun _ _ h => h).get hlt
            injection ead with ead
            subst ead
            rw [gD hlt1]
            exact bI g0' (ifT ⟨by omega, by omega⟩ (bs rfl (bI g0'' (by first | (rw [decide_eq_true c0]; simp) | (rw [decide_eq_false c0]; simp)))))
          · exact ifF (by simpa using c0) (by first | (rw [decide_eq_true c0]; simp) | (rw [decide_eq_false c0]; simp))
      · refine bS rfl (bI rfl (bB rfl ?_))
        rw [w64i (by omega) (by omega), show ((i : Int) + 1) = ((i + 1 : Nat) : Int) from by omega]
        exact hr
    rw [anyBadT]
    cases c : badT f l i with
    | true =>
      refine ⟨h2, ?_, k02⟩
      rw [Bool.true_or, if_pos rfl]
      exact loop_off (by decide) (step _ (ifT c rfl))
    | false =>
      obtain ⟨h3, e3, k3⟩ := ihd (i + 1) h2 (by omega) (hs.keep k02 fun _ _ h => h) (by omega)
      refine ⟨h3, ?_, KB.trans k02 k3 (fun _ _ h => h) (fun _ _ h => h)⟩
      rw [Bool.false_or]
      exact loop_on (step _ (ifF (by simp [c]) rfl)) e3
theorem specTimersOk_run {base f : Nat} {h : AH} {p : Nat → Prop} {l : List Sd} {a : Option Addr} (hl : l.length ≤ 9223372036854775807) (hs : SsR h p f l a) (hb : base ≤ h.length) :
    ∃ h', run (Et base) 27 [.slice a l.length l.length] h = some (.bool (tsOk f l), h') ∧ KB NoB h h' := by
  obtain ⟨h', e, k⟩ := specTimers_loop (base := base) hl l.length 0 h (by omega) hs hb
  rw [show ((0 : Nat) : Int) = 0 from rfl] at e
  refine ⟨h', r27 ?_, k⟩
  unfold tsOk
  cases c : anyBadT f l l.length 0 with
  | true => rw [c, if_pos rfl] at e; exact bs e (ifT rfl (bB rfl rfl))
  | false => rw [c, if_neg (by decide)] at e; exact bs e (ifF (by simp) (ifT rfl (bS rfl (by simp))))

theorem anyBadT_false {f : Nat} {l : List Sd} : ∀ (d i : Nat), anyBadT f l d i = false ↔ ∀ j, i ≤ j → j < i + d → badT f l j = false
  | 0, i => ⟨fun _ j h1 h2 => by omega, fun _ => rfl⟩
  | d + 1, i => by
    rw [anyBadT, Bool.or_eq_false_iff, anyBadT_false d (i + 1)]
    constructor
    · rintro ⟨h1, h2⟩ j hj hj2
      by_cases e : j = i
      · subst e; exact h1
      · exact h2 j (by omega) (by omega)
    · intro h
      exact ⟨h i (Nat.le_refl _) (by omega), fun j hj hj2 => h j (by omega) (by omega)⟩
theorem badT_false {f : Nat} {l : List Sd} {j : Nat} (hj : j < l.length) : badT f l j = false ↔ tmOk f l[j] = true ∧ ∀ (h : 0 < j), (l[j - 1]'(by omega)).kind ≤ l[j].kind := by
  unfold badT
  rw [gD hj]
  by_cases h0 : 0 < j
  · have hj1 : j - 1 < l.length := by omega
    rw [gD hj1]
    simp [h0]
  · have : j = 0 := by omega
    subst this
    simp
theorem tsOk_iff {f : Nat} {l : List Sd} : tsOk f l = true ↔ (∀ x ∈ l, tmOk f x = true) ∧ l.Pairwise (fun a b => a.kind ≤ b.kind) ∧ l.length ≤ 50 := by
  unfold tsOk
  rw [Bool.and_eq_true, Bool.not_eq_true', anyBadT_false, decide_eq_true_eq]
  constructor
  · rintro ⟨h1, h2⟩
    have hb : ∀ j (hj : j < l.length), tmOk f l[j] = true ∧ ∀ (h : 0 < j), (l[j - 1]'(by omega)).kind ≤ l[j].kind := fun j hj => (badT_false hj).1 (h1 j (by omega) (by omega))
    refine ⟨fun x hx => ?_, ?_, by omega⟩
    · obtain ⟨j, hj, rfl⟩ := List.mem_iff_getElem.1 hx
      exact (hb j hj).1
    · rw [List.pairwise_iff_getElem]
      have key : ∀ d i (hi : i + d < l.length), (l[i]'(by omega)).kind ≤ (l[i + d]'hi).kind := by
        intro d
        induction d with
        | zero => intro i hi; exact Int.le_refl _
        | succ d ih =>
          intro i hi
          have a := ih i (by omega)
          have b := (hb (i + (d + 1)) hi).2 (by omega)
          exact Int.le_trans a b
      intro i j hi hj hij
      have := key (j - i) i (by omega)
      simpa [show i + (j - i) = j from by omega] using this
  · rintro ⟨h1, h2, h3⟩
    refine ⟨fun j _ hj => (badT_false (by omega)).2 ⟨h1 _ (List.getElem_mem (by omega)), fun h0 => ?_⟩, by omega⟩
    rw [List.pairwise_iff_getElem] at h2
    exact h2 (j - 1) j (by omega) (by omega) (by omega)
end Go.Proofs.Ytomcfongmahjaaa.Am
