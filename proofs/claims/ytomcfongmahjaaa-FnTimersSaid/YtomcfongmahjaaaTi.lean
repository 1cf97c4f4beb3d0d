/- Rows of timers: counted, the same read twice, copies (a timer lies as what is said does: two numbers and a term).
Conditions: none. -/
import Derived.Test.YtomcfongmahjaaaSd0
import Derived.Test.YtomcfongmahjaaaEnT
import Derived.Test.YtomcfongmahjaaaEq1
import Derived.Test.YtomcfongmahjaaaEq2
import Derived.Test.YtomcfongmahjaaaEq3
import Derived.Test.YtomcfongmahjaaaEq4
set_option linter.unusedSimpArgs false
set_option linter.unusedVariables false
namespace Go.Proofs.Ytomcfongmahjaaa.Am
open Go Go.RowKit

theorem szTimer_run {base f : Nat} {h : AH} {p : Nat → Prop} {kind pid k n : Int} {s : ByteArray} {a : Option Addr} {m : Nat} {t : Tm} {left : Int} (hm : TmR h p f t (termV k n s a m)) (hb : base ≤ h.length) (hp : ∀ b, p b → b < h.length) (h0 : 0 ≤ left) (h1 : left ≤ 1048576) :
    ∃ z h', run (Et base) 12 [.agg (saidV kind pid k n s a m).toArray, .int .i64 left] h = some (.int .i64 z, h') ∧ KB NoB h h' ∧ z ≤ left ∧ -1 ≤ z ∧ (¬ z < 0 → TmB f t ∧ z + (tcnt f t : Int) ≤ left) := by
  obtain ⟨o1, k1, q1⟩ := box_own (base := base) (t := 41) (h := h) (cs := saidV kind pid k n s a m) hb rfl
  generalize hh1 : h ++ [some (⟨saidV kind pid k n s a m, 41⟩ : Blk)] = h1' at o1 k1 q1
  obtain ⟨z, h2, e, k2, z1, z2, z3⟩ := szTerm_run (base := base) f h1' p t _ left (TmR.keep k1 (fun _ _ h => h) _ _ _ hm) (by omega) (fun b hbp => by have := hp b hbp; omega) h0 h1
  have kk : KB NoB h h2 := KB.trans k1 k2 (fun _ _ h => h) (fun _ _ h => h)
  have start : ∀ r, (if (decide (z < (0 : Int))) = true then some (Value.int .i64 (-1 : Int), h2) else some (.int .i64 z, h2)) = some r → run (Et base) 12 [.agg (saidV kind pid k n s a m).toArray, .int .i64 left] h = some r := by
    intro r hr
    refine r12 (lets fun h1'' eh => ?_)
    rw [hh1] at eh
    subst eh
    refine bI (o1.at0 (i := 2) rfl) (bI (o1.at0 (i := 3) rfl) (bT (o1.at0 (i := 4) rfl) (bS (o1.at0 (i := 5) rfl) ?_)))
    exact bs e (bI rfl hr)
  by_cases hz : z < 0
  · exact ⟨-1, h2, start _ (ifT (decide_eq_true hz) rfl), kk, by omega, by omega, fun h => absurd (by decide) h⟩
  · exact ⟨z, h2, start _ (ifF (by simpa using hz) rfl), kk, z1, z2, z3⟩

theorem szTimerS_loop {base f : Nat} {p : Nat → Prop} {l : List Sd} {a : Option Addr} (hl : l.length ≤ 1048576) : ∀ (d i : Nat) (h : AH) (left : Int), i + d = l.length → SsR h p f l a → base ≤ h.length → (∀ b, p b → b < h.length) → 0 ≤ left → left ≤ 1048576 →
    ∃ e z h', loopL (B11_0 base) [some (.slice a l.length l.length), some (.int .i64 left), some (.int .i64 (i : Int))] h = some (e, [some (.int .i64 z)], h') ∧ (e = 1 ∨ e = 2) ∧ KB NoB h h' ∧ z ≤ left ∧ -1 ≤ z ∧ (¬ z < 0 → (∀ j x, i ≤ j → l[j]? = some x → TmB f x.t) ∧ z + (sumL (fun x => tcnt f x.t) (l.drop i) : Int) ≤ left) := by
  intro d
  induction d with
  | zero =>
    intro i h left hi hs hb hp h0 h1
    refine ⟨2, left, h, ?_, .inr rfl, KB.refl _ _, Int.le_refl _, by omega, fun _ => ⟨fun j t hj hjt => ?_, by rw [show l.drop i = [] from List.drop_eq_nil_of_le (by omega)]; simp [sumL]⟩⟩
    · rw [loopL_eq, B11_0_eq]
      have : ¬ ((i : Int) < (l.length : Int)) := by omega
      simp [this]
    · have := (List.getElem?_eq_some_iff.1 hjt).1; omega
  | succ d ihd =>
    intro i h left hi hs hb hp h0 h1
    have hlt : i < l.length := by omega
    obtain ⟨ad, k, n, s, a2, m, rfl, hbl, g0, g1, g2, g3, g4, g5, hm⟩ := hs.get hlt
    obtain ⟨z, h', e1, k1, z1, z2, z3⟩ := szTimer_run (base := base) (kind := l[i].kind) (pid := l[i].pid) hm hb hp h0 h1
    have step : ∀ r, (if (decide (z < (0 : Int))) = true then
        some (1, [some (Value.int .i64 (-1 : Int))], h')
      else
        some (0, [some (.slice (some ad) l.length l.length), some (.int .i64 z), some (.int .i64 (IntKind.wrap .i64 ((i : Int) + (1 : Int))))], h')) = some r →
        B11_0 base [some (.slice (some ad) l.length l.length), some (.int .i64 left), some (.int .i64 (i : Int))] h = some r := by
      intro r hr
      rw [B11_0_eq]
      refine ifT (decide_eq_true (by omega)) (ifT ⟨by omega, by omega⟩ (bs rfl ?_))
      simp only [Int.toNat_natCast]
      refine bI g0 (bI g1 (bI g2 (bI g3 (bT g4 (bS g5 ?_)))))
      exact bs e1 (bI rfl hr)
    by_cases hz : z < 0
    · refine ⟨1, -1, h', ?_, .inl rfl, k1, by omega, by omega, fun h => absurd (by decide) h⟩
      rw [loopL_eq, step _ (ifT (decide_eq_true hz) rfl)]
      simp
    · obtain ⟨e, zz, h'', m1, m2, m3, m4, m5, m6⟩ := ihd (i + 1) h' z (by omega) (hs.keep k1 fun _ _ h => h) (by have := k1.1; omega) (fun b hbp => by have := hp b hbp; have := k1.1; omega) (by omega) (by omega)
      refine ⟨e, zz, h'', ?_, m2, KB.trans k1 m3 (fun _ _ h => h) (fun _ _ h => h), by omega, m5, fun hzz => ⟨fun j t hj hjt => ?_, by rw [sumL_drop _ hlt]; have := (m6 hzz).2; have := (z3 hz).2; omega⟩⟩
      · rw [loopL_eq, step _ (ifF (by simpa using hz) rfl)]
        simp only [Option.bind_some, if_true]
        rw [w64i (by omega) (by omega), show ((i : Int) + 1) = ((i + 1 : Nat) : Int) from by omega]
        exact m1
      · by_cases hji : j = i
        · subst hji
          rw [List.getElem?_eq_getElem hlt] at hjt
          injection hjt with hjt
          rw [← hjt]
          exact (z3 hz).1
        · exact (m6 hzz).1 j t (by omega) hjt

theorem szTimerS_run {base f : Nat} {p : Nat → Prop} {h : AH} {l : List Sd} {a : Option Addr} (hl : l.length ≤ 9223372036854775807) (hs : SsR h p f l a) (hb : base ≤ h.length) (hp : ∀ b, p b → b < h.length) :
    ∃ z h', run (Et base) 11 [.slice a l.length l.length, .int .i64 1048576] h = some (.int .i64 z, h') ∧ KB NoB h h' ∧ (¬ z < 0 → l.length ≤ 1048576 ∧ (∀ x ∈ l, TmB f x.t) ∧ l.length + sumL (fun x => tcnt f x.t) l ≤ 1048576 ∧ z ≤ 1048576) := by
  by_cases c : (1048576 : Int) - (l.length : Int) < 0
  · refine ⟨-1, h, r11 ?_, KB.refl _ _, fun h => absurd (by decide) h⟩
    rw [w64i (by omega) (by omega)]
    exact ifT (decide_eq_true c) rfl
  · obtain ⟨e, z, h2, m1, m2, m3, m4, m5, m6⟩ := szTimerS_loop (base := base) (f := f) (by omega) l.length 0 h (1048576 - l.length) (by omega) hs hb hp (by omega) (by omega)
    refine ⟨z, h2, r11 ?_, m3, fun hz => ⟨by omega, fun x hx => ?_, by have := (m6 hz).2; simp only [List.drop_zero] at this; omega, by omega⟩⟩
    · rw [w64i (by omega) (by omega)]
      rw [show ((0 : Nat) : Int) = 0 from rfl] at m1
      refine ifF (by simpa using c) (bs m1 ?_)
      rcases m2 with rfl | rfl
      · exact ifT rfl (bI rfl rfl)
      · exact ifF (by simp) (ifT rfl (bI rfl rfl))
    · obtain ⟨j, hj, rfl⟩ := List.mem_iff_getElem.1 hx
      exact (m6 hz).1 j _ (by omega) (List.getElem?_eq_getElem hj)
theorem eqTimer_run {base f f2 : Nat} {h : AH} {p p2 : Nat → Prop} {kind pid k n k2 n2 : Int} {s s2 : ByteArray} {a a2 : Option Addr} {m m2 : Nat} {t : Tm} (hm : TmR h p f t (termV k n s a m)) (hm2 : TmR h p2 f2 t (termV k2 n2 s2 a2 m2)) (hb : base ≤ h.length) :
    ∃ h', run (Et base) 16 [.agg (saidV kind pid k n s a m).toArray, .agg (saidV kind pid k2 n2 s2 a2 m2).toArray] h = some (.bool true, h') ∧ KB NoB h h' := by
  obtain ⟨o1, k1, q1⟩ := box_own (base := base) (t := 29) (h := h) (cs := saidV kind pid k n s a m) hb rfl
  generalize hh1 : h ++ [some (⟨saidV kind pid k n s a m, 29⟩ : Blk)] = h1 at o1 k1 q1
  obtain ⟨o2, k2', q2⟩ := box_own (base := base) (t := 29) (h := h1) (cs := saidV kind pid k2 n2 s2 a2 m2) (by omega) rfl
  generalize hh2 : h1 ++ [some (⟨saidV kind pid k2 n2 s2 a2 m2, 29⟩ : Blk)] = h2 at o2 k2' q2
  have o1' := o1.keepN k2'
  have kk : KB NoB h h2 := KB.trans k1 k2' (fun _ _ h => h) (fun _ _ h => h)
  obtain ⟨h3, e3, k3⟩ := eqTerm_run (base := base) f f2 h2 p p2 t _ _ (TmR.keep kk (fun _ _ h => h) _ _ _ hm) (TmR.keep kk (fun _ _ h => h) _ _ _ hm2) (by omega)
  refine ⟨h3, r16 (lets fun h1' eh => ?_), KB.trans kk k3 (fun _ _ h => h) (fun _ _ h => h)⟩
  rw [hh1] at eh
  subst eh
  refine lets fun h2' eh => ?_
  rw [hh2] at eh
  subst eh
  refine bI (o1'.at0 (i := 0) rfl) (bI (o2.at0 (i := 0) rfl) (ifF (by simp) ?_))
  refine bI (o1'.at0 (i := 1) rfl) (bI (o2.at0 (i := 1) rfl) (ifF (by simp) ?_))
  refine bI (o1'.at0 (i := 2) rfl) (bI (o1'.at0 (i := 3) rfl) (bT (o1'.at0 (i := 4) rfl) (bS (o1'.at0 (i := 5) rfl) ?_)))
  refine bI (o2.at0 (i := 2) rfl) (bI (o2.at0 (i := 3) rfl) (bT (o2.at0 (i := 4) rfl) (bS (o2.at0 (i := 5) rfl) ?_)))
  exact bs e3 (bB rfl (ifF (by decide) rfl))

theorem eqTimerS_loop {base f f2 : Nat} {p p2 : Nat → Prop} {l : List Sd} {a a2 : Option Addr} (hl : l.length ≤ 9223372036854775807) : ∀ (d i : Nat) (h : AH), i + d = l.length → SsR h p f l a → SsR h p2 f2 l a2 → base ≤ h.length →
    ∃ h', loopL (B15_0 base) [some (.slice a l.length l.length), some (.slice a2 l.length l.length), some (.int .i64 (i : Int))] h = some (2, [], h') ∧ KB NoB h h' := by
  intro d
  induction d with
  | zero =>
    intro i h hi hs hs2 hb
    refine ⟨h, ?_, KB.refl _ _⟩
    rw [loopL_eq, B15_0_eq]
    have : ¬ ((i : Int) < (l.length : Int)) := by omega
    simp [this]
  | succ d ihd =>
    intro i h hi hs hs2 hb
    have hlt : i < l.length := by omega
    obtain ⟨ad, k, n, s, b, m, rfl, _, g0, g1, g2, g3, g4, g5, hm⟩ := hs.get hlt
    obtain ⟨ad2, k2, n2, s2, b2, m2, rfl, _, y0, y1, y2, y3, y4, y5, hm2⟩ := hs2.get hlt
    obtain ⟨h1, e1, k1⟩ := eqTimer_run (base := base) (kind := l[i].kind) (pid := l[i].pid) hm hm2 hb
    obtain ⟨h2, m1, q2⟩ := ihd (i + 1) h1 (by omega) (hs.keep k1 fun _ _ h => h) (hs2.keep k1 fun _ _ h => h) (by have := k1.1; omega)
    refine ⟨h2, ?_, KB.trans k1 q2 (fun _ _ h => h) (fun _ _ h => h)⟩
    have step : B15_0 base [some (.slice (some ad) l.length l.length), some (.slice (some ad2) l.length l.length), some (.int .i64 (i : Int))] h = some (0, [some (.slice (some ad) l.length l.length), some (.slice (some ad2) l.length l.length), some (.int .i64 (IntKind.wrap .i64 ((i : Int) + (1 : Int))))], h1) := by
      rw [B15_0_eq]
      refine ifT (decide_eq_true (by omega)) (ifT ⟨by omega, by omega⟩ (bs rfl ?_))
      simp only [Int.toNat_natCast]
      refine bI g0 (bI g1 (bI g2 (bI g3 (bT g4 (bS g5 (ifT ⟨by omega, by omega⟩ (bs rfl ?_)))))))
      refine bI y0 (bI y1 (bI y2 (bI y3 (bT y4 (bS y5 ?_)))))
      exact bs e1 (bB rfl (ifF (by decide) rfl))
    rw [loopL_eq, step]
    simp only [Option.bind_some, if_true]
    rw [w64i (by omega) (by omega), show ((i : Int) + 1) = ((i + 1 : Nat) : Int) from by omega]
    exact m1

theorem eqTimerS_run {base f f2 : Nat} {h : AH} {p p2 : Nat → Prop} {l : List Sd} {a a2 : Option Addr} (hl : l.length ≤ 9223372036854775807) (hs : SsR h p f l a) (hs2 : SsR h p2 f2 l a2) (hb : base ≤ h.length) :
    ∃ h', run (Et base) 15 [.slice a l.length l.length, .slice a2 l.length l.length] h = some (.bool true, h') ∧ KB NoB h h' := by
  obtain ⟨h', e, k⟩ := eqTimerS_loop (base := base) hl l.length 0 h (by omega) hs hs2 hb
  refine ⟨h', r15 (ifF (by simp) ?_), k⟩
  rw [show ((0 : Nat) : Int) = 0 from rfl] at e
  exact bs e (ifF (by simp) (ifT rfl rfl))
theorem toTimer_run {base f : Nat} {h : AH} {p : Nat → Prop} {kind pid k n : Int} {s : ByteArray} {a : Option Addr} {m : Nat} {t : Tm} (hm : TmR h p f t (termV k n s a m)) (hB : TmB f t) (hb : base ≤ h.length) (hp : ∀ b, p b → b < h.length) :
    ∃ k' n' s' a' m' h', run (Et base) 14 [.agg (saidV kind pid k n s a m).toArray] h = some (.agg (saidV kind pid k' n' s' a' m').toArray, h') ∧ TmR h' (fun b => h.length ≤ b) f t (termV k' n' s' a' m') ∧ KB NoB h h' := by
  obtain ⟨o1, k1, q1⟩ := box_own (base := base) (t := 41) (h := h) (cs := saidV kind pid k n s a m) hb rfl
  generalize hh1 : h ++ [some (⟨saidV kind pid k n s a m, 41⟩ : Blk)] = h1 at o1 k1 q1
  obtain ⟨o2, k2, q2⟩ := box_own (base := base) (t := 29) (h := h1) (cs := saidV 0 0 0 0 ⟨#[]⟩ none 0) (by omega) rfl
  generalize hh2 : h1 ++ [some (⟨saidV 0 0 0 0 ⟨#[]⟩ none 0, 29⟩ : Blk)] = h2 at o2 k2 q2
  obtain ⟨o3, k3, q3⟩ := box_own (base := base) (t := 29) (h := h2) (cs := saidV 0 0 0 0 ⟨#[]⟩ none 0) (by omega) rfl
  generalize hh3 : h2 ++ [some (⟨saidV 0 0 0 0 ⟨#[]⟩ none 0, 29⟩ : Blk)] = h3 at o3 k3 q3
  have k03 : KB NoB h h3 := KB.trans (KB.trans k1 k2 (fun _ _ h => h) (fun _ _ h => h)) k3 (fun _ _ h => h) (fun _ _ h => h)
  have a3 := (o1.keepN k2).keepN k3
  have z3 := o2.keepN k3
  obtain ⟨h5, e5, o5, k5, l5⟩ := o3.wr0 (i := 0) (new := [.int .i64 kind]) (by simp) (by simp)
  have a5 := a3.keepB k5 fun i hi => by rw [blk_at0] at hi; omega
  have z5 := z3.keepB k5 fun i hi => by rw [blk_at0] at hi; omega
  obtain ⟨h7, e7, o7, k7, l7⟩ := o5.wr0 (i := 1) (new := [.int .i64 pid]) (by simp [setAt]) (by simp)
  have a7 := a5.keepB k7 fun i hi => by rw [blk_at0] at hi; omega
  have z7 := z5.keepB k7 fun i hi => by rw [blk_at0] at hi; omega
  have m7 := TmR.keep k7 (fun b h1 h2 => by have := hp b h1; omega) _ _ _ (TmR.keep k5 (fun b h1 h2 => by have := hp b h1; omega) _ _ _ (TmR.keep k03 (fun _ _ h => h) _ _ _ hm))
  obtain ⟨cs, h12, e12, m12, k12⟩ := toTerm_run (base := base) f h7 p t _ m7 hB (by omega) (fun b hbp => by have := hp b hbp; omega)
  have n12 := k12.1
  obtain ⟨k', n', s', a', m', rfl⟩ := m12.form
  obtain ⟨h18, e18, o18, k18, l18⟩ := (o7.keepN k12).wr0 (i := 2) (new := termV k' n' s' a' m') (by simp [setAt]) (by simp)
  have z18 := (z7.keepN k12).keepB k18 fun i hi => by rw [blk_at0] at hi; omega
  have m18 := TmR.keep k18 (fun b h1 h2 => by omega) _ _ _ m12
  have hout : setAt (setAt (setAt (saidV 0 0 0 0 ⟨#[]⟩ none 0) 0 [.int .i64 kind]) 1 [.int .i64 pid]) 2 (termV k' n' s' a' m') = saidV kind pid k' n' s' a' m' := rfl
  rw [hout] at o18
  obtain ⟨h25, e25, z25, k25, l25⟩ := z18.wr0 (i := 0) (new := saidV kind pid k' n' s' a' m') (by simp) (by simp)
  have hz : setAt (saidV 0 0 0 0 ⟨#[]⟩ none 0) 0 (saidV kind pid k' n' s' a' m') = saidV kind pid k' n' s' a' m' := rfl
  rw [hz] at z25
  have m25 := TmR.keep k25 (fun b h1 h2 => by omega) _ _ _ m18
  have c1 : ∀ {S : Nat → Prop} {x y : AH}, KB NoB h x → KB S x y → (∀ i, S i → h.length ≤ i) → KB NoB h y := fun u v hS => KB.trans u v (fun _ _ h => h) (fun i hi hs => by have := hS i hs; omega)
  have kAll : KB NoB h h25 := by
    refine c1 (c1 (c1 (c1 (c1 k03 k5 ?_) k7 ?_) k12 ?_) k18 ?_) k25 ?_ <;> (intro i hi; first | exact hi.elim | omega)
  refine ⟨k', n', s', a', m', h25, r14 (lets fun h1' eh => ?_), m25.mono (fun b hb' => by omega) _ _ _, kAll⟩
  rw [hh1] at eh
  subst eh
  refine lets fun h2' eh => ?_
  rw [hh2] at eh
  subst eh
  refine lets fun h3' eh => ?_
  rw [hh3] at eh
  subst eh
  refine bI (a3.at0 (i := 0) rfl) (bs e5 (bI (a5.at0 (i := 1) rfl) (bs e7 ?_)))
  refine bI (a7.at0 (i := 2) rfl) (bI (a7.at0 (i := 3) rfl) (bT (a7.at0 (i := 4) rfl) (bS (a7.at0 (i := 5) rfl) ?_)))
  refine bs e12 (bs (v := termV k' n' s' a' m') rfl (bI rfl (bI rfl (bT rfl (bS rfl (bs e18 ?_))))))
  refine bI (o18.at0 (i := 0) rfl) (bI (o18.at0 (i := 1) rfl) (bI (o18.at0 (i := 2) rfl) (bI (o18.at0 (i := 3) rfl) (bT (o18.at0 (i := 4) rfl) (bS (o18.at0 (i := 5) rfl) (bs e25 ?_))))))
  exact bI (z25.at0 (i := 0) rfl) (bI (z25.at0 (i := 1) rfl) (bI (z25.at0 (i := 2) rfl) (bI (z25.at0 (i := 3) rfl) (bT (z25.at0 (i := 4) rfl) (bS (z25.at0 (i := 5) rfl) rfl)))))
theorem toTimerS_loop {base f : Nat} {p : Nat → Prop} {l : List Sd} {a : Option Addr} {ob : Nat} (hl : l.length ≤ 1048576) (hB : ∀ x ∈ l, TmB f x.t) (hp : ∀ b, p b → b < ob) : ∀ (d i : Nat) (h : AH) (vs : List Value), i + d = l.length → SsR h p f l a → ob < h.length → base ≤ h.length → Own base 29 h (at0 ob) vs → vs.length = l.length * 6 →
    (∀ j x, j < i → l[j]? = some x → ∃ cs, (vs.drop (j * 6)).take 6 = .int .i64 x.kind :: .int .i64 x.pid :: cs ∧ TmR h (fun b => ob < b) f x.t cs) →
    ∃ h' vs', loopL (B13_0 base) [some (.slice a l.length l.length), some (.slice (at0 ob) l.length l.length), some (.int .i64 (i : Int))] h = some (2, [some (.slice (at0 ob) l.length l.length)], h') ∧ Own base 29 h' (at0 ob) vs' ∧ vs'.length = l.length * 6 ∧
      (∀ j x, l[j]? = some x → ∃ cs, (vs'.drop (j * 6)).take 6 = .int .i64 x.kind :: .int .i64 x.pid :: cs ∧ TmR h' (fun b => ob < b) f x.t cs) ∧ KB (· = ob) h h' := by
  intro d
  induction d with
  | zero =>
    intro i h vs hi hs ho hb ow hv hd
    refine ⟨h, vs, ?_, ow, hv, fun j t hj => hd j t (by have := (List.getElem?_eq_some_iff.1 hj).1; omega) hj, KB.refl _ _⟩
    rw [loopL_eq, B13_0_eq]
    have : ¬ ((i : Int) < (l.length : Int)) := by omega
    simp [this]
  | succ d ihd =>
    intro i h vs hi hs ho hb ow hv hd
    have hlt : i < l.length := by omega
    obtain ⟨ad, k, n, s, a2, m, rfl, hbl, g0, g1, g2, g3, g4, g5, hm⟩ := hs.get hlt
    obtain ⟨k', n', s', a', m', h1, e1, m1, k1⟩ := toTimer_run (base := base) (kind := l[i].kind) (pid := l[i].pid) hm (hB _ (List.getElem_mem hlt)) hb (fun b hbp => by have := hp b hbp; omega)
    have n1 := k1.1
    obtain ⟨h2, w1, w2, w3, w4⟩ := (ow.keepN k1).wr0 (i := i * 6) (new := saidV l[i].kind l[i].pid k' n' s' a' m') (by simp; omega) (by simp)
    have kall : KB (· = ob) h h2 := KB.trans k1 w3 (fun _ _ h => h.elim) (fun _ _ h => h)
    have m2 : TmR h2 (fun b => ob < b) f l[i].t (termV k' n' s' a' m') := TmR.keep w3 (fun b h1 h2 => by omega) _ _ _ (m1.mono (q := fun b => ob < b) (fun b hb' => by omega) _ _ _)
    obtain ⟨h3, vs3, y1, y2, y3, y4, y5⟩ := ihd (i + 1) h2 (setAt vs (i * 6) (saidV l[i].kind l[i].pid k' n' s' a' m')) (by omega) (hs.keep kall fun b h1 h2 => by have := hp b h1; omega) (by omega) (by omega) w2 (by simp [setAt]; omega) (fun j x hj hjt => by
      by_cases hji : j = i
      · subst hji
        rw [chunk6_self rfl (by omega)]
        rw [List.getElem?_eq_getElem hlt] at hjt
        injection hjt with hjt
        subst hjt
        exact ⟨_, rfl, m2⟩
      · rw [chunk6_other rfl (by omega) hji]
        obtain ⟨cs, q1, q2⟩ := hd j x (by omega) hjt
        exact ⟨cs, q1, TmR.keep kall (fun b h1 h2 => by omega) _ _ _ q2⟩)
    refine ⟨h3, vs3, ?_, y2, y3, y4, KB.trans kall y5 (fun _ _ h => h) (fun _ _ h => h)⟩
    have step : B13_0 base [some (.slice (some ad) l.length l.length), some (.slice (at0 ob) l.length l.length), some (.int .i64 (i : Int))] h = some (0, [some (.slice (some ad) l.length l.length), some (.slice (at0 ob) l.length l.length), some (.int .i64 (IntKind.wrap .i64 ((i : Int) + (1 : Int))))], h2) := by
      rw [B13_0_eq]
      refine ifT (decide_eq_true (by omega)) (ifT ⟨by omega, by omega⟩ (bs rfl ?_))
      simp only [Int.toNat_natCast]
      refine bI g0 (bI g1 (bI g2 (bI g3 (bT g4 (bS g5 ?_)))))
      refine bs e1 ?_
      refine bs (v := saidV l[i].kind l[i].pid k' n' s' a' m') rfl (bI rfl (bI rfl (bI rfl (bI rfl (bT rfl (bS rfl ?_))))))
      refine ifT ⟨by omega, by omega⟩ (bs rfl ?_)
      have w1' : Am.wr base h1 ob (0 + i * 6) (saidV l[i].kind l[i].pid k' n' s' a' m') = some h2 := by rw [Nat.zero_add]; exact w1
      exact bs w1' rfl
    rw [loopL_eq, step]
    simp only [Option.bind_some, if_true]
    rw [w64i (by omega) (by omega), show ((i : Int) + 1) = ((i + 1 : Nat) : Int) from by omega]
    exact y1

theorem toTimerS_run {base f : Nat} {h : AH} {p : Nat → Prop} {l : List Sd} {a : Option Addr} (hl : l.length ≤ 1048576) (hB : ∀ x ∈ l, TmB f x.t) (hs : SsR h p f l a) (hb : base ≤ h.length) (hp : ∀ b, p b → b < h.length) :
    ∃ a' h', run (Et base) 13 [.slice a l.length l.length] h = some (.slice a' l.length l.length, h') ∧ SsR h' (fun b => h.length ≤ b) f l a' ∧ KB NoB h h' := by
  obtain ⟨o1, k1, q1⟩ := box_own (base := base) (t := 29) (h := h) (cs := rep [(.int .i64 0), (.int .i64 0), (.int .i64 0), (.int .i64 0), (.string ⟨#[]⟩), (.slice none 0 0)] l.length) hb rfl
  generalize hh1 : h ++ [some (⟨rep [(.int .i64 0), (.int .i64 0), (.int .i64 0), (.int .i64 0), (.string ⟨#[]⟩), (.slice none 0 0)] l.length, 29⟩ : Blk)] = h1 at o1 k1 q1
  obtain ⟨h2, vs2, e2, o2, v2, m2, k2⟩ := toTimerS_loop (base := base) (p := p) (ob := h.length) hl hB hp l.length 0 h1 _ (by omega) (hs.keep k1 fun _ _ h => h) (by omega) (by omega) o1 (rep_len6 ..) (fun j t hj => by omega)
  refine ⟨at0 h.length, h2, r13 ?_, ⟨vs2, o2.sl, .inr fun b hb' => by rw [blk_at0] at hb'; omega, v2, fun i t hi => ?_⟩, KB.trans k1 k2 (fun _ _ h => h) (fun i hi h => by omega)⟩
  · refine ifT ⟨rfl, by omega, by omega, by omega⟩ (lets fun h1' eh => ?_)
    simp only [Int.toNat_natCast] at eh ⊢
    rw [hh1] at eh
    subst eh
    have e2' := e2
    rw [show ((0 : Nat) : Int) = 0 from rfl] at e2'
    exact bs e2' (ifT rfl (bS rfl rfl))
  · obtain ⟨cs, q1, q2⟩ := m2 i t hi
    exact ⟨cs, q1, q2.mono (fun b hb' => by omega) _ _ _⟩

set_option maxRecDepth 100000 in
theorem rd_timers {h : AH} {f : Nat} {v : Value} (x : Rd Try.prog h f 36 [v]) : ∃ g a l, v = .slice a (List.length l) (List.length l) ∧ l.length ≤ maxLen ∧ SsR h (· < h.length) g l a := by
  have cS : Try.prog.cellsOf 41 = 6 := by kernel_rfl
  have cT : Try.prog.cellsOf 39 = 4 := by kernel_rfl
  have c3 : Try.prog.cellsOf 3 = 1 := by kernel_rfl
  match f, x with
  | 0, x => exact x.elim
  | f + 1, x =>
    simp only [Rd, Try.underlying36] at x
    obtain ⟨a, n, vs, e, h2, h3, h4, h5⟩ := x
    injection e with e _
    subst e
    rw [cS] at h4 h5
    have each : ∀ i, i < n → ∃ x : Sd, ∃ cs, (vs.drop (i * 6)).take 6 = .int .i64 x.kind :: .int .i64 x.pid :: cs ∧ TmR h (· < h.length) f x.t cs := by
      intro i hi
      have y := h5 i hi
      match f, y with
      | 0, y => exact y.elim
      | f + 1, y =>
        simp only [Rd, Try.underlying41] at y
        obtain ⟨hl, hf⟩ := y
        generalize hcs : (vs.drop (i * 6)).take 6 = cs at hl hf
        rw [cS] at hl
        match cs, hl with
        | [v0, v1, v2, v3, v4, v5], _ =>
          simp only [List.forall_mem_cons, c3, cT, List.drop_zero, List.drop_succ_cons, List.take_succ_cons, List.take_zero] at hf
          obtain ⟨f0, f1, f2, _⟩ := hf
          obtain ⟨n0, e0, _⟩ := f0.int Try.underlying3
          obtain ⟨n1, e1, _⟩ := f1.int Try.underlying3
          injection e0 with e0 _
          injection e1 with e1 _
          subst e0; subst e1
          obtain ⟨t, ht⟩ := rd_term f _ f2
          exact ⟨⟨n0, n1, t⟩, _, rfl, TmR.up _ _ _ ht⟩
    let g : Nat → Sd := fun i => if hi : i < n then (each i hi).choose else ⟨0, 0, .mk 0 0 ⟨#[]⟩ []⟩
    have hg : ∀ i, i < n → ∃ cs, (vs.drop (i * 6)).take 6 = .int .i64 (g i).kind :: .int .i64 (g i).pid :: cs ∧ TmR h (· < h.length) f (g i).t cs := by
      intro i hi
      simp only [g, hi, dite_true]
      exact (each i hi).choose_spec
    refine ⟨f, a, (List.range n).map g, by simp, by simpa using h2, vs, h3, sl_below h3, by simpa using h4, fun i t hi => ?_⟩
    have hlt : i < n := by have := (List.getElem?_eq_some_iff.1 hi).1; simpa using this
    simp [hlt] at hi
    subst hi
    exact hg i hlt

end Go.Proofs.Ytomcfongmahjaaa.Am
