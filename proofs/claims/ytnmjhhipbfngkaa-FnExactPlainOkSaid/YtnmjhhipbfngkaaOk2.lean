/- Whether a term is right: one counts up, the other down.
Conditions: none. -/
import Derived.Test.YtnmjhhipbfngkaaOk
set_option linter.unusedSimpArgs false
set_option linter.unusedVariables false
namespace Go.Proofs.Ytnmjhhipbfngkaa.Am
open Go Go.RowKit

def lkS (g : Tm → Int → Int → Int) : List Tm → Int → Int → Int
  | [], _, left => left
  | t :: r, deep, left => if left ≥ 0 then lkS g r deep (g t deep left) else left
/-- How many may be left, below 0 where a term is not right. -/
def lk : Nat → Tm → Int → Int → Int
  | 0, _, _, _ => -1
  | f + 1, .mk k n s l, deep, left => if deep < 1 ∨ left < 1 ∨ shB k n s l.length = false then -1 else lkS (lk f) l (deep - 1) (left - 1)
theorem lkS_neg (g : Tm → Int → Int → Int) (l : List Tm) (deep left : Int) (h : left < 0) : lkS g l deep left = left := by
  cases l with
  | nil => rfl
  | cons t r => rw [lkS, if_neg (by omega)]
theorem lkS_le {g : Tm → Int → Int → Int} (hg : ∀ t d x, 0 ≤ x → -1 ≤ g t d x ∧ g t d x ≤ x) : ∀ (l : List Tm) (deep left : Int), -1 ≤ left → -1 ≤ lkS g l deep left ∧ lkS g l deep left ≤ left
  | [], _, left, h => ⟨h, Int.le_refl _⟩
  | t :: r, deep, left, h => by
    rw [lkS]
    split
    · rename_i h0
      have a := hg t deep left h0
      have b := lkS_le hg r deep (g t deep left) a.1
      exact ⟨b.1, by omega⟩
    · exact ⟨h, Int.le_refl _⟩
theorem lk_le : ∀ (f : Nat) (t : Tm) (deep left : Int), 0 ≤ left → -1 ≤ lk f t deep left ∧ lk f t deep left ≤ left
  | 0, _, _, left, h => ⟨by simp [lk], by simp only [lk]; omega⟩
  | f + 1, .mk k n s l, deep, left, h => by
    rw [lk]
    split
    · exact ⟨by omega, by omega⟩
    · rename_i hn
      have := lkS_le (g := lk f) (fun t d x hx => lk_le f t d x hx) l (deep - 1) (left - 1) (by omega)
      exact ⟨this.1, by omega⟩
/-- A term's four cells, read. -/
theorem q4 {base t n : Nat} {h : AH} {k nn : Int} {s : ByteArray} {a : Option Addr} {m : Nat} (o : Own base t h (at0 n) (termV k nn s a m)) {β : Type} {f : Int → Int → ByteArray → Option Addr × Nat → Option β} {z : Option β} (hf : f k nn s (a, m) = z) :
    (((Am.cell h n 0).bind (getI .i64)).bind fun n1 => ((Am.cell h n 1).bind (getI .i64)).bind fun n2 => ((Am.cell h n 2).bind getStr).bind fun s3 => ((Am.cell h n 3).bind getS).bind fun l4 => f n1 n2 s3 l4) = z :=
  bI (o.at0 (i := 0) rfl) (bI (o.at0 (i := 1) rfl) (bT (o.at0 (i := 2) rfl) (bS (o.at0 (i := 3) rfl) hf)))

def Look (base f : Nat) : Prop := ∀ (h : AH) (p : Nat → Prop) (t : Tm) (cs : List Value) (deep left : Int), TmR h p f t cs → base ≤ h.length → 0 ≤ deep → deep ≤ 6 → 0 ≤ left → left ≤ 100 →
  ∃ h', run (Et base) 117 [.agg cs.toArray, .int .i64 deep, .int .i64 left] h = some (.int .i64 (lk f t deep left), h') ∧ KB NoB h h'
def Coun (base f : Nat) : Prop := ∀ (h : AH) (p : Nat → Prop) (t : Tm) (cs : List Value) (deep left : Int), TmR h p f t cs → base ≤ h.length → 0 ≤ deep → deep ≤ 6 → 0 ≤ left → left ≤ 100 →
  ∃ z h', run (Et base) 118 [.agg cs.toArray, .int .i64 (7 - deep), .int .i64 (100 - left)] h = some (.tuple #[.int .i64 z, .bool (decide (lk f t deep left ≥ 0))], h') ∧ KB NoB h h' ∧ (lk f t deep left ≥ 0 → z = 100 - lk f t deep left)

theorem look_loop {base f ob : Nat} (ih : Look base f) {p : Nat → Prop} {l : List Tm} {a : Option Addr} {k n : Int} {s : ByteArray} (hl : l.length ≤ 9223372036854775807) {deep : Int} (hd0 : 1 ≤ deep) (hd1 : deep ≤ 6) : ∀ (d i : Nat) (h : AH) (left : Int), i + d = l.length → TsR h p f l a → Own base 32 h (at0 ob) (termV k n s a l.length) → base ≤ h.length → -1 ≤ left → left ≤ 100 →
    ∃ h', loopL (B117_0 base) [some (.int .i64 deep), some (.int .i64 left), some (.pointer (at0 ob)), some (.int .i64 (i : Int))] h = some (2, [some (.int .i64 (lkS (lk f) (l.drop i) (deep - 1) left))], h') ∧ KB NoB h h' := by
  intro d
  induction d with
  | zero =>
    intro i h left hi hs ow hb h0 h1
    refine ⟨h, ?_, KB.refl _ _⟩
    rw [show l.drop i = [] from List.drop_eq_nil_of_le (by omega)]
    refine loop_off (by decide) ?_
    rw [B117_0_eq]
    refine bj (q := ([some (.int .i64 deep), some (.int .i64 left), some (.pointer (at0 ob)), some (.int .i64 (i : Int)), some (.bool false)], h)) (bS (ow.at0 (i := 3) rfl) (ifF (by simp; omega) rfl)) ?_
    exact bI rfl (bI rfl (bs rfl (bI rfl (bB rfl (ifF (by decide) rfl)))))
  | succ d ihd =>
    intro i h left hi hs ow hb h0 h1
    have hlt : i < l.length := by omega
    rw [List.drop_eq_getElem_cons hlt, lkS]
    by_cases c : left ≥ 0
    · rw [if_pos c]
      obtain ⟨ad, c0, c1, c2, c3, rfl, g0, g1, g2, g3, hm⟩ := hs.get hlt
      obtain ⟨h', e1, k1⟩ := ih h p l[i] _ (deep - 1) left hm hb (by omega) (by omega) (by omega) h1
      have le := lk_le f l[i] (deep - 1) left c
      obtain ⟨h'', e2, k2⟩ := ihd (i + 1) h' (lk f l[i] (deep - 1) left) (by omega) (hs.keep k1 fun _ _ h => h) (ow.keepN k1) (by have := k1.1; omega) (by omega) (by omega)
      refine ⟨h'', ?_, KB.trans k1 k2 (fun _ _ h => h) (fun _ _ h => h)⟩
      cases f with
      | zero => exact hm.elim
      | succ f =>
        generalize ht : l[i] = tt at hm e1 e2 le
        obtain ⟨kk, nn, ss, ll⟩ := tt
        obtain ⟨a2, ecs, _, _, _⟩ := hm.parts
        injection ecs with q0 ecs
        injection ecs with q1 ecs
        injection ecs with q2 ecs
        injection ecs with q3 _
        subst q0; subst q1; subst q2; subst q3
        refine loop_on ?_ e2
        rw [B117_0_eq]
        refine bj (q := ([some (.int .i64 deep), some (.int .i64 left), some (.pointer (at0 ob)), some (.int .i64 (i : Int)), some (.bool true)], h)) (bS (ow.at0 (i := 3) rfl) (ifT (decide_eq_true (by simp; omega)) (by simp [c]))) ?_
        refine bI rfl (bI rfl (bs rfl (bI rfl (bB rfl (ifT rfl ?_)))))
        refine bS (ow.at0 (i := 3) rfl) (ifT ⟨by omega, by simp; omega⟩ (bs rfl ?_))
        simp only [Int.toNat_natCast]
        refine bI g0 (bI g1 (bT g2 (bS g3 ?_)))
        rw [w64i (n := deep - 1) (by omega) (by omega)]
        refine bs e1 (bI rfl ?_)
        rw [w64i (by omega) (by omega), show ((i : Int) + 1) = ((i + 1 : Nat) : Int) from by omega]
    · rw [if_neg c]
      refine ⟨h, ?_, KB.refl _ _⟩
      refine loop_off (by decide) ?_
      rw [B117_0_eq]
      refine bj (q := ([some (.int .i64 deep), some (.int .i64 left), some (.pointer (at0 ob)), some (.int .i64 (i : Int)), some (.bool false)], h)) (bS (ow.at0 (i := 3) rfl) (ifT (decide_eq_true (by simp; omega)) (by simp [c]))) ?_
      exact bI rfl (bI rfl (bs rfl (bI rfl (bB rfl (ifF (by decide) rfl)))))

theorem look_run {base : Nat} : ∀ f, Look base f
  | 0 => fun h p t cs deep left x => x.elim
  | f + 1 => fun h p t cs deep left x hb d0 d1 l0 l1 => by
    obtain ⟨k, n, s, l⟩ := t
    obtain ⟨a, rfl, hts, hs, hl⟩ := x.parts
    simp only [maxLen] at hs hl
    obtain ⟨o1, k1, q1⟩ := box_own (base := base) (t := 32) (h := h) (cs := termV k n s a l.length) hb rfl
    generalize hh1 : h ++ [some (⟨termV k n s a l.length, 32⟩ : Blk)] = h1' at o1 k1 q1
    obtain ⟨h2, e2, k2⟩ := l1Shape_run (base := base) (h := h1') (k := k) (n := n) (s := s) (a := a) (m := l.length) (by omega) (by omega)
    have n2 := k2.1
    have k02 : KB NoB h h2 := KB.trans k1 k2 (fun _ _ h => h) (fun _ _ h => h)
    have o2 := o1.keepN k2
    by_cases c1 : deep < 1
    · rw [show lk (f + 1) (.mk k n s l) deep left = -1 from by rw [lk, if_pos (.inl c1)]]
      refine ⟨h1', r117 (lets fun h1'' eh => ?_), k1⟩
      rw [hh1] at eh
      subst eh
      refine bj (q := ([some (.int .i64 deep), some (.int .i64 left), some (.pointer (at0 h.length)), some (.bool true)], h1'')) (ifT (decide_eq_true c1) rfl) ?_
      exact bI rfl (bI rfl (bs rfl (bB rfl (ifT rfl rfl))))
    by_cases c2 : left < 1
    · rw [show lk (f + 1) (.mk k n s l) deep left = -1 from by rw [lk, if_pos (.inr (.inl c2))]]
      refine ⟨h1', r117 (lets fun h1'' eh => ?_), k1⟩
      rw [hh1] at eh
      subst eh
      refine bj (q := ([some (.int .i64 deep), some (.int .i64 left), some (.pointer (at0 h.length)), some (.bool true)], h1'')) (ifF (by simpa using c1) (ifT (decide_eq_true c2) rfl)) ?_
      exact bI rfl (bI rfl (bs rfl (bB rfl (ifT rfl rfl))))
    cases c3 : shB k n s l.length with
    | false =>
      rw [show lk (f + 1) (.mk k n s l) deep left = -1 from by rw [lk, if_pos (.inr (.inr c3))]]
      refine ⟨h2, r117 (lets fun h1'' eh => ?_), k02⟩
      rw [hh1] at eh
      subst eh
      rw [c3] at e2
      refine bj (q := ([some (.int .i64 deep), some (.int .i64 left), some (.pointer (at0 h.length)), some (.bool true)], h2)) (ifF (by simpa using c1) (ifF (by simpa using c2) (q4 o1 (bs e2 (bB rfl rfl))))) ?_
      exact bI rfl (bI rfl (bs rfl (bB rfl (ifT rfl rfl))))
    | true =>
      rw [c3] at e2
      obtain ⟨h3, e3, k3⟩ := look_loop (base := base) (look_run f) (p := p) (l := l) (a := a) (k := k) (n := n) (s := s) (by omega) (deep := deep) (by omega) (by omega) l.length 0 h2 (left - 1) (by omega) (hts.keep k02 fun _ _ h => h) o2 (by omega) (by omega) (by omega)
      rw [show lk (f + 1) (.mk k n s l) deep left = lkS (lk f) l (deep - 1) (left - 1) from by rw [lk, if_neg (by simp [c3]; omega)]]
      refine ⟨h3, r117 (lets fun h1'' eh => ?_), KB.trans k02 k3 (fun _ _ h => h) (fun _ _ h => h)⟩
      rw [hh1] at eh
      subst eh
      refine bj (q := ([some (.int .i64 deep), some (.int .i64 left), some (.pointer (at0 h.length)), some (.bool false)], h2)) (ifF (by simpa using c1) (ifF (by simpa using c2) (q4 o1 (bs e2 (bB rfl rfl))))) ?_
      refine bI rfl (bI rfl (bs rfl (bB rfl (ifF (by decide) ?_))))
      rw [w64i (by omega) (by omega)]
      exact bs e3 (ifT rfl (bI rfl rfl))

theorem coun_loop {base f : Nat} (ih : Coun base f) {p : Nat → Prop} {l : List Tm} {a : Option Addr} (hl : l.length ≤ 9223372036854775807) (hp : ∀ b, p b → True) {deep : Int} (hd0 : 1 ≤ deep) (hd1 : deep ≤ 6) : ∀ (d i : Nat) (h : AH) (left : Int), i + d = l.length → TsR h p f l a → base ≤ h.length → 0 ≤ left → left ≤ 100 →
    ∃ z h', (loopL (B118_0 base) [some (.int .i64 (7 - deep)), some (.int .i64 (100 - left)), some (.slice a l.length l.length), some (.int .i64 (l.length : Int)), some (.int .i64 (i : Int))] h = if lkS (lk f) (l.drop i) (deep - 1) left ≥ 0 then some (2, [some (.int .i64 z)], h') else some (1, [some (.int .i64 z), some (.bool false)], h')) ∧ KB NoB h h' ∧ (lkS (lk f) (l.drop i) (deep - 1) left ≥ 0 → z = 100 - lkS (lk f) (l.drop i) (deep - 1) left) := by
  intro d
  induction d with
  | zero =>
    intro i h left hi hs hb h0 h1
    refine ⟨100 - left, h, ?_, KB.refl _ _, ?_⟩
    · rw [show l.drop i = [] from List.drop_eq_nil_of_le (by omega), lkS, if_pos (by omega)]
      refine loop_off (by decide) ?_
      rw [B118_0_eq]
      exact ifF (by simp; omega) rfl
    · rw [show l.drop i = [] from List.drop_eq_nil_of_le (by omega), lkS]
      exact fun _ => rfl
  | succ d ihd =>
    intro i h left hi hs hb h0 h1
    have hlt : i < l.length := by omega
    rw [List.drop_eq_getElem_cons hlt, lkS, if_pos (by omega)]
    obtain ⟨ad, c0, c1, c2, c3, rfl, g0, g1, g2, g3, hm⟩ := hs.get hlt
    cases f with
    | zero => exact hm.elim
    | succ f =>
      generalize ht : l[i] = tt at hm
      obtain ⟨kk, nn, ss, ll⟩ := tt
      obtain ⟨a2, ecs, _, _, _⟩ := hm.parts
      injection ecs with q0 ecs
      injection ecs with q1 ecs
      injection ecs with q2 ecs
      injection ecs with q3 _
      subst q0; subst q1; subst q2; subst q3
      obtain ⟨o1, k1, q1⟩ := box_own (base := base) (t := 32) (h := h) (cs := termV kk nn ss a2 ll.length) hb rfl
      generalize hh1 : h ++ [some (⟨termV kk nn ss a2 ll.length, 32⟩ : Blk)] = h1' at o1 k1 q1
      obtain ⟨z, h', e1, k2, hz⟩ := ih h1' p _ _ (deep - 1) left (TmR.keep k1 (fun _ _ h => h) _ _ _ hm) (by omega) (by omega) (by omega) (by omega) h1
      have kk2 : KB NoB h h' := KB.trans k1 k2 (fun _ _ h => h) (fun _ _ h => h)
      have le := lk_le (f + 1) (.mk kk nn ss ll) (deep - 1) left h0
      by_cases c : lk (f + 1) (.mk kk nn ss ll) (deep - 1) left ≥ 0
      · obtain ⟨z2, h'', e2, k3, hz2⟩ := ihd (i + 1) h' (lk (f + 1) (.mk kk nn ss ll) (deep - 1) left) (by omega) (hs.keep kk2 fun _ _ h => h) (by have := kk2.1; omega) c (by omega)
        refine ⟨z2, h'', ?_, KB.trans kk2 k3 (fun _ _ h => h) (fun _ _ h => h), hz2⟩
        have hzz := hz c
        refine loop_on ?_ e2
        rw [B118_0_eq]
        refine ifT (decide_eq_true (by omega)) (ifT ⟨by omega, by omega⟩ (bs rfl ?_))
        simp only [Int.toNat_natCast]
        refine bI g0 (bI g1 (bT g2 (bS g3 (nw hb rfl fun y ey => ?_))))
        rw [hh1] at ey
        subst ey
        rw [w64i (n := 7 - deep + 1) (by omega) (by omega), show (7 : Int) - deep + 1 = 7 - (deep - 1) from by omega]
        refine q4 o1 (bs e1 (bs rfl (bI rfl (bB rfl (ifF (by simp; omega) ?_)))))
        rw [w64i (by omega) (by omega), show ((i : Int) + 1) = ((i + 1 : Nat) : Int) from by omega, hzz]
      · refine ⟨z, h', ?_, kk2, fun hh => ?_⟩
        · rw [lkS_neg _ _ _ _ (by omega), if_neg (by omega)]
          refine loop_off (by decide) ?_
          rw [B118_0_eq]
          refine ifT (decide_eq_true (by omega)) (ifT ⟨by omega, by omega⟩ (bs rfl ?_))
          simp only [Int.toNat_natCast]
          refine bI g0 (bI g1 (bT g2 (bS g3 (nw hb rfl fun y ey => ?_))))
          rw [hh1] at ey
          subst ey
          rw [w64i (n := 7 - deep + 1) (by omega) (by omega), show (7 : Int) - deep + 1 = 7 - (deep - 1) from by omega]
          exact q4 o1 (bs e1 (bs rfl (bI rfl (bB rfl (ifT (by simp; omega) rfl)))))
        · rw [lkS_neg _ _ _ _ (by omega)] at hh
          omega

theorem coun_run {base : Nat} : ∀ f, Coun base f
  | 0 => fun h p t cs deep left x => x.elim
  | f + 1 => fun h p t cs deep left x hb d0 d1 l0 l1 => by
    obtain ⟨k, n, s, l⟩ := t
    obtain ⟨a, rfl, hts, hs, hl⟩ := x.parts
    simp only [maxLen] at hs hl
    obtain ⟨o1, k1, q1⟩ := box_own (base := base) (t := 32) (h := h) (cs := termV k n s a l.length) hb rfl
    generalize hh1 : h ++ [some (⟨termV k n s a l.length, 32⟩ : Blk)] = h1' at o1 k1 q1
    obtain ⟨h2, e2, k2⟩ := fieldsOk_run (base := base) (h := h1') (k := k) (n := n) (s := s) (a := a) (m := l.length) (by omega) (by omega)
    have n2 := k2.1
    have k02 : KB NoB h h2 := KB.trans k1 k2 (fun _ _ h => h) (fun _ _ h => h)
    have o2 := o1.keepN k2
    have w : IntKind.wrap .i64 (100 - left + 1) = 100 - (left - 1) := by rw [w64i (by omega) (by omega)]; omega
    by_cases c1 : deep < 1
    · rw [show lk (f + 1) (.mk k n s l) deep left = -1 from by rw [lk, if_pos (.inl c1)]]
      refine ⟨100 - (left - 1), h1', r118 (lets fun h1'' eh => ?_), k1, fun hh => absurd hh (by decide)⟩
      rw [hh1] at eh
      subst eh
      rw [w]
      refine bj (q := ([some (.int .i64 (7 - deep)), some (.int .i64 (100 - (left - 1))), some (.pointer (at0 h.length)), some (.bool true)], h1'')) (ifT (decide_eq_true (by omega)) rfl) ?_
      exact bI rfl (bI rfl (bs rfl (bB rfl (ifT rfl rfl))))
    by_cases c2 : left < 1
    · rw [show lk (f + 1) (.mk k n s l) deep left = -1 from by rw [lk, if_pos (.inr (.inl c2))]]
      refine ⟨100 - (left - 1), h1', r118 (lets fun h1'' eh => ?_), k1, fun hh => absurd hh (by decide)⟩
      rw [hh1] at eh
      subst eh
      rw [w]
      refine bj (q := ([some (.int .i64 (7 - deep)), some (.int .i64 (100 - (left - 1))), some (.pointer (at0 h.length)), some (.bool true)], h1'')) (ifF (by simp; omega) (ifT (decide_eq_true (by omega)) rfl)) ?_
      exact bI rfl (bI rfl (bs rfl (bB rfl (ifT rfl rfl))))
    cases c3 : shB k n s l.length with
    | false =>
      rw [c3] at e2
      rw [show lk (f + 1) (.mk k n s l) deep left = -1 from by rw [lk, if_pos (.inr (.inr c3))]]
      refine ⟨100 - (left - 1), h2, r118 (lets fun h1'' eh => ?_), k02, fun hh => absurd hh (by decide)⟩
      rw [hh1] at eh
      subst eh
      rw [w]
      refine bj (q := ([some (.int .i64 (7 - deep)), some (.int .i64 (100 - (left - 1))), some (.pointer (at0 h.length)), some (.bool true)], h2)) (ifF (by simp; omega) (ifF (by simp; omega) (q4 o1 (bs e2 (bB rfl rfl))))) ?_
      exact bI rfl (bI rfl (bs rfl (bB rfl (ifT rfl rfl))))
    | true =>
      rw [c3] at e2
      obtain ⟨z, h3, e3, k3, hz⟩ := coun_loop (base := base) (coun_run f) (p := p) (l := l) (a := a) (by omega) (fun _ _ => trivial) (deep := deep) (by omega) (by omega) l.length 0 h2 (left - 1) (by omega) (hts.keep k02 fun _ _ h => h) (by omega) (by omega) (by omega)
      rw [List.drop_zero] at e3 hz
      rw [show lk (f + 1) (.mk k n s l) deep left = lkS (lk f) l (deep - 1) (left - 1) from by rw [lk, if_neg (by simp [c3]; omega)]]
      refine ⟨z, h3, r118 (lets fun h1'' eh => ?_), KB.trans k02 k3 (fun _ _ h => h) (fun _ _ h => h), hz⟩
      rw [hh1] at eh
      subst eh
      rw [w]
      refine bj (q := ([some (.int .i64 (7 - deep)), some (.int .i64 (100 - (left - 1))), some (.pointer (at0 h.length)), some (.bool false)], h2)) (ifF (by simp; omega) (ifF (by simp; omega) (q4 o1 (bs e2 (bB rfl rfl))))) ?_
      refine bI rfl (bI rfl (bs rfl (bB rfl (ifF (by decide) (bS (o2.at0 (i := 3) rfl) ?_)))))
      by_cases cc : lkS (lk f) l (deep - 1) (left - 1) ≥ 0
      · rw [if_pos cc] at e3
        rw [decide_eq_true cc]
        exact bs e3 (ifF (by simp) (ifT rfl (bI rfl rfl)))
      · rw [if_neg cc] at e3
        rw [decide_eq_false cc]
        exact bs e3 (ifT rfl (bI rfl (bB rfl rfl)))

/-- A term is right. -/
def tOk (f : Nat) (t : Tm) : Bool := decide (lk f t 6 100 ≥ 0)
theorem specTermOk_run {base f : Nat} {h : AH} {p : Nat → Prop} {k n : Int} {s : ByteArray} {a : Option Addr} {m : Nat} {t : Tm} (hm : TmR h p f t (termV k n s a m)) (hb : base ≤ h.length) :
    ∃ h', run (Et base) 63 [.agg (termV k n s a m).toArray] h = some (.bool (tOk f t), h') ∧ KB NoB h h' := by
  obtain ⟨o1, k1, q1⟩ := box_own (base := base) (t := 32) (h := h) (cs := termV k n s a m) hb rfl
  generalize hh1 : h ++ [some (⟨termV k n s a m, 32⟩ : Blk)] = h1' at o1 k1 q1
  obtain ⟨h2, e2, k2⟩ := look_run (base := base) f h1' p t _ 6 100 (TmR.keep k1 (fun _ _ h => h) _ _ _ hm) (by omega) (by omega) (by omega) (by omega) (by omega)
  refine ⟨h2, r63 (lets fun h1'' eh => ?_), KB.trans k1 k2 (fun _ _ h => h) (fun _ _ h => h)⟩
  rw [hh1] at eh
  subst eh
  exact q4 o1 (bs e2 (bI rfl rfl))
theorem implTermOk_run {base f : Nat} {h : AH} {p : Nat → Prop} {k n : Int} {s : ByteArray} {a : Option Addr} {m : Nat} {t : Tm} (hm : TmR h p f t (termV k n s a m)) (hb : base ≤ h.length) :
    ∃ h', run (Et base) 68 [.agg (termV k n s a m).toArray] h = some (.bool (tOk f t), h') ∧ KB NoB h h' := by
  obtain ⟨o1, k1, q1⟩ := box_own (base := base) (t := 32) (h := h) (cs := termV k n s a m) hb rfl
  generalize hh1 : h ++ [some (⟨termV k n s a m, 32⟩ : Blk)] = h1' at o1 k1 q1
  obtain ⟨z, h2, e2, k2, _⟩ := coun_run (base := base) f h1' p t _ 6 100 (TmR.keep k1 (fun _ _ h => h) _ _ _ hm) (by omega) (by omega) (by omega) (by omega) (by omega)
  refine ⟨h2, r68 (lets fun h1'' eh => ?_), KB.trans k1 k2 (fun _ _ h => h) (fun _ _ h => h)⟩
  rw [hh1] at eh
  subst eh
  exact q4 o1 (bs e2 (bs rfl (bI rfl (bB rfl rfl))))
end Go.Proofs.Ytnmjhhipbfngkaa.Am
