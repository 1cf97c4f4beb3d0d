/- Marks: each place of a tree written with a number of its own, and read again.
Conditions: none. -/
import Derived.Test.YtomcfongmahjaaaRw
import Derived.Test.YtomcfongmahjaaaEq1
import Derived.Test.YtomcfongmahjaaaEq2
import Derived.Test.YtomcfongmahjaaaEq3
import Derived.Test.YtomcfongmahjaaaEq4
set_option linter.unusedSimpArgs false
set_option linter.unusedVariables false
namespace Go.Proofs.Ytomcfongmahjaaa.Am
open Go Go.RowKit

def mtL : Nat → Int → ByteArray → ByteArray
  | 0, _, o => o
  | d + 1, k, o => if k > 0 then mtL d (Int.tdiv k 10) (bstr [IntKind.wrap .u8 (IntKind.wrap .i64 (48 + Int.tmod k 10))] ++ o) else o
/-- The text of a mark. -/
def mt (k : Int) : ByteArray := if k ≤ 0 then ⟨#[109, 48]⟩ else ⟨#[109]⟩ ++ mtL 63 k ⟨#[]⟩
theorem bstr1 (n : Int) : (bstr [n]).size = 1 := rfl
theorem mtL_size : ∀ (d : Nat) (k : Int) (o : ByteArray), (mtL d k o).size ≤ o.size + d
  | 0, k, o => by simp [mtL]
  | d + 1, k, o => by
    rw [mtL]
    split
    · have := mtL_size d (Int.tdiv k 10) (bstr [IntKind.wrap .u8 (IntKind.wrap .i64 (48 + Int.tmod k 10))] ++ o)
      rw [ByteArray.size_append, bstr1] at this
      omega
    · omega
theorem mt_size (k : Int) : (mt k).size ≤ 64 := by
  unfold mt
  split
  · decide
  · have := mtL_size 63 k ⟨#[]⟩
    rw [ByteArray.size_append]
    have h1 : (⟨#[109]⟩ : ByteArray).size = 1 := rfl
    have h2 : (⟨#[]⟩ : ByteArray).size = 0 := rfl
    omega
theorem markText_loop {base : Nat} : ∀ (d : Nat) (k : Int) (o : ByteArray) (h : AH), k ≤ 9223372036854775807 → k < 2 ^ d → o.size + d ≤ 1000 →
    ∃ k' h', loopL (B33_0 base) [some (.int .i64 k), some (.string o)] h = some (2, [some (.string (mtL d k o))], h') ∧ KB NoB h h' ∧ k' = h' := by
  intro d
  induction d with
  | zero =>
    intro k o h hk hd ho
    refine ⟨_, h, ?_, KB.refl _ _, rfl⟩
    refine loop_off (by decide) ?_
    rw [B33_0_eq]
    exact ifF (by simp; omega) rfl
  | succ d ih =>
    intro k o h hk hd ho
    rw [mtL]
    by_cases c : k > 0
    · rw [if_pos c]
      have hq : Int.tdiv k 10 = k / 10 := by rw [Int.tdiv_eq_ediv_of_nonneg (by omega)]
      have h2 : k / 10 < 2 ^ d := by
        rw [Int.pow_succ] at hd
        omega
      obtain ⟨_, h', e, kk, _⟩ := ih (Int.tdiv k 10) (bstr [IntKind.wrap .u8 (IntKind.wrap .i64 (48 + Int.tmod k 10))] ++ o) (h ++ [some ⟨[.int .u8 (IntKind.wrap .u8 (IntKind.wrap .i64 (48 + Int.tmod k 10)))], 5⟩]) (by omega) (by rw [hq]; exact h2) (by rw [ByteArray.size_append, bstr1]; omega)
      refine ⟨_, h', ?_, KB.trans (KB.push NoB _ _) kk (fun _ _ h => h) (fun _ _ h => h), rfl⟩
      refine loop_on ?_ e
      rw [B33_0_eq]
      refine ifT (decide_eq_true c) (lets fun y ey => ?_)
      subst ey
      refine bs (v := [IntKind.wrap .u8 (IntKind.wrap .i64 (48 + Int.tmod k 10))]) ?_ ?_
      · have := raw_new (h := h) (t := 5) (cs := [.int .u8 (IntKind.wrap .u8 (IntKind.wrap .i64 (48 + Int.tmod k 10)))]) rfl (by simp)
        exact bs this rfl
      · refine ifT (by rw [bstr1]; omega) ?_
        rw [w64i (n := Int.tdiv k 10) (by omega) (by omega)]
    · rw [if_neg c]
      refine ⟨_, h, ?_, KB.refl _ _, rfl⟩
      refine loop_off (by decide) ?_
      rw [B33_0_eq]
      exact ifF (by simp; omega) rfl
theorem markText_run {base : Nat} {h : AH} {k : Int} (hk : k ≤ 9223372036854775807) : ∃ h', run (Et base) 33 [.int .i64 k] h = some (.string (mt k), h') ∧ KB NoB h h' := by
  unfold mt
  by_cases c : k ≤ 0
  · rw [if_pos c]
    exact ⟨h, r33 (ifT (decide_eq_true c) rfl), KB.refl _ _⟩
  · rw [if_neg c]
    obtain ⟨_, h', e, kk, _⟩ := markText_loop (base := base) 63 k ⟨#[]⟩ h hk (by omega) (by decide)
    refine ⟨h', r33 (ifF (by simpa using c) (bs e (ifT rfl (bT rfl (ifT ?_ rfl))))), kk⟩
    have := mtL_size 63 k ⟨#[]⟩
    have h1 : (⟨#[109]⟩ : ByteArray).size = 1 := rfl
    have h2 : (⟨#[]⟩ : ByteArray).size = 0 := rfl
    omega

/-- Terms that hold the marks from k on, up to k'. -/
inductive IsM : List Tm → Int → Int → Prop
  | nil (k : Int) : IsM [] k k
  | cons {k k1 k2 : Int} {l r : List Tm} : IsM l (k + 3) k1 → IsM r k1 k2 → IsM (.mk k (k + 1) (mt (k + 2)) l :: r) k k2

theorem IsM.le {l : List Tm} {k k' : Int} (x : IsM l k k') : k ≤ k' := by
  induction x with
  | nil => exact Int.le_refl _
  | cons _ _ ih1 ih2 => omega

/-- Marks written. -/
def MarkS (base f : Nat) : Prop := ∀ (l : List Tm) (h : AH) (S : Fp) (a : Option Addr) (k : Int), RowD 4 (TmD f) S h l a → l.length ≤ maxLen → (∀ b, S b → base ≤ b ∧ b < h.length) → 0 ≤ k → k + 3 * ((l.length + sumL (tcnt f) l : Nat) : Int) ≤ 1000000000 →
  ∃ l' h', run (Et base) 34 [.slice a l.length l.length, .int .i64 k] h = some (.int .i64 (k + 3 * ((l.length + sumL (tcnt f) l : Nat) : Int)), h') ∧ RowD 4 (TmD f) S h' l' a ∧ l'.length = l.length ∧ IsM l' k (k + 3 * ((l.length + sumL (tcnt f) l : Nat) : Int)) ∧ KB S h h'

theorem set_split {α : Type} {l r : List α} {x y : α} : (l ++ x :: r).set l.length y = l ++ y :: r := by simp
theorem get_split {α : Type} {l r : List α} {x : α} (hi : l.length < (l ++ x :: r).length) : (l ++ x :: r)[l.length] = x := by simp

theorem markTermS_loop {base f : Nat} (ih : ∀ f', f = f' + 1 → MarkS base f') {n : Nat} (hn : n ≤ maxLen) {S : Fp} {a : Option Addr} : ∀ (r done : List Tm) (h : AH) (k : Int), done.length + r.length = n → RowD 4 (TmD f) S h (done ++ r) a → (∀ b, S b → base ≤ b ∧ b < h.length) → 0 ≤ k → k + 3 * ((r.length + sumL (tcnt f) r : Nat) : Int) ≤ 1000000000 →
    ∃ r' h', loopL (B34_0 base) [some (.slice a n n), some (.int .i64 k), some (.int .i64 (done.length : Int))] h = some (2, [some (.int .i64 (k + 3 * ((r.length + sumL (tcnt f) r : Nat) : Int)))], h') ∧ RowD 4 (TmD f) S h' (done ++ r') a ∧ r'.length = r.length ∧ IsM r' k (k + 3 * ((r.length + sumL (tcnt f) r : Nat) : Int)) ∧ KB S h h' := by
  simp only [maxLen] at hn
  intro r
  induction r with
  | nil =>
    intro done h k hd hr hS h0 hk
    refine ⟨[], h, ?_, hr, rfl, ?_, KB.refl _ _⟩
    · refine loop_off (by decide) ?_
      rw [B34_0_eq]
      refine ifF (by simp at hd ⊢; omega) ?_
      simp [sumL]
    · simp only [sumL, List.length_nil]
      have : k + 3 * ((0 + 0 : Nat) : Int) = k := by omega
      rw [this]
      exact .nil k
  | cons t r ihr =>
    intro done h k hd hr hS h0 hk
    simp only [List.length_cons] at hd
    have hlt : done.length < (done ++ t :: r).length := by simp
    obtain ⟨Ci, cs, fo, hP, hcl, hsub, hdis⟩ := hr.open (by decide) hlt
    rw [get_split hlt] at hP
    cases f with
    | zero => exact hP.elim
    | succ f =>
      obtain ⟨kk, nn, ss, l⟩ := t
      obtain ⟨hs1, hl1, a2, ecs, hrow⟩ := hP
      subst ecs
      have hcnt : ((r.length + 1 + sumL (tcnt (f + 1)) (.mk kk nn ss l :: r) : Nat) : Int) = 1 + ((l.length + sumL (tcnt f) l : Nat) : Int) + ((r.length + sumL (tcnt (f + 1)) r : Nat) : Int) := by
        simp only [sumL, tcnt]; omega
      simp only [List.length_cons] at hk ⊢
      rw [hcnt] at hk ⊢
      have hbS : ∀ b, S b → base ≤ b := fun b hb => (hS b hb).1
      obtain ⟨ad, h1, rfl, w1, fo1, k1, n1⟩ := fo.wr (TmD.kp _) hbS (j := 0) (new := [.int .i64 k]) (by simp) (by simp)
      obtain ⟨ad', h2, ead, w2, fo2, k2, n2⟩ := fo1.wr (TmD.kp _) hbS (j := 1) (new := [.int .i64 (k + 1)]) (by simp) (by simp)
      injection ead with ead
      subst ead
      obtain ⟨h3, e3, k3⟩ := markText_run (base := base) (h := h2) (k := k + 1 + 1) (by omega)
      have n3 := k3.1
      have fo3 := fo2.keep (TmD.kp _) k3 fun _ _ h => h.elim
      obtain ⟨ad', h4, ead, w4, fo4, k4, n4⟩ := fo3.wr (TmD.kp _) hbS (j := 2) (new := [.string (mt (k + 1 + 1))]) (by simp) (by simp)
      injection ead with ead
      subst ead
      have ecs : setAt (setAt (setAt (termV kk nn ss a2 l.length) 0 [.int .i64 k]) 1 [.int .i64 (k + 1)]) 2 [.string (mt (k + 1 + 1))] = termV k (k + 1) (mt (k + 1 + 1)) a2 l.length := rfl
      rw [ecs] at fo4
      obtain ⟨ad', ead, g4⟩ := fo4.cell (j := 3) (v := .slice a2 l.length l.length) rfl
      injection ead with ead
      subst ead
      have kA : KB (blk (some ad)) h h4 := KB.trans (KB.trans (KB.trans k1 k2 (fun _ _ h => h) (fun _ _ h => h)) k3 (fun _ _ h => h) (fun _ _ h => h.elim)) k4 (fun _ _ h => h) (fun _ _ h => h)
      have hrow4 : RowD 4 (TmD f) Ci h4 l a2 := hrow.keep (TmD.kp _) kA fun b hb hk => hdis b hk hb
      obtain ⟨l', h5, e5, row5, len5, m5, k5⟩ := ih f rfl l h4 Ci a2 (k + 1 + 1 + 1) hrow4 hl1 (fun b hb => ⟨(hS b (hsub b hb)).1, by have := (hS b (hsub b hb)).2; have := kA.1; omega⟩) (by omega) (by omega)
      have fo5 := fo4.keep (TmD.kp _) k5 fun b _ hb => hb
      have hr5 := fo5.close (y := .mk k (k + 1) (mt (k + 1 + 1)) l') ⟨by have := mt_size (k + 1 + 1); simp only [maxLen]; omega, by rw [len5]; exact hl1, a2, by rw [len5], row5⟩
      rw [set_split, show done ++ Tm.mk k (k + 1) (mt (k + 1 + 1)) l' :: r = (done ++ [Tm.mk k (k + 1) (mt (k + 1 + 1)) l']) ++ r from by simp] at hr5
      have kB : KB S h h5 := KB.trans kA k5 (fun b _ hb => by
        obtain ⟨vs, T, C, _, _, x3, _⟩ := fo
        exact (x3 b hb).1) (fun b _ hb => hsub b hb)
      obtain ⟨r', h6, e6, row6, len6, m6, k6⟩ := ihr (done ++ [.mk k (k + 1) (mt (k + 1 + 1)) l']) h5 (k + 1 + 1 + 1 + 3 * ((l.length + sumL (tcnt f) l : Nat) : Int)) (by simp; omega) hr5 (fun b hb => ⟨(hS b hb).1, by have := (hS b hb).2; have := kB.1; omega⟩) (by omega) (by omega)
      have ek : k + 1 + 1 + 1 + 3 * ((l.length + sumL (tcnt f) l : Nat) : Int) + 3 * ((r.length + sumL (tcnt (f + 1)) r : Nat) : Int) = k + 3 * (1 + ((l.length + sumL (tcnt f) l : Nat) : Int) + ((r.length + sumL (tcnt (f + 1)) r : Nat) : Int)) := by omega
      rw [ek] at e6 m6
      refine ⟨.mk k (k + 1) (mt (k + 1 + 1)) l' :: r', h6, ?_, by simpa using row6, by simp [len6], ?_, KB.trans kB k6 (fun _ _ h => h) (fun _ _ h => h)⟩
      · refine loop_on ?_ e6
        rw [B34_0_eq]
        have hlt' : (done.length : Int) < (n : Int) := by omega
        refine ifT (decide_eq_true hlt') (ifT ⟨by omega, hlt'⟩ (bs rfl ?_))
        simp only [Int.toNat_natCast]
        refine bs w1 (ifT ⟨by omega, hlt'⟩ (bs rfl ?_))
        rw [w64i (n := k + 1) (by omega) (by omega)]
        refine bs w2 ?_
        rw [w64i (n := k + 1 + 1) (by omega) (by omega)]
        refine bs e3 (bT rfl (ifT ⟨by omega, hlt'⟩ (bs rfl (bs w4 (ifT ⟨by omega, hlt'⟩ (bs rfl (bS g4 ?_)))))))
        rw [w64i (n := k + 1 + 1 + 1) (by omega) (by omega)]
        refine bs e5 (bI rfl ?_)
        rw [w64i (n := (done.length : Int) + 1) (by omega) (by omega)]
        simp
      · have e1 : k + 1 + 1 = k + 2 := by omega
        rw [e1] at m5 ⊢
        rw [show k + 2 + 1 = k + 3 from by omega] at m5
        rw [show k + 1 + 1 + 1 = k + 3 from by omega] at m6
        exact .cons m5 m6
theorem markTermS_run {base : Nat} : ∀ f, MarkS base f
  | 0 => fun l h S a k hr hl hS h0 hk => by
    obtain ⟨l', h', e, row, len, m, kk⟩ := markTermS_loop (base := base) (f := 0) (fun f' e => by omega) (n := l.length) hl l [] h k (by simp) (by simpa using hr) hS h0 hk
    exact ⟨l', h', r34 (bs e (ifT rfl (bI rfl rfl))), by simpa using row, len, m, kk⟩
  | f + 1 => fun l h S a k hr hl hS h0 hk => by
    obtain ⟨l', h', e, row, len, m, kk⟩ := markTermS_loop (base := base) (f := f + 1) (fun f' e => by injection e with e; subst e; exact markTermS_run f) (n := l.length) hl l [] h k (by simp) (by simpa using hr) hS h0 hk
    exact ⟨l', h', r34 (bs e (ifT rfl (bI rfl rfl))), by simpa using row, len, m, kk⟩

/-- Marks read. -/
theorem heldTermS_loop {base : Nat} : ∀ {r : List Tm} {k k' : Int}, IsM r k k' → 0 ≤ k → k' ≤ 1000000000 → ∀ (f : Nat) (h : AH) (p : Nat → Prop) (L : List Tm) (i : Nat) (a : Option Addr), L.drop i = r → i ≤ L.length → L.length ≤ 9223372036854775807 → TsR h p f L a → base ≤ h.length →
    ∃ h', loopL (B36_0 base) [some (.slice a L.length L.length), some (.int .i64 k), some (.int .i64 (i : Int))] h = some (2, [some (.int .i64 k')], h') ∧ KB NoB h h' := by
  intro r k k' hm
  induction hm with
  | nil k =>
    intro h0 hk f h p L i a hr hi hL hs hb
    refine ⟨h, ?_, KB.refl _ _⟩
    refine loop_off (by decide) ?_
    rw [B36_0_eq]
    have : L.length ≤ i := by simpa using hr
    exact ifF (by simp; omega) rfl
  | @cons k k1 k2 l r m1 m2 ih1 ih2 =>
    intro h0 hk f h p L i a hr hi hL hs hb
    have le1 := m1.le
    have le2 := m2.le
    have hlt : i < L.length := by
      rcases Nat.lt_or_ge i L.length with h | h
      · exact h
      · rw [List.drop_eq_nil_of_le h] at hr; cases hr
    rw [List.drop_eq_getElem_cons hlt] at hr
    injection hr with hr1 hr2
    obtain ⟨ad, c0, c1, c2, c3, rfl, g0, g1, g2, g3, hmm⟩ := hs.get hlt
    rw [hr1] at hmm
    cases f with
    | zero => exact hmm.elim
    | succ f =>
      obtain ⟨a2, ecs, hts, _, hl2⟩ := hmm.parts
      simp only [maxLen] at hl2
      injection ecs with q0 ecs
      injection ecs with q1 ecs
      injection ecs with q2 ecs
      injection ecs with q3 _
      subst q0; subst q1; subst q2; subst q3
      obtain ⟨h1, e1, kk1⟩ := markText_run (base := base) (h := h) (k := k + 1 + 1) (by omega)
      have n1 := kk1.1
      obtain ⟨h2, e2, kk2⟩ := ih1 (by omega) (by omega) f h1 p l 0 a2 (by simp) (by omega) (by omega) (hts.keep kk1 fun _ _ h => h) (by omega)
      have kk02 : KB NoB h h2 := KB.trans kk1 kk2 (fun _ _ h => h) (fun _ _ h => h)
      have n2 := kk02.1
      obtain ⟨h3, e3, kk3⟩ := ih2 (by omega) hk (f + 1) h2 p L (i + 1) (some ad) hr2 (by omega) hL (hs.keep kk02 fun _ _ h => h) (by omega)
      refine ⟨h3, ?_, KB.trans kk02 kk3 (fun _ _ h => h) (fun _ _ h => h)⟩
      refine loop_on ?_ e3
      rw [B36_0_eq]
      have hlt' : (i : Int) < (L.length : Int) := by omega
      refine ifT (decide_eq_true hlt') (ifT ⟨by omega, hlt'⟩ (bs rfl ?_))
      simp only [Int.toNat_natCast]
      refine bI g0 (ifF (by simp) (ifT ⟨by omega, hlt'⟩ (bs rfl (bI g1 ?_))))
      rw [w64i (n := k + 1) (by omega) (by omega)]
      refine ifF (by simp) (ifT ⟨by omega, hlt'⟩ (bs rfl (bT g2 ?_)))
      rw [w64i (n := k + 1 + 1) (by omega) (by omega)]
      refine bs e1 (bT rfl ?_)
      have hbl : ad.block < h.length := by
        have := g2
        unfold Am.cell at this
        cases hg : hget h ad.block with
        | none => rw [hg] at this; cases this
        | some b => exact hget_lt hg
      rw [gate_pos (by
        intro x hx
        injection hx with hx
        subst hx
        have e := kk1.2 ad.block hbl (fun h => h)
        exact ⟨fun j _ => by unfold Am.cell; rw [e], by rw [e]⟩)]
      refine ifF (by rw [show k + 1 + 1 = k + 2 from by omega]; simp) (ifT ⟨by omega, hlt'⟩ (bs rfl ?_))
      have g3' : Am.cell h1 ad.block (ad.off + i * 4 + 3) = some (.slice a2 l.length l.length) := by
        rw [← g3, show ad.off + i * 4 + 1 + 1 + 1 = ad.off + i * 4 + 3 from by omega]
        unfold Am.cell
        rw [kk1.2 ad.block hbl (fun h => h)]
      refine bS g3' ?_
      rw [w64i (n := k + 1 + 1 + 1) (by omega) (by omega), show k + 1 + 1 + 1 = k + 3 from by omega]
      rw [show ((0 : Nat) : Int) = 0 from rfl] at e2
      refine bs (v := (.int .i64 k1, h2)) (r36 (bs e2 (ifF (by simp) (ifT rfl (bI rfl rfl))))) (bI rfl ?_)
      refine ifF (by simp; omega) ?_
      rw [w64i (n := (i : Int) + 1) (by omega) (by omega)]
      simp
theorem heldTermS_run {base f : Nat} {l : List Tm} {k k' : Int} (m : IsM l k k') (h0 : 0 ≤ k) (hk : k' ≤ 1000000000) {h : AH} {p : Nat → Prop} {a : Option Addr} (hl : l.length ≤ 9223372036854775807) (hs : TsR h p f l a) (hb : base ≤ h.length) :
    ∃ h', run (Et base) 36 [.slice a l.length l.length, .int .i64 k] h = some (.int .i64 k', h') ∧ KB NoB h h' := by
  obtain ⟨h', e, kk⟩ := heldTermS_loop (base := base) m h0 hk f h p l 0 a (by simp) (by omega) hl hs hb
  rw [show ((0 : Nat) : Int) = 0 from rfl] at e
  exact ⟨h', r36 (bs e (ifF (by simp) (ifT rfl (bI rfl rfl)))), kk⟩
end Go.Proofs.Ytomcfongmahjaaa.Am
