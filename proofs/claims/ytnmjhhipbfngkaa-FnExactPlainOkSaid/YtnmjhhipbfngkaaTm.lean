/- Terms as trees, and what reads them.
Conditions: none. -/
import Derived.Test.YtnmjhhipbfngkaaEq1
import Derived.Test.YtnmjhhipbfngkaaEq2
import Derived.Test.YtnmjhhipbfngkaaEq3
import Derived.Test.YtnmjhhipbfngkaaEq4
import Derived.Test.YtnmjhhipbfngkaaKt
set_option linter.unusedSimpArgs false
set_option linter.unusedVariables false
namespace Go.Proofs.Ytnmjhhipbfngkaa.Am
open Go Go.RowKit

inductive Tm where
  | mk (k n : Int) (s : ByteArray) (l : List Tm)

/-- A term as it lies: every row in a block that p allows. -/
def TmR (h : AH) (p : Nat → Prop) : Nat → Tm → List Value → Prop
  | 0, _, _ => False
  | f + 1, .mk k n s l, cs => s.size ≤ maxLen ∧ l.length ≤ maxLen ∧ ∃ a vs, cs = [.int .i64 k, .int .i64 n, .string s, .slice a l.length l.length] ∧ Sl h a vs ∧ (vs = [] ∨ ∀ b, blk a b → p b) ∧ vs.length = l.length * 4 ∧
      ∀ i t, l[i]? = some t → TmR h p f t ((vs.drop (i * 4)).take 4)
/-- A row of terms. -/
def TsR (h : AH) (p : Nat → Prop) (f : Nat) (l : List Tm) (a : Option Addr) : Prop :=
  ∃ vs, Sl h a vs ∧ (vs = [] ∨ ∀ b, blk a b → p b) ∧ vs.length = l.length * 4 ∧ ∀ i t, l[i]? = some t → TmR h p f t ((vs.drop (i * 4)).take 4)

theorem TmR.keep {h h' : AH} {p S : Nat → Prop} (k : KB S h h') (hp : ∀ b, p b → ¬ S b) : ∀ (f : Nat) (t : Tm) (cs : List Value), TmR h p f t cs → TmR h' p f t cs
  | 0, _, _, x => x
  | f + 1, .mk kk n s l, cs, x => by
    obtain ⟨h1, h2, a, vs, h3, h4, h5, h6, h7⟩ := x
    refine ⟨h1, h2, a, vs, h3, ?_, h5, h6, fun i t hi => TmR.keep k hp f t _ (h7 i t hi)⟩
    rcases h5 with e | h5
    · exact .inl e
    · exact h4.keep k fun b hb hs => hp b (h5 b hb) hs
theorem TsR.keep {h h' : AH} {p S : Nat → Prop} (k : KB S h h') (hp : ∀ b, p b → ¬ S b) {f : Nat} {l : List Tm} {a : Option Addr} (x : TsR h p f l a) : TsR h' p f l a := by
  obtain ⟨vs, h4, h5, h6, h7⟩ := x
  refine ⟨vs, ?_, h5, h6, fun i t hi => TmR.keep k hp f t _ (h7 i t hi)⟩
  rcases h5 with e | h5
  · exact .inl e
  · exact h4.keep k fun b hb hs => hp b (h5 b hb) hs
theorem TmR.mono {h : AH} {p q : Nat → Prop} (hpq : ∀ b, p b → q b) : ∀ (f : Nat) (t : Tm) (cs : List Value), TmR h p f t cs → TmR h q f t cs
  | 0, _, _, x => x
  | f + 1, .mk kk n s l, cs, x => by
    obtain ⟨h1, h2, a, vs, h3, h4, h5, h6, h7⟩ := x
    exact ⟨h1, h2, a, vs, h3, h4, h5.imp id fun h b hb => hpq b (h b hb), h6, fun i t hi => TmR.mono hpq f t _ (h7 i t hi)⟩
theorem TmR.parts {h : AH} {p : Nat → Prop} {f : Nat} {k n : Int} {s : ByteArray} {l : List Tm} {cs : List Value} (x : TmR h p (f + 1) (.mk k n s l) cs) :
    ∃ a, cs = [.int .i64 k, .int .i64 n, .string s, .slice a l.length l.length] ∧ TsR h p f l a ∧ s.size ≤ maxLen ∧ l.length ≤ maxLen := by
  obtain ⟨h1, h2, a, vs, h3, h4, h5, h6, h7⟩ := x
  exact ⟨a, h3, ⟨vs, h4, h5, h6, h7⟩, h1, h2⟩
theorem TmR.of {h : AH} {p : Nat → Prop} {f : Nat} {k n : Int} {s : ByteArray} {l : List Tm} {a : Option Addr} (x : TsR h p f l a) (h1 : s.size ≤ maxLen) (h2 : l.length ≤ maxLen) :
    TmR h p (f + 1) (.mk k n s l) [.int .i64 k, .int .i64 n, .string s, .slice a l.length l.length] := by
  obtain ⟨vs, h4, h5, h6, h7⟩ := x
  exact ⟨h1, h2, a, vs, rfl, h4, h5, h6, h7⟩
/-- One of a row: its four cells, where they lie. -/
theorem TsR.get {h : AH} {p : Nat → Prop} {f : Nat} {l : List Tm} {a : Option Addr} (x : TsR h p f l a) {i : Nat} (hi : i < l.length) :
    ∃ ad c0 c1 c2 c3, a = some ad ∧ Am.cell h ad.block (ad.off + i * 4) = some c0 ∧ Am.cell h ad.block (ad.off + i * 4 + 1) = some c1 ∧ Am.cell h ad.block (ad.off + i * 4 + 1 + 1) = some c2 ∧ Am.cell h ad.block (ad.off + i * 4 + 1 + 1 + 1) = some c3 ∧ TmR h p f l[i] [c0, c1, c2, c3] := by
  obtain ⟨vs, h4, h5, h6, h7⟩ := x
  have hlt : i * 4 + 3 < vs.length := by omega
  have hm := h7 i l[i] (List.getElem?_eq_getElem hi)
  obtain ⟨ad, e0, g0⟩ := h4.cell (i := i * 4) (List.getElem?_eq_getElem (by omega))
  obtain ⟨ad1, e1, g1⟩ := h4.cell (i := i * 4 + 1) (List.getElem?_eq_getElem (by omega))
  obtain ⟨ad2, e2, g2⟩ := h4.cell (i := i * 4 + 2) (List.getElem?_eq_getElem (by omega))
  obtain ⟨ad3, e3, g3⟩ := h4.cell (i := i * 4 + 3) (List.getElem?_eq_getElem (by omega))
  subst e0
  injection e1 with e1
  injection e2 with e2
  injection e3 with e3
  subst e1; subst e2; subst e3
  have e4 : (vs.drop (i * 4)).take 4 = [vs[i * 4], vs[i * 4 + 1], vs[i * 4 + 2], vs[i * 4 + 3]] := by
    apply List.ext_getElem?
    intro j
    match j with
    | 0 => rw [List.getElem?_take_of_lt (by decide), List.getElem?_drop]; exact List.getElem?_eq_getElem (by omega)
    | 1 => rw [List.getElem?_take_of_lt (by decide), List.getElem?_drop]; exact List.getElem?_eq_getElem (by omega)
    | 2 => rw [List.getElem?_take_of_lt (by decide), List.getElem?_drop]; exact List.getElem?_eq_getElem (by omega)
    | 3 => rw [List.getElem?_take_of_lt (by decide), List.getElem?_drop]; exact List.getElem?_eq_getElem (by omega)
    | j + 4 => rw [List.getElem?_eq_none (by simp; omega), List.getElem?_eq_none (by simp)]
  rw [e4] at hm
  exact ⟨ad, _, _, _, _, rfl, g0, by rw [Nat.add_assoc]; exact g1, by rw [Nat.add_assoc, Nat.add_assoc]; exact g2, by rw [Nat.add_assoc, Nat.add_assoc, Nat.add_assoc]; exact g3, hm⟩

def sumL {α : Type} (g : α → Nat) : List α → Nat
  | [] => 0
  | t :: r => g t + sumL g r
/-- How many terms lie below one. -/
def tcnt : Nat → Tm → Nat
  | 0, _ => 0
  | f + 1, .mk _ _ _ l => l.length + sumL (tcnt f) l
theorem sumL_drop {α : Type} (g : α → Nat) {l : List α} {i : Nat} (hi : i < l.length) : sumL g (l.drop i) = g l[i] + sumL g (l.drop (i + 1)) := by rw [List.drop_eq_getElem_cons hi]; rfl
/-- Not too great. -/
def TmB : Nat → Tm → Prop
  | 0, _ => False
  | f + 1, .mk _ _ s l => s.size ≤ 1048576 ∧ l.length ≤ 1048576 ∧ ∀ t ∈ l, TmB f t
abbrev termV (k n : Int) (s : ByteArray) (a : Option Addr) (m : Nat) : List Value := [.int .i64 k, .int .i64 n, .string s, .slice a m m]

/-- A term's size is counted down. -/
def SzT (base f : Nat) : Prop := ∀ (h : AH) (p : Nat → Prop) (t : Tm) (cs : List Value) (left : Int), TmR h p f t cs → base ≤ h.length → (∀ b, p b → b < h.length) → 0 ≤ left → left ≤ 1048576 →
  ∃ z h', run (Et base) 11 [.agg cs.toArray, .int .i64 left] h = some (.int .i64 z, h') ∧ KB NoB h h' ∧ z ≤ left ∧ -1 ≤ z ∧ (¬ z < 0 → TmB f t ∧ z + (tcnt f t : Int) ≤ left)

theorem szTermS_loop {base f : Nat} (ih : SzT base f) {p : Nat → Prop} {l : List Tm} {a : Option Addr} (hl : l.length ≤ 1048576) : ∀ (d i : Nat) (h : AH) (left : Int), i + d = l.length → TsR h p f l a → base ≤ h.length → (∀ b, p b → b < h.length) → 0 ≤ left → left ≤ 1048576 →
    ∃ e z h', loopL (B61_0 base) [some (.slice a l.length l.length), some (.int .i64 left), some (.int .i64 (i : Int))] h = some (e, [some (.int .i64 z)], h') ∧ (e = 1 ∨ e = 2) ∧ KB NoB h h' ∧ z ≤ left ∧ -1 ≤ z ∧ (¬ z < 0 → (∀ j t, i ≤ j → l[j]? = some t → TmB f t) ∧ z + (sumL (tcnt f) (l.drop i) : Int) ≤ left) := by
  intro d
  induction d with
  | zero =>
    intro i h left hi hs hb hp h0 h1
    refine ⟨2, left, h, ?_, .inr rfl, KB.refl _ _, Int.le_refl _, by omega, fun _ => ⟨fun j t hj hjt => ?_, by rw [show l.drop i = [] from List.drop_eq_nil_of_le (by omega)]; simp [sumL]⟩⟩
    · rw [loopL_eq, B61_0_eq]
      have : ¬ ((i : Int) < (l.length : Int)) := by omega
      simp [this]
    · have := (List.getElem?_eq_some_iff.1 hjt).1; omega
  | succ d ihd =>
    intro i h left hi hs hb hp h0 h1
    have hlt : i < l.length := by omega
    obtain ⟨ad, c0, c1, c2, c3, rfl, g0, g1, g2, g3, hm⟩ := hs.get hlt
    obtain ⟨z, h', e1, k1, z1, z2, z3⟩ := ih h p l[i] _ left hm hb hp h0 h1
    cases f with
    | zero => exact hm.elim
    | succ f =>
      generalize ht : l[i] = tt at hm z3
      obtain ⟨k, n, s, ll⟩ := tt
      obtain ⟨a2, ecs, _, _, _⟩ := hm.parts
      injection ecs with q0 ecs
      injection ecs with q1 ecs
      injection ecs with q2 ecs
      injection ecs with q3 _
      subst q0; subst q1; subst q2; subst q3
      have step : ∀ r, (if (decide (z < (0 : Int))) = true then
          some (1, [some (Value.int .i64 (-1 : Int))], h')
        else
          some (0, [some (.slice (some ad) l.length l.length), some (.int .i64 z), some (.int .i64 (IntKind.wrap .i64 ((i : Int) + (1 : Int))))], h')) = some r →
          B61_0 base [some (.slice (some ad) l.length l.length), some (.int .i64 left), some (.int .i64 (i : Int))] h = some r := by
        intro r hr
        rw [B61_0_eq]
        refine ifT (decide_eq_true (by omega)) (ifT ⟨by omega, by omega⟩ (bs rfl ?_))
        simp only [Int.toNat_natCast]
        refine bI g0 (bI g1 (bT g2 (bS g3 ?_)))
        exact bs e1 (bs rfl hr)
      by_cases hz : z < 0
      · refine ⟨1, -1, h', ?_, .inl rfl, k1, by omega, by omega, fun h => absurd (by decide) h⟩
        rw [loopL_eq, step _ (ifT (decide_eq_true hz) rfl)]
        simp
      · obtain ⟨e, zz, h'', m1, m2, m3, m4, m5, m6⟩ := ihd (i + 1) h' z (by omega) (hs.keep k1 fun _ _ h => h) (by have := k1.1; omega) (fun b hbp => by have := hp b hbp; have := k1.1; omega) (by omega) (by omega)
        refine ⟨e, zz, h'', ?_, m2, KB.trans k1 m3 (fun _ _ h => h) (fun _ _ h => h), by omega, m5, fun hzz => ⟨fun j t hj hjt => ?_, by rw [sumL_drop _ hlt, ht]; have := (m6 hzz).2; have := (z3 hz).2; omega⟩⟩
        · rw [loopL_eq, step _ (ifF (by simpa using hz) rfl)]
          simp only [Option.bind_some, if_true]
          rw [w64i (by omega) (by omega), show ((i : Int) + 1) = ((i + 1 : Nat) : Int) from by omega]
          exact m1
        · by_cases hji : j = i
          · subst hji
            rw [List.getElem?_eq_getElem hlt] at hjt
            injection hjt with hjt
            rw [← hjt, ht]
            exact (z3 hz).1
          · exact (m6 hzz).1 j t (by omega) hjt

theorem szTerm_run {base : Nat} : ∀ f, SzT base f
  | 0 => fun h p t cs left x => x.elim
  | f + 1 => fun h p t cs left x hb hp h0 h1 => by
    obtain ⟨k, n, s, l⟩ := t
    obtain ⟨a, rfl, hts, hs, hl⟩ := x.parts
    simp only [maxLen] at hs hl
    obtain ⟨o1, k1, q1⟩ := box_own (base := base) (t := 24) (h := h) (cs := termV k n s a l.length) hb rfl
    generalize hh1 : h ++ [some (⟨termV k n s a l.length, 24⟩ : Blk)] = h1' at o1 k1 q1
    have start : ∀ r, (if (decide ((IntKind.wrap .i64 (left - (s.size : Int))) < (0 : Int))) = true then
        some (Value.int .i64 (-1 : Int), h1')
      else
        (run (Et base) 61 [.slice a l.length l.length, .int .i64 (IntKind.wrap .i64 (left - (s.size : Int)))] h1').bind fun r4 =>
        ((some r4.1).bind (getI .i64)).bind fun n5 =>
        (if (decide (n5 < (0 : Int))) = true then
        some (.int .i64 (-1 : Int), r4.2)
        else
        some (.int .i64 n5, r4.2))) = some r → run (Et base) 11 [.agg (termV k n s a l.length).toArray, .int .i64 left] h = some r := by
      intro r hr
      refine r11 (lets fun h1'' eh => ?_)
      rw [hh1] at eh
      subst eh
      refine bT (o1.at0 (i := 2) rfl) ?_
      by_cases hc : (decide ((IntKind.wrap .i64 (left - (s.size : Int))) < (0 : Int))) = true
      · rw [if_pos hc] at hr ⊢; exact hr
      · rw [if_neg hc] at hr ⊢
        exact bS (o1.at0 (i := 3) rfl) hr
    rw [w64i (by omega) (by omega)] at start
    by_cases c1 : left - (s.size : Int) < 0
    · exact ⟨-1, h1', start _ (ifT (decide_eq_true c1) rfl), k1, by omega, by omega, fun h => absurd (by decide) h⟩
    · -- the row
      have hts1 := hts.keep k1 fun _ _ h => h
      by_cases c2 : left - (s.size : Int) - (l.length : Int) < 0
      · refine ⟨-1, h1', start _ (ifF (by simpa using c1) (bs (v := (.int .i64 (-1), h1')) (r61 ?_) (bs (v := (-1 : Int)) rfl (ifT (by decide) rfl)))), k1, by omega, by omega, fun h => absurd (by decide) h⟩
        rw [w64i (by omega) (by omega)]
        exact ifT (decide_eq_true c2) rfl
      · obtain ⟨e, z, h2, m1, m2, m3, m4, m5, m6⟩ := szTermS_loop (base := base) (f := f) (szTerm_run f) (by omega) l.length 0 h1' (left - s.size - l.length) (by omega) hts1 (by omega) (fun b hbp => by have := hp b hbp; omega) (by omega) (by omega)
        have hS : run (Et base) 61 [.slice a l.length l.length, .int .i64 (left - (s.size : Int))] h1' = some (.int .i64 z, h2) := by
          refine r61 ?_
          rw [w64i (by omega) (by omega)]
          refine ifF (by simpa using c2) (bs m1 ?_)
          rcases m2 with rfl | rfl
          · exact ifT rfl (bs rfl rfl)
          · exact ifF (by simp) (ifT rfl (bs rfl rfl))
        have kk : KB NoB h h2 := KB.trans k1 m3 (fun _ _ h => h) (fun _ _ h => h)
        by_cases hz : z < 0
        · exact ⟨-1, h2, start _ (ifF (by simpa using c1) (bs hS (bs rfl (ifT (decide_eq_true hz) rfl)))), kk, by omega, by omega, fun h => absurd (by decide) h⟩
        · refine ⟨z, h2, start _ (ifF (by simpa using c1) (bs hS (bs rfl (ifF (by simpa using hz) rfl)))), kk, by omega, m5, fun _ => ⟨⟨by omega, by omega, fun t ht => ?_⟩, by have := (m6 hz).2; simp only [List.drop_zero] at this; simp only [tcnt]; omega⟩⟩
          obtain ⟨j, hj, rfl⟩ := List.mem_iff_getElem.1 ht
          exact (m6 hz).1 j _ (by omega) (List.getElem?_eq_getElem hj)
theorem TmR.form {h : AH} {p : Nat → Prop} {f : Nat} {t : Tm} {cs : List Value} (x : TmR h p f t cs) : ∃ k n s a m, cs = termV k n s a m := by
  cases f with
  | zero => exact x.elim
  | succ f =>
    obtain ⟨k, n, s, l⟩ := t
    obtain ⟨a, e, _⟩ := x.parts
    exact ⟨k, n, s, a, _, e⟩
theorem TmR.same {h : AH} {p p2 : Nat → Prop} {f f2 : Nat} {t : Tm} {k n k2 n2 : Int} {s s2 : ByteArray} {a a2 : Option Addr} {m m2 : Nat} (x : TmR h p f t (termV k n s a m)) (y : TmR h p2 f2 t (termV k2 n2 s2 a2 m2)) : k2 = k ∧ n2 = n ∧ s2 = s ∧ m2 = m := by
  cases f with
  | zero => exact x.elim
  | succ f =>
    cases f2 with
    | zero => exact y.elim
    | succ f2 =>
      obtain ⟨k0, n0, s0, l0⟩ := t
      obtain ⟨_, e, _⟩ := x.parts
      obtain ⟨_, e', _⟩ := y.parts
      injection e with e0 e
      injection e with e1 e
      injection e with e2 e
      injection e with e3 _
      injection e0 with _ e0
      injection e1 with _ e1
      injection e2 with e2
      injection e3 with _ e3 _
      injection e' with f0 e'
      injection e' with f1 e'
      injection e' with f2 e'
      injection e' with f3 _
      injection f0 with _ f0
      injection f1 with _ f1
      injection f2 with f2
      injection f3 with _ f3 _
      exact ⟨f0.trans e0.symm, f1.trans e1.symm, f2.trans e2.symm, f3.trans e3.symm⟩
theorem TmR.le {h : AH} {p : Nat → Prop} : ∀ {f f' : Nat} (hf : f ≤ f') {t : Tm} {cs : List Value}, TmR h p f t cs → TmR h p f' t cs
  | 0, _, _, _, _, x => x.elim
  | f + 1, 0, hf, _, _, _ => absurd hf (Nat.not_succ_le_zero _)
  | f + 1, f' + 1, hf, .mk k n s l, cs, x => by
    obtain ⟨h1, h2, a, vs, h3, h4, h5, h6, h7⟩ := x
    exact ⟨h1, h2, a, vs, h3, h4, h5, h6, fun i t hi => (h7 i t hi).le (Nat.le_of_succ_le_succ hf)⟩
theorem TmB.le : ∀ {f f' : Nat} (hf : f ≤ f') {t : Tm}, TmB f t → TmB f' t
  | 0, _, _, _, x => x.elim
  | f + 1, 0, hf, _, _ => absurd hf (Nat.not_succ_le_zero _)
  | f + 1, f' + 1, hf, .mk k n s l, x => ⟨x.1, x.2.1, fun t ht => (x.2.2 t ht).le (Nat.le_of_succ_le_succ hf)⟩

end Go.Proofs.Ytnmjhhipbfngkaa.Am
