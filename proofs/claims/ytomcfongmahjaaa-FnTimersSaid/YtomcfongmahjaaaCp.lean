/- Copies of terms: all rows of a copy are its own (both sides).
Conditions: none. -/
import Derived.Test.YtomcfongmahjaaaTm2
import Derived.Test.YtomcfongmahjaaaOk2
import Derived.Test.YtomcfongmahjaaaEq1
import Derived.Test.YtomcfongmahjaaaEq2
import Derived.Test.YtomcfongmahjaaaEq3
import Derived.Test.YtomcfongmahjaaaEq4
set_option linter.unusedSimpArgs false
set_option linter.unusedVariables false
namespace Go.Proofs.Ytomcfongmahjaaa.Am
open Go Go.RowKit

/-- A copy of a term. -/
def CopD (base f F : Nat) : Prop := ∀ (h : AH) (p : Nat → Prop) (t : Tm) (cs : List Value), TmR h p f t cs → TmB f t → base ≤ h.length → (∀ b, p b → b < h.length) →
  ∃ cs' h', run (Et base) F [.agg cs.toArray] h = some (.agg cs'.toArray, h') ∧ TmD f (iS h.length h'.length) h' t cs' ∧ KB NoB h h'
theorem TmD.form {f : Nat} {S : Fp} {h : AH} {t : Tm} {cs : List Value} (x : TmD f S h t cs) : ∃ k n s a m, cs = termV k n s a m := by
  cases f with
  | zero => exact x.elim
  | succ f => obtain ⟨k, n, s, l⟩ := t; obtain ⟨_, _, a, e, _⟩ := x; exact ⟨k, n, s, a, _, e⟩

theorem copyTerms_loop {base f : Nat} (ih : CopD base f 46) {p : Nat → Prop} {l : List Tm} {a : Option Addr} {lo : Nat} (hl : l.length ≤ 1048576) (hB : ∀ t ∈ l, TmB f t) (hp : ∀ b, p b → b < lo) (hlo : base ≤ lo) : ∀ (d i : Nat) (h : AH) (ao : Option Addr) (vs : List Value) (T : Fp), i + d = l.length → TsR h p f l a → lo ≤ h.length → Own base 27 h ao vs → vs.length = i * 4 → Chunks 4 (TmD f) T h (l.take i) vs → (∀ b, T b → lo ≤ b ∧ b < h.length) → (∀ b, blk ao b → ¬ T b ∧ lo ≤ b) →
    ∃ h' ao' vs' T', loopL (B56_0 base) [some (.slice ao i i), some (.slice a l.length l.length), some (.int .i64 (l.length : Int)), some (.int .i64 (i : Int))] h = some (2, [some (.slice ao' l.length l.length)], h') ∧ Own base 27 h' ao' vs' ∧ vs'.length = l.length * 4 ∧
      Chunks 4 (TmD f) T' h' l vs' ∧ (∀ b, T' b → lo ≤ b ∧ b < h'.length) ∧ (∀ b, blk ao' b → ¬ T' b ∧ lo ≤ b) ∧ KB (fun b => lo ≤ b) h h' := by
  intro d
  induction d with
  | zero =>
    intro i h ao vs T hi hs hlh ow hv hc hT ha
    rw [List.take_of_length_le (by omega)] at hc
    have hi' : i = l.length := by omega
    subst hi'
    refine ⟨h, ao, vs, T, ?_, ow, hv, hc, hT, ha, KB.refl _ _⟩
    refine loop_off (by decide) ?_
    rw [B56_0_eq]
    exact ifF (by simp) rfl
  | succ d ihd =>
    intro i h ao vs T hi hs hlh ow hv hc hT ha
    have hlt : i < l.length := by omega
    obtain ⟨ad, c0, c1, c2, c3, rfl, g0, g1, g2, g3, hm⟩ := hs.get hlt
    have kp1 : KB NoB h (h ++ [some ⟨[c0, c1, c2, c3], 27⟩]) := KB.push _ _ _
    have hm' := hm
    cases f with
    | zero => exact hm'.elim
    | succ f =>
      generalize ht : l[i] = tt at hm'
      obtain ⟨k, n, s, ll⟩ := tt
      obtain ⟨a2, ecs, _, _, _⟩ := hm'.parts
      injection ecs with q0 ecs
      injection ecs with q1 ecs
      injection ecs with q2 ecs
      injection ecs with q3 _
      subst q0; subst q1; subst q2; subst q3
      obtain ⟨o1, k1, q1⟩ := box_own (base := base) (t := 27) (h := h) (cs := termV k n s a2 ll.length) (by omega) rfl
      generalize hh1 : h ++ [some (⟨termV k n s a2 ll.length, 27⟩ : Blk)] = h1 at o1 k1 q1
      obtain ⟨cs', h2, e2, m2, k2⟩ := ih h1 p l[i] _ (TmR.keep k1 (fun _ _ h => h) _ _ _ hm) (hB _ (List.getElem_mem hlt)) (by omega) (fun b hb => by have := hp b hb; omega)
      have n2 := k2.1
      have k02 : KB NoB h h2 := kN k1 k2
      obtain ⟨k', n', s', a', m', rfl⟩ := m2.form
      obtain ⟨a3, h3, e3, o3, k3, b3, n3⟩ := app1 (bytes := 56) (ow.keepN k02) (n := i) (sz := 4) (cs := termV k' n' s' a' m') hv rfl (by decide) rfl (by omega) (by omega) (by omega)
      have hao : ∀ b, blk ao b → b < h.length := fun b hb => (ow.lt hb).2
      have ch := ((hc.keep (TmD.kp _) k02 fun _ _ h => h).snoc (vs' := vs ++ termV k' n' s' a' m') (S' := fun b => T b ∨ iS h1.length h2.length b) m2 (fun b hb hb' => by have := hT b hb'; omega) (fun b hb => .inl hb) (fun b hb => .inr hb) (fun q hq => chunk_app_other (by simp at hq; have := mul_le' (w := 4) (show q < i from by omega); omega)) (by
        rw [List.length_take, Nat.min_eq_left (by omega)]
        exact chunk_app_self rfl hv)).keep (TmD.kp _) k3 (fun b hb hk => by
          rcases hb with hb | hb
          · exact (ha b hk).1 hb
          · have := hao b hk; omega)
      rw [← take_snoc hlt] at ch
      obtain ⟨h4, a4, vs4, T4, y1, y2, y3, y4, y5, y6, y7⟩ := ihd (i + 1) h3 a3 (vs ++ termV k' n' s' a' m') (fun b => T b ∨ iS h1.length h2.length b) (by omega) (hs.keep (kNB k02 k3) fun b h1 h2 => by have := hp b h1; have := (ha b h2).2; omega) (by omega) o3 (by simp; omega) ch (fun b hb => by
        rcases hb with hb | hb
        · have := hT b hb; omega
        · constructor <;> omega) (fun b hb => by
        have := b3 b hb
        subst this
        refine ⟨fun hb => ?_, by omega⟩
        rcases hb with hb | hb
        · have := hT _ hb; omega
        · omega)
      refine ⟨h4, a4, vs4, T4, ?_, y2, y3, y4, y5, y6, KB.trans (kNB k02 k3) y7 (fun b _ hb => (ha b hb).2) (fun _ _ h => h)⟩
      refine loop_on ?_ y1
      rw [B56_0_eq]
      refine ifT (decide_eq_true (by omega)) (ifT ⟨by omega, by omega⟩ (bs rfl ?_))
      simp only [Int.toNat_natCast]
      refine bI g0 (bI g1 (bT g2 (bS g3 (nw (by omega) rfl fun y ey => ?_))))
      rw [hh1] at ey
      subst ey
      refine q4 o1 (bs e2 (bs (v := termV k' n' s' a' m') rfl (bI rfl (bI rfl (bT rfl (bS rfl (lets fun y2 ey2 => ?_)))))))
      subst ey2
      refine bs e3 (bS rfl ?_)
      rw [w64i (n := (i : Int) + 1) (by omega) (by omega)]
      rfl
theorem copyTerms_run {base f : Nat} (ih : CopD base f 46) {h : AH} {p : Nat → Prop} {l : List Tm} {a : Option Addr} (hl : l.length ≤ 1048576) (hB : ∀ t ∈ l, TmB f t) (hs : TsR h p f l a) (hb : base ≤ h.length) (hp : ∀ b, p b → b < h.length) :
    ∃ a' h', run (Et base) 56 [.slice a l.length l.length] h = some (.slice a' l.length l.length, h') ∧ RowD 4 (TmD f) (iS h.length h'.length) h' l a' ∧ KB NoB h h' := by
  obtain ⟨h', ao, vs, T, e, ow, hv, hc, hT, ha, k⟩ := copyTerms_loop (base := base) ih hl hB hp hb l.length 0 h none [] (fun _ => False) (by omega) hs (by omega) (.inl ⟨rfl, rfl⟩) (by simp) Chunks.nil (fun _ h => h.elim) (fun b hb => by obtain ⟨_, e, _⟩ := hb; cases e)
  rw [show ((0 : Nat) : Int) = 0 from rfl] at e
  refine ⟨ao, h', r56 (bs e (ifT rfl (bS rfl rfl))), ⟨vs, T, ow.sl, hv, .inr fun b hb' => ⟨⟨(ha b hb').2, (ow.lt hb').2⟩, (ha b hb').1⟩, fun b hb' => hT b hb', hc⟩, k.mono fun i hi h => by omega⟩
theorem copyTerm_run {base : Nat} : ∀ f, CopD base f 46
  | 0 => fun h p t cs x => x.elim
  | f + 1 => fun h p t cs x hB hb hp => by
    obtain ⟨k, n, s, l⟩ := t
    obtain ⟨a, rfl, hts, hs, hl⟩ := x.parts
    obtain ⟨b1, b2, b3⟩ := hB
    obtain ⟨o1, k1, q1⟩ := box_own (base := base) (t := 27) (h := h) (cs := termV k n s a l.length) hb rfl
    generalize hh1 : h ++ [some (⟨termV k n s a l.length, 27⟩ : Blk)] = h1 at o1 k1 q1
    obtain ⟨o2, k2, q2⟩ := box_own (base := base) (t := 27) (h := h1) (cs := termV 0 0 ⟨#[]⟩ none 0) (by omega) rfl
    generalize hh2 : h1 ++ [some (⟨termV 0 0 ⟨#[]⟩ none 0, 27⟩ : Blk)] = h2 at o2 k2 q2
    have k02 : KB NoB h h2 := kN k1 k2
    obtain ⟨a', h3, e3, t3, k3⟩ := copyTerms_run (base := base) (copyTerm_run f) b2 b3 (hts.keep k02 fun _ _ h => h) (by omega) (fun b hb => by have := hp b hb; omega)
    have n3 := k3.1
    obtain ⟨h4, e4, o4, k4, l4⟩ := ((o1.keepN k2).keepN k3).wr0 (i := 3) (new := [.slice a' l.length l.length]) (by simp) (by simp)
    have hset : setAt (termV k n s a l.length) 3 [.slice a' l.length l.length] = termV k n s a' l.length := rfl
    rw [hset] at o4
    have z4 := (o2.keepN k3).keepB k4 fun i hi => by rw [blk_at0] at hi; omega
    obtain ⟨h5, e5, o5, k5, l5⟩ := z4.wr0 (i := 0) (new := termV k n s a' l.length) (by simp) (by simp)
    have hz : setAt (termV 0 0 ⟨#[]⟩ none 0) 0 (termV k n s a' l.length) = termV k n s a' l.length := rfl
    rw [hz] at o5
    have t5 := (t3.keep (TmD.kp _) k4 fun b h1 h2 => by omega).keep (TmD.kp _) k5 fun b h1 h2 => by omega
    refine ⟨termV k n s a' l.length, h5, r46 (lets fun y1 ey => ?_), ⟨hs, hl, a', rfl, t5.mono fun b hb' => by constructor <;> omega⟩, kFresh (kFresh (kN k02 k3) k4 fun i hi => by omega) k5 fun i hi => by omega⟩
    rw [hh1] at ey
    subst ey
    refine lets fun y2 ey => ?_
    rw [hh2] at ey
    subst ey
    refine bS ((o1.keepN k2).at0 (i := 3) rfl) (bs e3 (bS rfl (bs e4 (q4 o4 (bs e5 (q4 o5 rfl))))))
end Go.Proofs.Ytomcfongmahjaaa.Am
