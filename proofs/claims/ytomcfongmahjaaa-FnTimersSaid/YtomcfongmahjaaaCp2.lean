/- The reference's copy of a term: all its rows are its own.
Conditions: none. -/
import Derived.Test.YtomcfongmahjaaaCp
import Derived.Test.YtomcfongmahjaaaEq1
import Derived.Test.YtomcfongmahjaaaEq2
import Derived.Test.YtomcfongmahjaaaEq3
import Derived.Test.YtomcfongmahjaaaEq4
set_option linter.unusedSimpArgs false
set_option linter.unusedVariables false
namespace Go.Proofs.Ytomcfongmahjaaa.Am
open Go Go.RowKit

theorem l1Copy_loop {base f : Nat} (ih : CopD base f 29) {p : Nat → Prop} {l : List Tm} {a : Option Addr} {b0 b1 b2 : Nat} {k n : Int} {s : ByteArray} (hl : l.length ≤ 1048576) (hB : ∀ t ∈ l, TmB f t) (hp : ∀ b, p b → b < b2) (h02 : b0 < b2) (hb2 : base ≤ b2) : ∀ (d i : Nat) (h : AH) (ao : Option Addr) (vs : List Value) (T : Fp), i + d = l.length → TsR h p f l a → b2 < h.length → Own base 27 h (at0 b0) (termV k n s a l.length) → Own base 27 h (at0 b2) (termV k n s ao i) → Own base 27 h ao vs → vs.length = i * 4 → Chunks 4 (TmD f) T h (l.take i) vs → (∀ b, T b → b2 < b ∧ b < h.length) → (∀ b, blk ao b → ¬ T b ∧ b2 < b) →
    ∃ h' ao' vs' T', loopL (B29_0 base) [some (.pointer (at0 b0)), some (.pointer (at0 b1)), some (.pointer (at0 b2)), some (.int .i64 (i : Int))] h = some (2, [some (.pointer (at0 b1)), some (.pointer (at0 b2))], h') ∧ Own base 27 h' (at0 b2) (termV k n s ao' l.length) ∧ Own base 27 h' ao' vs' ∧ vs'.length = l.length * 4 ∧
      Chunks 4 (TmD f) T' h' l vs' ∧ (∀ b, T' b → b2 < b ∧ b < h'.length) ∧ (∀ b, blk ao' b → ¬ T' b ∧ b2 < b) ∧ KB (fun b => b2 ≤ b) h h' := by
  intro d
  induction d with
  | zero =>
    intro i h ao vs T hi hs hlh ot oo ow hv hc hT ha
    rw [List.take_of_length_le (by omega)] at hc
    have hi' : i = l.length := by omega
    subst hi'
    refine ⟨h, ao, vs, T, ?_, oo, ow, hv, hc, hT, ha, KB.refl _ _⟩
    refine loop_off (by decide) ?_
    rw [B29_0_eq]
    exact bS (ot.at0 (i := 3) rfl) (ifF (by simp) rfl)
  | succ d ihd =>
    intro i h ao vs T hi hs hlh ot oo ow hv hc hT ha
    have hlt : i < l.length := by omega
    obtain ⟨ad, c0, c1, c2, c3, rfl, g0, g1, g2, g3, hm⟩ := hs.get hlt
    have hm' := hm
    cases f with
    | zero => exact hm'.elim
    | succ f =>
      generalize ht : l[i] = tt at hm'
      obtain ⟨k1, n1, s1, ll⟩ := tt
      obtain ⟨a2, ecs, _, _, _⟩ := hm'.parts
      injection ecs with q0 ecs
      injection ecs with q1 ecs
      injection ecs with q2 ecs
      injection ecs with q3 _
      subst q0; subst q1; subst q2; subst q3
      obtain ⟨cs', h2, e2, m2, k2⟩ := ih h p l[i] _ hm (hB _ (List.getElem_mem hlt)) (by omega) (fun b hb => by have := hp b hb; omega)
      have nn2 := k2.1
      obtain ⟨k', n', s', a', m', rfl⟩ := m2.form
      obtain ⟨a3, h3, e3, o3, k3, b3, n3⟩ := app1 (bytes := 56) (ow.keepN k2) (n := i) (sz := 4) (cs := termV k' n' s' a' m') hv rfl (by decide) rfl (by omega) (by omega) (by omega)
      have hao : ∀ b, blk ao b → b < h.length := fun b hb => (ow.lt hb).2
      have oo3 := (oo.keepN k2).keep k3 fun b hb hk => by have := (ha b hk).2; rw [blk_at0] at hb; omega
      obtain ⟨h4, w4, oo4, k4, l4⟩ := oo3.wr0 (i := 3) (new := [.slice a3 (i + 1) (i + 1)]) (by simp) (by simp)
      have hset : setAt (termV k n s ao i) 3 [.slice a3 (i + 1) (i + 1)] = termV k n s a3 (i + 1) := rfl
      rw [hset] at oo4
      have k03 : KB (blk ao) h h3 := kNB k2 k3
      have k04 : KB (fun b => blk ao b ∨ b = b2) h h4 := KB.trans k03 k4 (fun _ _ h => .inl h) (fun _ _ h => .inr h)
      have ch := (((hc.keep (TmD.kp _) k2 fun _ _ h => h).snoc (vs' := vs ++ termV k' n' s' a' m') (S' := fun b => T b ∨ iS h.length h2.length b) m2 (fun b hb hb' => by have := hT b hb'; omega) (fun b hb => .inl hb) (fun b hb => .inr hb) (fun q hq => chunk_app_other (by simp at hq; have := mul_le' (w := 4) (show q < i from by omega); omega)) (by
        rw [List.length_take, Nat.min_eq_left (by omega)]
        exact chunk_app_self rfl hv)).keep (TmD.kp _) k3 (fun b hb hk => by
          rcases hb with hb | hb
          · exact (ha b hk).1 hb
          · have := hao b hk; omega)).keep (TmD.kp _) k4 (fun b hb hk => by
          rcases hb with hb | hb
          · have := hT b hb; omega
          · omega)
      rw [← take_snoc hlt] at ch
      have hT' : ∀ b, (T b ∨ iS h.length h2.length b) → b2 < b ∧ b < h4.length := fun b hb => by
        rcases hb with hb | hb
        · have := hT b hb; omega
        · omega
      have o4 := o3.keepB k4 fun b hb => by have := b3 b hb; omega
      obtain ⟨h5, a5, vs5, T5, y1, y1', y2, y3, y4, y5, y6, y7⟩ := ihd (i + 1) h4 a3 (vs ++ termV k' n' s' a' m') (fun b => T b ∨ iS h.length h2.length b) (by omega) (hs.keep k04 fun b h1 h2 => by
        have := hp b h1
        rcases h2 with h2 | h2
        · have := (ha b h2).2; omega
        · omega) (by omega) (ot.keep k04 fun b hb h2 => by
        rw [blk_at0] at hb
        rcases h2 with h2 | h2
        · have := (ha b h2).2; omega
        · omega) oo4 o4 (by simp; omega) ch hT' (fun b hb => by
        have := b3 b hb
        subst this
        refine ⟨fun hb => ?_, by omega⟩
        rcases hb with hb | hb
        · have := hT _ hb; omega
        · omega)
      refine ⟨h5, a5, vs5, T5, ?_, y1', y2, y3, y4, y5, y6, KB.trans k04 y7 (fun b _ hb => by
        rcases hb with hb | hb
        · have := (ha b hb).2; omega
        · omega) (fun _ _ h => h)⟩
      refine loop_on ?_ y1
      rw [B29_0_eq]
      refine bS (ot.at0 (i := 3) rfl) (ifT (decide_eq_true (by simp; omega)) (bS (oo.at0 (i := 3) rfl) (bS (ot.at0 (i := 3) rfl) (ifT ⟨by omega, by simp; omega⟩ (bs rfl ?_)))))
      simp only [Int.toNat_natCast]
      refine bI g0 (bI g1 (bT g2 (bS g3 (bs e2 ?_))))
      refine bs (v := termV k' n' s' a' m') rfl (bI rfl (bI rfl (bT rfl (bS rfl ?_))))
      rw [gate_pos (by
        intro x hx
        injection hx with hx
        subst hx
        have e := k2.2 b2 hlh (fun h => h)
        exact ⟨fun j _ => by unfold Am.cell; rw [e], by rw [e]⟩)]
      rw [gate_pos (by
        intro x hx
        injection hx with hx
        subst hx
        show b2 ≠ h2.length
        omega)]
      refine lets fun y2 ey2 => ?_
      subst ey2
      refine bs e3 (bS rfl (bs w4 ?_))
      rw [w64i (n := (i : Int) + 1) (by omega) (by omega)]
      rfl
theorem l1Copy_run {base : Nat} : ∀ f, CopD base f 29
  | 0 => fun h p t cs x => x.elim
  | f + 1 => fun h p t cs x hB hb hp => by
    obtain ⟨k, n, s, l⟩ := t
    obtain ⟨a, rfl, hts, hs, hl⟩ := x.parts
    obtain ⟨b1, b2, b3⟩ := hB
    obtain ⟨o1, k1, q1⟩ := box_own (base := base) (t := 27) (h := h) (cs := termV k n s a l.length) hb rfl
    generalize hh1 : h ++ [some (⟨termV k n s a l.length, 27⟩ : Blk)] = h1 at o1 k1 q1
    obtain ⟨o2, k2, q2⟩ := box_own (base := base) (t := 27) (h := h1) (cs := termV 0 0 ⟨#[]⟩ none 0) (by omega) rfl
    generalize hh2 : h1 ++ [some (⟨termV 0 0 ⟨#[]⟩ none 0, 27⟩ : Blk)] = h2 at o2 k2 q2
    obtain ⟨o3, k3, q3⟩ := box_own (base := base) (t := 27) (h := h2) (cs := termV k n s a l.length) (by omega) rfl
    generalize hh3 : h2 ++ [some (⟨termV k n s a l.length, 27⟩ : Blk)] = h3 at o3 k3 q3
    obtain ⟨o4, k4, q4'⟩ := box_own (base := base) (t := 27) (h := h3) (cs := []) (by omega) rfl
    generalize hh4 : h3 ++ [some (⟨[], 27⟩ : Blk)] = h4 at o4 k4 q4'
    obtain ⟨h5, e5, o5, k5, l5⟩ := (o3.keepN k4).wr0 (i := 3) (new := [.slice (at0 h3.length) 0 0]) (by simp) (by simp)
    have hset : setAt (termV k n s a l.length) 3 [.slice (at0 h3.length) 0 0] = termV k n s (at0 h3.length) 0 := rfl
    rw [hset] at o5
    have k04 : KB NoB h h4 := kN (kN (kN k1 k2) k3) k4
    have k05 : KB NoB h h5 := kFresh k04 k5 fun i hi => by omega
    obtain ⟨h6, ao, vs, T, e6, oo6, ow6, hv6, hc6, hT6, ha6, k6⟩ := l1Copy_loop (base := base) (l1Copy_run f) (p := p) (l := l) (a := a) (b0 := h.length) (b1 := h1.length) (b2 := h2.length) (k := k) (n := n) (s := s) b2 b3 (fun b hb => by have := hp b hb; omega) (by omega) (by omega) l.length 0 h5 (at0 h3.length) [] (fun _ => False) (by omega) (hts.keep k05 fun _ _ h => h) (by omega)
      ((((o1.keepN k2).keepN k3).keepN k4).keepB k5 fun i hi => by rw [blk_at0] at hi; omega) o5 (o4.keepB k5 fun i hi => by rw [blk_at0] at hi; omega) (by simp) Chunks.nil (fun _ h => h.elim) (fun b hb => by rw [blk_at0] at hb; exact ⟨fun h => h, by omega⟩)
    have n6 := k6.1
    have z6 := (((o2.keepN k3).keepN k4).keepB k5 fun i hi => by rw [blk_at0] at hi; omega).keep k6 fun b hb hk => by rw [blk_at0] at hb; omega
    obtain ⟨h7, e7, o7, k7, l7⟩ := z6.wr0 (i := 0) (new := termV k n s ao l.length) (by simp) (by simp)
    have hz : setAt (termV 0 0 ⟨#[]⟩ none 0) 0 (termV k n s ao l.length) = termV k n s ao l.length := rfl
    rw [hz] at o7
    have ow7 := ow6.keepB k7 fun b hb => by have := (ha6 b hb).2; omega
    have hc7 := hc6.keep (TmD.kp _) k7 fun b hb hk => by have := hT6 b hb; omega
    refine ⟨termV k n s ao l.length, h7, r29 (lets fun y1 ey => ?_), ⟨hs, hl, ao, rfl, ⟨vs, T, ow7.sl, hv6, .inr fun b hb' => ⟨⟨by have := (ha6 b hb').2; omega, by have := (ow7.lt hb').2; omega⟩, (ha6 b hb').1⟩, fun b hb' => by have := hT6 b hb'; constructor <;> omega, hc7⟩⟩, kFresh (kFresh k05 k6 fun i hi => by omega) k7 fun i hi => by omega⟩
    rw [hh1] at ey
    subst ey
    refine lets fun y2 ey => ?_
    rw [hh2] at ey
    subst ey
    refine q4 (o1.keepN k2) (nw (by omega) rfl fun y3 ey => ?_)
    rw [hh3] at ey
    subst ey
    refine lets fun y4 ey => ?_
    rw [hh4] at ey
    subst ey
    refine bs e5 ?_
    rw [show ((0 : Nat) : Int) = 0 from rfl] at e6
    refine bs e6 (ifT rfl (bs rfl (bs rfl (q4 oo6 (bs e7 (q4 o7 rfl))))))
end Go.Proofs.Ytomcfongmahjaaa.Am
