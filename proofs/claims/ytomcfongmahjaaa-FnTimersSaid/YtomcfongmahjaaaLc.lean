/- The reference's copy of timers.
Conditions: none. -/
import Derived.Test.YtomcfongmahjaaaTiD
set_option linter.unusedSimpArgs false
set_option linter.unusedVariables false
namespace Go.Proofs.Ytomcfongmahjaaa.Am
open Go Go.RowKit

theorem l14Copy_loop {base f : Nat} {p : Nat → Prop} {l : List Sd} {a : Option Addr} {lo : Nat} (hl : l.length ≤ 1048576) (hB : ∀ x ∈ l, TmB f x.t) (hp : ∀ b, p b → b < lo) (hlo : base ≤ lo) : ∀ (d i : Nat) (h : AH) (ao : Option Addr) (vs : List Value) (T : Fp), i + d = l.length → SsR h p f l a → lo ≤ h.length → Own base 29 h ao vs → vs.length = i * 6 → Chunks 6 (SdD f) T h (l.take i) vs → (∀ b, T b → lo ≤ b ∧ b < h.length) → (∀ b, blk ao b → ¬ T b ∧ lo ≤ b) →
    ∃ h' ao' vs' T', loopL (B26_0 base) [some (.slice a l.length l.length), some (.slice ao i i), some (.int .i64 (i : Int))] h = some (2, [some (.slice ao' l.length l.length)], h') ∧ Own base 29 h' ao' vs' ∧ vs'.length = l.length * 6 ∧
      Chunks 6 (SdD f) T' h' l vs' ∧ (∀ b, T' b → lo ≤ b ∧ b < h'.length) ∧ (∀ b, blk ao' b → ¬ T' b ∧ lo ≤ b) ∧ KB (fun b => lo ≤ b) h h' := by
  intro d
  induction d with
  | zero =>
    intro i h ao vs T hi hs hlh ow hv hc hT ha
    rw [List.take_of_length_le (by omega)] at hc
    have hi' : i = l.length := by omega
    subst hi'
    refine ⟨h, ao, vs, T, ?_, ow, hv, hc, hT, ha, KB.refl _ _⟩
    refine loop_off (by decide) ?_
    rw [B26_0_eq]
    exact ifF (by simp) rfl
  | succ d ihd =>
    intro i h ao vs T hi hs hlh ow hv hc hT ha
    have hlt : i < l.length := by omega
    obtain ⟨ad, k, n, s, a2, m, rfl, hbl, g0, g1, g2, g3, g4, g5, hm⟩ := hs.get hlt
    obtain ⟨o1, k1, q1⟩ := box_own (base := base) (t := 29) (h := h) (cs := saidV l[i].kind l[i].pid k n s a2 m) (by omega) rfl
    generalize hh1 : h ++ [some (⟨saidV l[i].kind l[i].pid k n s a2 m, 29⟩ : Blk)] = h1 at o1 k1 q1
    obtain ⟨cs', h3, e3, m3, k3⟩ := l1Copy_run (base := base) f h1 p l[i].t _ (TmR.keep k1 (fun _ _ h => h) _ _ _ hm) (hB _ (List.getElem_mem hlt)) (by omega) (fun b hb => by have := hp b hb; omega)
    have n3 := k3.1
    obtain ⟨k', n', s', a', m', rfl⟩ := m3.form
    obtain ⟨h4, e4, o4, k4, l4⟩ := (o1.keepN k3).wr0 (i := 2) (new := termV k' n' s' a' m') (by simp) (by simp)
    have hset : setAt (saidV l[i].kind l[i].pid k n s a2 m) 2 (termV k' n' s' a' m') = saidV l[i].kind l[i].pid k' n' s' a' m' := rfl
    rw [hset] at o4
    have k04 : KB NoB h h4 := kFresh (kN k1 k3) k4 fun i hi => by omega
    have n4 := k04.1
    have m4 := SdD.kp f _ _ _ _ l[i] (saidV l[i].kind l[i].pid k' n' s' a' m') k4 (fun b (hb' : iS h1.length h3.length b) e => by omega) ⟨_, _, _, _, _, rfl, m3⟩
    obtain ⟨a5, h5, e5, o5, k5, b5, n5⟩ := app1 (bytes := 72) (ow.keepN k04) (n := i) (sz := 6) (cs := saidV l[i].kind l[i].pid k' n' s' a' m') hv rfl (by decide) rfl (by omega) (by omega) (by omega)
    have hao : ∀ b, blk ao b → b < h.length := fun b hb => (ow.lt hb).2
    have ch := ((hc.keep (SdD.kp _) k04 fun _ _ h => h).snoc (vs' := vs ++ saidV l[i].kind l[i].pid k' n' s' a' m') (S' := fun b => T b ∨ iS h1.length h3.length b) m4 (fun b hb hb' => by have := hT b hb'; omega) (fun b hb => .inl hb) (fun b hb => .inr hb) (fun j hj => chunk_app_other (by simp at hj; have := mul_le' (w := 6) (show j < i from by omega); omega)) (by
        rw [List.length_take, Nat.min_eq_left (by omega)]
        exact chunk_app_self rfl hv)).keep (SdD.kp _) k5 (fun b hb hk => by
          rcases hb with hb | hb
          · exact (ha b hk).1 hb
          · have := hao b hk; omega)
    rw [← take_snoc hlt] at ch
    obtain ⟨h6, a6, vs6, T6, y1, y2, y3, y4, y5, y6, y7⟩ := ihd (i + 1) h5 a5 (vs ++ saidV l[i].kind l[i].pid k' n' s' a' m') (fun b => T b ∨ iS h1.length h3.length b) (by omega) (hs.keep (kNB k04 k5) fun b h1 h2 => by have := hp b h1; have := (ha b h2).2; omega) (by omega) o5 (by simp; omega) ch (fun b hb => by
        rcases hb with hb | hb
        · have := hT b hb; omega
        · constructor <;> omega) (fun b hb => by
        have := b5 b hb
        subst this
        refine ⟨fun hb => ?_, by omega⟩
        rcases hb with hb | hb
        · have := hT _ hb; omega
        · omega)
    refine ⟨h6, a6, vs6, T6, ?_, y2, y3, y4, y5, y6, KB.trans (kNB k04 k5) y7 (fun b _ hb => (ha b hb).2) (fun _ _ h => h)⟩
    refine loop_on ?_ y1
    rw [B26_0_eq]
    refine ifT (decide_eq_true (by omega)) (ifT ⟨by omega, by omega⟩ (bs rfl ?_))
    simp only [Int.toNat_natCast]
    refine bI g0 (bI g1 (bI g2 (bI g3 (bT g4 (bS g5 (nw (by omega) rfl fun y ey => ?_))))))
    rw [hh1] at ey
    subst ey
    refine bI (o1.at0 (i := 2) rfl) (bI (o1.at0 (i := 3) rfl) (bT (o1.at0 (i := 4) rfl) (bS (o1.at0 (i := 5) rfl) ?_)))
    refine bs e3 (bs (v := termV k' n' s' a' m') rfl (bI rfl (bI rfl (bT rfl (bS rfl (bs e4 (q6 o4 (lets fun y2 ey2 => ?_))))))))
    subst ey2
    refine bs e5 (bS rfl ?_)
    rw [w64i (n := (i : Int) + 1) (by omega) (by omega)]
    rfl
theorem l14Copy_run {base f : Nat} {h : AH} {p : Nat → Prop} {l : List Sd} {a : Option Addr} (hl : l.length ≤ 1048576) (hB : ∀ x ∈ l, TmB f x.t) (hs : SsR h p f l a) (hb : base ≤ h.length) (hp : ∀ b, p b → b < h.length) :
    ∃ a' h', run (Et base) 26 [.slice a l.length l.length] h = some (.slice a' l.length l.length, h') ∧ RowD 6 (SdD f) (iS h.length h'.length) h' l a' ∧ KB NoB h h' := by
  obtain ⟨o1, k1, q1⟩ := box_own (base := base) (t := 29) (h := h) (cs := []) hb rfl
  generalize hh1 : h ++ [some (⟨[], 29⟩ : Blk)] = h1 at o1 k1 q1
  obtain ⟨h', ao, vs, T, e, ow, hv, hcc, hT, ha, k⟩ := l14Copy_loop (base := base) (lo := h.length) hl hB hp hb l.length 0 h1 (at0 h.length) [] (fun _ => False) (by omega) (hs.keep k1 fun _ _ h => h) (by omega) o1 (by simp) Chunks.nil (fun _ h => h.elim) (fun b hb => by rw [blk_at0] at hb; exact ⟨fun h => h, by omega⟩)
  rw [show ((0 : Nat) : Int) = 0 from rfl] at e
  refine ⟨ao, h', r26 (lets fun y ey => ?_), ⟨vs, T, ow.sl, hv, .inr fun b hb' => ⟨⟨(ha b hb').2, (ow.lt hb').2⟩, (ha b hb').1⟩, fun b hb' => hT b hb', hcc⟩, kFresh k1 k fun i hi => hi⟩
  rw [hh1] at ey
  subst ey
  exact bs e (ifT rfl (bS rfl rfl))

end Go.Proofs.Ytomcfongmahjaaa.Am
