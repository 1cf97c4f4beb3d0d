/- All timers copied by the program (printed from wip/gen/tf.py's pattern).
Conditions: none. -/
import Derived.Test.YtomcfongmahjaaaTiD
set_option linter.unusedSimpArgs false
set_option linter.unusedVariables false
namespace Go.Proofs.Ytomcfongmahjaaa.Am
open Go Go.RowKit

theorem SdD.at {f : Nat} {S : Fp} {h : AH} {x : Sd} {cs : List Value} (y : SdD f S h x cs) : cs.length = 6 := by
  obtain ⟨_, _, _, _, _, e, _⟩ := y
  rw [e]; rfl
theorem filter_snoc {α : Type} {q : α → Bool} {l : List α} {i : Nat} (hi : i < l.length) : (l.take (i + 1)).filter q = (l.take i).filter q ++ (if q l[i] = true then [l[i]] else []) := by
  rw [take_snoc hi, List.filter_append]
  congr 1
  by_cases c : q l[i] = true
  · rw [if_pos c]; simp [c]
  · rw [if_neg c]; simp [c]
theorem filter_le {α : Type} {q : α → Bool} {l : List α} {i : Nat} : ((l.take i).filter q).length ≤ l.length := Nat.le_trans (List.length_filter_le ..) (by simp; omega)

def qany (v : Int) (x : Sd) : Bool := true
theorem qany_run {base : Nat} {h : AH} {x : Sd} {k n : Int} {s : ByteArray} {a : Option Addr} {m : Nat} {v : Int} (hb : base ≤ h.length) :
    ∃ h', run (Et base) 25 [.agg (saidV x.kind x.pid k n s a m).toArray] h = some (.bool (qany v x), h') ∧ KB NoB h h' := by
  obtain ⟨o1, k1, q1⟩ := box_own (base := base) (t := 29) (h := h) (cs := saidV x.kind x.pid k n s a m) hb rfl
  generalize hh1 : h ++ [some (⟨saidV x.kind x.pid k n s a m, 29⟩ : Blk)] = h1 at o1 k1 q1
  refine ⟨h1, r25 (lets fun y ey => ?_), k1⟩
  rw [hh1] at ey
  subst ey
  rfl

theorem ifany_loop {base f : Nat} {p : Nat → Prop} {l : List Sd} {a : Option Addr} {lo : Nat} {v : Int} (hl : l.length ≤ 1048576) (hB : ∀ x ∈ l, TmB f x.t) (hp : ∀ b, p b → b < lo) (hlo : base ≤ lo) : ∀ (d i : Nat) (h : AH) (ao : Option Addr) (vs : List Value) (T : Fp), i + d = l.length → SsR h p f l a → lo ≤ h.length → Own base 29 h ao vs → vs.length = ((l.take i).filter (qany v)).length * 6 → Chunks 6 (SdD f) T h ((l.take i).filter (qany v)) vs → (∀ b, T b → lo ≤ b ∧ b < h.length) → (∀ b, blk ao b → ¬ T b ∧ lo ≤ b) →
    ∃ h' ao' vs' T', loopL (B24_0 base) [some (.func (.func 25) #[] #[]), some (.slice ao ((l.take i).filter (qany v)).length ((l.take i).filter (qany v)).length), some (.slice a l.length l.length), some (.int .i64 (l.length : Int)), some (.int .i64 (i : Int))] h = some (2, [some (.slice ao' (l.filter (qany v)).length (l.filter (qany v)).length)], h') ∧ Own base 29 h' ao' vs' ∧ vs'.length = (l.filter (qany v)).length * 6 ∧
      Chunks 6 (SdD f) T' h' (l.filter (qany v)) vs' ∧ (∀ b, T' b → lo ≤ b ∧ b < h'.length) ∧ (∀ b, blk ao' b → ¬ T' b ∧ lo ≤ b) ∧ KB (fun b => lo ≤ b) h h' := by
  intro d
  induction d with
  | zero =>
    intro i h ao vs T hi hs hlh ow hv hc hT ha
    rw [List.take_of_length_le (by omega)] at hc hv ⊢
    refine ⟨h, ao, vs, T, ?_, ow, hv, hc, hT, ha, KB.refl _ _⟩
    refine loop_off (by decide) ?_
    rw [B24_0_eq_any]
    exact ifF (by simp; omega) rfl
  | succ d ihd =>
    intro i h ao vs T hi hs hlh ow hv hc hT ha
    have hlt : i < l.length := by omega
    obtain ⟨ad, k, n, s, a2, m, rfl, hbl, g0, g1, g2, g3, g4, g5, hm⟩ := hs.get hlt
    obtain ⟨o1, k1, q1⟩ := box_own (base := base) (t := 29) (h := h) (cs := saidV l[i].kind l[i].pid k n s a2 m) (by omega) rfl
    generalize hh1 : h ++ [some (⟨saidV l[i].kind l[i].pid k n s a2 m, 29⟩ : Blk)] = h1 at o1 k1 q1
    obtain ⟨h2, e2, k2⟩ := qany_run (base := base) (h := h1) (x := l[i]) (k := k) (n := n) (s := s) (a := a2) (m := m) (v := v) (by omega)
    have n2 := k2.1
    have k02 : KB NoB h h2 := kN k1 k2
    have o2 := o1.keepN k2
    have hle := filter_le (q := qany v) (l := l) (i := i)
    by_cases c : qany v l[i] = true
    · have fs : (l.take (i + 1)).filter (qany v) = (l.take i).filter (qany v) ++ [l[i]] := by rw [filter_snoc hlt, if_pos c]
      obtain ⟨cs', h3, e3, m3, k3⟩ := copyTerm_run (base := base) f h2 p l[i].t _ (TmR.keep k02 (fun _ _ h => h) _ _ _ hm) (hB _ (List.getElem_mem hlt)) (by omega) (fun b hb => by have := hp b hb; omega)
      have n3 := k3.1
      obtain ⟨k', n', s', a', m', rfl⟩ := m3.form
      obtain ⟨h4, e4, o4, k4, l4⟩ := (o2.keepN k3).wr0 (i := 2) (new := termV k' n' s' a' m') (by simp) (by simp)
      have hset : setAt (saidV l[i].kind l[i].pid k n s a2 m) 2 (termV k' n' s' a' m') = saidV l[i].kind l[i].pid k' n' s' a' m' := rfl
      rw [hset] at o4
      have k04 : KB NoB h h4 := kFresh (kN k02 k3) k4 fun i hi => by omega
      have n4 := k04.1
      have m4 := SdD.kp f _ _ _ _ l[i] (saidV l[i].kind l[i].pid k' n' s' a' m') k4 (fun b (hb' : iS h2.length h3.length b) e => by omega) ⟨_, _, _, _, _, rfl, m3⟩
      obtain ⟨a5, h5, e5, o5, k5, b5, n5⟩ := app1 (bytes := 72) (ow.keepN k04) (n := ((l.take i).filter (qany v)).length) (sz := 6) (cs := saidV l[i].kind l[i].pid k' n' s' a' m') hv rfl (by decide) rfl (by omega) (by omega) (by omega)
      have hao : ∀ b, blk ao b → b < h.length := fun b hb => (ow.lt hb).2
      have ch := ((hc.keep (SdD.kp _) k04 fun _ _ h => h).snoc (vs' := vs ++ saidV l[i].kind l[i].pid k' n' s' a' m') (S' := fun b => T b ∨ iS h2.length h3.length b) m4 (fun b hb hb' => by have := hT b hb'; omega) (fun b hb => .inl hb) (fun b hb => .inr hb) (fun j hj => chunk_app_other (by have := mul_le' (w := 6) hj; omega)) (chunk_app_self rfl hv)).keep (SdD.kp _) k5 (fun b hb hk => by
          rcases hb with hb | hb
          · exact (ha b hk).1 hb
          · have := hao b hk; omega)
      rw [← fs] at ch
      have lensnoc : ((l.take (i + 1)).filter (qany v)).length = ((l.take i).filter (qany v)).length + 1 := by rw [fs]; simp
      obtain ⟨h6, a6, vs6, T6, y1, y2, y3, y4, y5, y6, y7⟩ := ihd (i + 1) h5 a5 (vs ++ saidV l[i].kind l[i].pid k' n' s' a' m') (fun b => T b ∨ iS h2.length h3.length b) (by omega) (hs.keep (kNB k04 k5) fun b h1 h2 => by have := hp b h1; have := (ha b h2).2; omega) (by omega) o5 (by rw [lensnoc]; simp; omega) ch (fun b hb => by
          rcases hb with hb | hb
          · have := hT b hb; omega
          · constructor <;> omega) (fun b hb => by
          have := b5 b hb
          subst this
          refine ⟨fun hb => ?_, by omega⟩
          rcases hb with hb | hb
          · have := hT _ hb; omega
          · omega)
      refine ⟨h6, a6, vs6, T6, ?_, y2, y3, y4, y5, y6, KB.trans (kNB k04 k5) y7 (fun b _ hb => (ha b hb).2) (fun _ _ h => h)⟩
      refine loop_on ?_ y1
      rw [B24_0_eq_any]
      refine ifT (decide_eq_true (by omega)) (ifT ⟨by omega, by omega⟩ (bs rfl ?_))
      simp only [Int.toNat_natCast]
      refine bI g0 (bI g1 (bI g2 (bI g3 (bT g4 (bS g5 (nw (by omega) rfl fun y ey => ?_))))))
      rw [hh1] at ey
      subst ey
      refine q6 o1 (bs (bs e2 (bB rfl rfl)) (bB rfl (ifT c ?_)))
      refine bI (o2.at0 (i := 2) rfl) (bI (o2.at0 (i := 3) rfl) (bT (o2.at0 (i := 4) rfl) (bS (o2.at0 (i := 5) rfl) ?_)))
      refine bs e3 (bs (v := termV k' n' s' a' m') rfl (bI rfl (bI rfl (bT rfl (bS rfl (bs e4 (q6 o4 (lets fun y2 ey2 => ?_))))))))
      subst ey2
      refine bs e5 (bS rfl ?_)
      rw [w64i (n := (i : Int) + 1) (by omega) (by omega), lensnoc]
      rfl
    · have fs : (l.take (i + 1)).filter (qany v) = (l.take i).filter (qany v) := by rw [filter_snoc hlt, if_neg c]; simp
      obtain ⟨h6, a6, vs6, T6, y1, y2, y3, y4, y5, y6, y7⟩ := ihd (i + 1) h2 ao vs T (by omega) (hs.keep k02 fun _ _ h => h) (by omega) (ow.keepN k02) (by rw [fs]; exact hv) (by rw [fs]; exact hc.keep (SdD.kp _) k02 fun _ _ h => h) (fun b hb => by have := hT b hb; omega) ha
      refine ⟨h6, a6, vs6, T6, ?_, y2, y3, y4, y5, y6, kNB k02 y7⟩
      refine loop_on ?_ y1
      rw [B24_0_eq_any]
      refine ifT (decide_eq_true (by omega)) (ifT ⟨by omega, by omega⟩ (bs rfl ?_))
      simp only [Int.toNat_natCast]
      refine bI g0 (bI g1 (bI g2 (bI g3 (bT g4 (bS g5 (nw (by omega) rfl fun y ey => ?_))))))
      rw [hh1] at ey
      subst ey
      refine q6 o1 (bs (bs e2 (bB rfl rfl)) (bB rfl (ifF c ?_)))
      rw [w64i (n := (i : Int) + 1) (by omega) (by omega), fs]
      rfl
theorem ifany_run {base f : Nat} {h : AH} {p : Nat → Prop} {l : List Sd} {a : Option Addr} {v : Int} (hl : l.length ≤ 1048576) (hB : ∀ x ∈ l, TmB f x.t) (hs : SsR h p f l a) (hb : base ≤ h.length) (hp : ∀ b, p b → b < h.length) :
    ∃ a' h', run (Et base) 24 [.slice a l.length l.length, .func (.func 25) #[] #[]] h = some (.slice a' (l.filter (qany v)).length (l.filter (qany v)).length, h') ∧ RowD 6 (SdD f) (iS h.length h'.length) h' (l.filter (qany v)) a' ∧ KB NoB h h' := by
  obtain ⟨h', ao, vs, T, e, ow, hv, hcc, hT, ha, k⟩ := ifany_loop (base := base) (v := v) hl hB hp hb l.length 0 h none [] (fun _ => False) (by omega) hs (by omega) (.inl ⟨rfl, rfl⟩) (by simp) Chunks.nil (fun _ h => h.elim) (fun b hb => by obtain ⟨_, e, _⟩ := hb; cases e)
  rw [show ((0 : Nat) : Int) = 0 from rfl] at e
  refine ⟨ao, h', r24_any (bs e (ifT rfl (bS rfl rfl))), ⟨vs, T, ow.sl, hv, .inr fun b hb' => ⟨⟨(ha b hb').2, (ow.lt hb').2⟩, (ha b hb').1⟩, fun b hb' => hT b hb', hcc⟩, k.mono fun i hi h => by omega⟩
theorem filter_any (v : Int) (l : List Sd) : l.filter (qany v) = l := List.filter_eq_self.2 fun _ _ => rfl
theorem copyTimers_run {base f : Nat} {h : AH} {p : Nat → Prop} {l : List Sd} {a : Option Addr} (hl : l.length ≤ 1048576) (hB : ∀ x ∈ l, TmB f x.t) (hs : SsR h p f l a) (hb : base ≤ h.length) (hp : ∀ b, p b → b < h.length) :
    ∃ a' h', run (Et base) 24 [.slice a l.length l.length, .func (.func 25) #[] #[]] h = some (.slice a' l.length l.length, h') ∧ RowD 6 (SdD f) (iS h.length h'.length) h' l a' ∧ KB NoB h h' := by
  obtain ⟨a', h', e, r, k⟩ := ifany_run (base := base) (v := 0) hl hB hs hb hp
  rw [filter_any] at e r
  exact ⟨a', h', e, r, k⟩
end Go.Proofs.Ytomcfongmahjaaa.Am
