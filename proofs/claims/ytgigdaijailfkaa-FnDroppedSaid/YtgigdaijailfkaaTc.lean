/- The reference's copies, drops and parts of timers, and the program's; the laws of DropTimers and DueTimers.
Conditions: none. -/
import Derived.Test.YtgigdaijailfkaaTf
set_option linter.unusedSimpArgs false
set_option linter.unusedVariables false
namespace Go.Proofs.Ytgigdaijailfkaa.Am
open Go Go.RowKit

theorem l14Copy_loop {base f : Nat} {p : Nat → Prop} {l : List Sd} {a : Option Addr} {lo : Nat} (hl : l.length ≤ 1048576) (hB : ∀ x ∈ l, TmB f x.t) (hp : ∀ b, p b → b < lo) (hlo : base ≤ lo) : ∀ (d i : Nat) (h : AH) (ao : Option Addr) (vs : List Value) (T : Fp), i + d = l.length → SsR h p f l a → lo ≤ h.length → Own base 70 h ao vs → vs.length = i * 6 → Chunks 6 (SdD f) T h (l.take i) vs → (∀ b, T b → lo ≤ b ∧ b < h.length) → (∀ b, blk ao b → ¬ T b ∧ lo ≤ b) →
    ∃ h' ao' vs' T', loopL (B87_0 base) [some (.slice a l.length l.length), some (.slice ao i i), some (.int .i64 (i : Int))] h = some (2, [some (.slice ao' l.length l.length)], h') ∧ Own base 70 h' ao' vs' ∧ vs'.length = l.length * 6 ∧
      Chunks 6 (SdD f) T' h' l vs' ∧ (∀ b, T' b → lo ≤ b ∧ b < h'.length) ∧ (∀ b, blk ao' b → ¬ T' b ∧ lo ≤ b) ∧ KB (fun b => lo ≤ b) h h' := by
  intro d
  induction d with
  | zero =>
    intro i h ao vs T hi hs hlh ow hv hc hT ha
    rw [List.take_of_length_le (by omega)] at hc
    have hi' : i = l.length := by omega
    subst hi'
    refine ⟨h, ao, vs, T, ?_, ow, hv, hc, hT, ha, KB.refl _ _⟩
    refine loop_off (by decide) ?_
    rw [B87_0_eq]
    exact ifF (by simp) rfl
  | succ d ihd =>
    intro i h ao vs T hi hs hlh ow hv hc hT ha
    have hlt : i < l.length := by omega
    obtain ⟨ad, k, n, s, a2, m, rfl, hbl, g0, g1, g2, g3, g4, g5, hm⟩ := hs.get hlt
    obtain ⟨o1, k1, q1⟩ := box_own (base := base) (t := 70) (h := h) (cs := saidV l[i].kind l[i].pid k n s a2 m) (by omega) rfl
    generalize hh1 : h ++ [some (⟨saidV l[i].kind l[i].pid k n s a2 m, 70⟩ : Blk)] = h1 at o1 k1 q1
    obtain ⟨cs', h3, e3, m3, k3⟩ := l1Copy_run (base := base) f h1 p l[i].t _ (TmR.keep k1 (fun _ _ h => h) _ _ _ hm) (hB _ (List.getElem_mem hlt)) (by omega) (fun b hb => by have := hp b hb; omega)
    have n3 := k3.1
    obtain ⟨k', n', s', a', m', rfl⟩ := m3.form
    obtain ⟨h4, e4, o4, k4, l4⟩ := (o1.keepN k3).wr0 (i := 2) (new := termV k' n' s' a' m') (by simp) (by simp)
    have hset : setAt (saidV l[i].kind l[i].pid k n s a2 m) 2 (termV k' n' s' a' m') = saidV l[i].kind l[i].pid k' n' s' a' m' := rfl
    rw [hset] at o4
    have k04 : KB NoB h h4 := kFresh (kN k1 k3) k4 fun i hi => by omega
    have n4 := k04.1
    have m4 := SdD.kp f _ _ _ _ l[i] (saidV l[i].kind l[i].pid k' n' s' a' m') k4 (fun b (hb' : iS h1.length h3.length b) e => by omega) ⟨_, _, _, _, _, rfl, m3⟩
    obtain ⟨a5, h5, e5, o5, k5, b5, n5⟩ := app1 (bytes := 72) (ow.keepN k04) (n := i) (sz := 6) (cs := saidV l[i].kind l[i].pid k' n' s' a' m') hv rfl (by decide) rfl (by omega) (by omega) (by omega)
    have hao : ∀ b, blk ao b → b < h.length := fun b hb => (ow.lt hb).2
    have ch := ((hc.keep (SdD.kp _) k04 fun _ _ h => h).snoc (vs' := vs ++ saidV l[i].kind l[i].pid k' n' s' a' m') (S' := fun b => T b ∨ iS h1.length h3.length b) m4 (fun b hb hb' => by have := hT b hb'; omega) (fun b hb => .inl hb) (fun b hb => .inr hb) (fun j hj => chunk_app_other (by simp at hj; have := mul_le' (w := 6) (show j < i from by omega); omega)) (by
        rw [List.length_take, Nat.min_eq_left (by omega)]
        exact chunk_app_self rfl hv)).keep (SdD.kp _) k5 (fun b hb hk => by
          rcases hb with hb | hb
          · exact (ha b hk).1 hb
          · have := hao b hk; omega)
    rw [← take_snoc hlt] at ch
    obtain ⟨h6, a6, vs6, T6, y1, y2, y3, y4, y5, y6, y7⟩ := ihd (i + 1) h5 a5 (vs ++ saidV l[i].kind l[i].pid k' n' s' a' m') (fun b => T b ∨ iS h1.length h3.length b) (by omega) (hs.keep (kNB k04 k5) fun b h1 h2 => by have := hp b h1; have := (ha b h2).2; omega) (by omega) o5 (by simp; omega) ch (fun b hb => by
        rcases hb with hb | hb
        · have := hT b hb; omega
        · constructor <;> omega) (fun b hb => by
        have := b5 b hb
        subst this
        refine ⟨fun hb => ?_, by omega⟩
        rcases hb with hb | hb
        · have := hT _ hb; omega
        · omega)
    refine ⟨h6, a6, vs6, T6, ?_, y2, y3, y4, y5, y6, KB.trans (kNB k04 k5) y7 (fun b _ hb => (ha b hb).2) (fun _ _ h => h)⟩
    refine loop_on ?_ y1
    rw [B87_0_eq]
    refine ifT (decide_eq_true (by omega)) (ifT ⟨by omega, by omega⟩ (bs rfl ?_))
    simp only [Int.toNat_natCast]
    refine bI g0 (bI g1 (bI g2 (bI g3 (bT g4 (bS g5 (nw (by omega) rfl fun y ey => ?_))))))
    rw [hh1] at ey
    subst ey
    refine bI (o1.at0 (i := 2) rfl) (bI (o1.at0 (i := 3) rfl) (bT (o1.at0 (i := 4) rfl) (bS (o1.at0 (i := 5) rfl) ?_)))
    refine bs e3 (bs (v := termV k' n' s' a' m') rfl (bI rfl (bI rfl (bT rfl (bS rfl (bs e4 (q6 o4 (lets fun y2 ey2 => ?_))))))))
    subst ey2
    refine bs e5 (bS rfl ?_)
    rw [w64i (n := (i : Int) + 1) (by omega) (by omega)]
    rfl
theorem l14Copy_run {base f : Nat} {h : AH} {p : Nat → Prop} {l : List Sd} {a : Option Addr} (hl : l.length ≤ 1048576) (hB : ∀ x ∈ l, TmB f x.t) (hs : SsR h p f l a) (hb : base ≤ h.length) (hp : ∀ b, p b → b < h.length) :
    ∃ a' h', run (Et base) 87 [.slice a l.length l.length] h = some (.slice a' l.length l.length, h') ∧ RowD 6 (SdD f) (iS h.length h'.length) h' l a' ∧ KB NoB h h' := by
  obtain ⟨o1, k1, q1⟩ := box_own (base := base) (t := 70) (h := h) (cs := []) hb rfl
  generalize hh1 : h ++ [some (⟨[], 70⟩ : Blk)] = h1 at o1 k1 q1
  obtain ⟨h', ao, vs, T, e, ow, hv, hcc, hT, ha, k⟩ := l14Copy_loop (base := base) (lo := h.length) hl hB hp hb l.length 0 h1 (at0 h.length) [] (fun _ => False) (by omega) (hs.keep k1 fun _ _ h => h) (by omega) o1 (by simp) Chunks.nil (fun _ h => h.elim) (fun b hb => by rw [blk_at0] at hb; exact ⟨fun h => h, by omega⟩)
  rw [show ((0 : Nat) : Int) = 0 from rfl] at e
  refine ⟨ao, h', r87 (lets fun y ey => ?_), ⟨vs, T, ow.sl, hv, .inr fun b hb' => ⟨⟨(ha b hb').2, (ow.lt hb').2⟩, (ha b hb').1⟩, fun b hb' => hT b hb', hcc⟩, kFresh k1 k fun i hi => hi⟩
  rw [hh1] at ey
  subst ey
  exact bs e (ifT rfl (bS rfl rfl))

/-- A row of whose entries each lies in a place that is known. -/
def RowC {α : Type} (w : Nat) (P : Fp → AH → α → List Value → Prop) (C : Nat → Fp) (h : AH) (l : List α) (a : Option Addr) (vs : List Value) : Prop :=
  Sl h a vs ∧ vs.length = l.length * w ∧ ∀ i x, l[i]? = some x → P (C i) h x (chunk w i vs)
theorem RowC.keep {α : Type} {w : Nat} {P : Fp → AH → α → List Value → Prop} (kp : Kp P) {C : Nat → Fp} {U : Fp} {h h' : AH} {l : List α} {a : Option Addr} {vs : List Value} (x : RowC w P C h l a vs) (k : KB U h h') (hU : ∀ b, U b → ¬ ((∃ q, C q b) ∨ (vs ≠ [] ∧ blk a b))) : RowC w P C h' l a vs := by
  obtain ⟨x1, x2, x3⟩ := x
  refine ⟨?_, x2, fun i y hy => kp _ _ _ _ _ _ k (fun b hb hu => hU b hu (.inl ⟨i, hb⟩)) (x3 i y hy)⟩
  by_cases e : vs = []
  · exact .inl e
  · exact x1.keep k fun b hb hu => hU b hu (.inr ⟨e, hb⟩)
theorem RowC.at {f : Nat} {C : Nat → Fp} {h : AH} {l : List Sd} {a : Option Addr} {vs : List Value} (x : RowC 6 (SdD f) C h l a vs) {i : Nat} (hi : i < l.length) :
    ∃ ad k n s a2 m, a = some ad ∧ Am.cell h ad.block (ad.off + i * 6) = some (.int .i64 l[i].kind) ∧ Am.cell h ad.block (ad.off + i * 6 + 1) = some (.int .i64 l[i].pid) ∧ Am.cell h ad.block (ad.off + i * 6 + 1 + 1) = some (.int .i64 k) ∧ Am.cell h ad.block (ad.off + i * 6 + 1 + 1 + 1) = some (.int .i64 n) ∧
      Am.cell h ad.block (ad.off + i * 6 + 1 + 1 + 1 + 1) = some (.string s) ∧ Am.cell h ad.block (ad.off + i * 6 + 1 + 1 + 1 + 1 + 1) = some (.slice a2 m m) ∧ SdD f (C i) h l[i] (saidV l[i].kind l[i].pid k n s a2 m) := by
  obtain ⟨x1, x2, x3⟩ := x
  have hP := x3 i _ (List.getElem?_eq_getElem hi)
  have hP' := hP
  obtain ⟨k, n, s, a2, m, e, _⟩ := hP'
  rw [e] at hP
  have cell : ∀ j v, (saidV l[i].kind l[i].pid k n s a2 m)[j]? = some v → ∃ ad, a = some ad ∧ Am.cell h ad.block (ad.off + i * 6 + j) = some v := by
    intro j v hj
    have hj6 : j < 6 := by have := (List.getElem?_eq_some_iff.1 hj).1; simpa using this
    rw [← e, chunk, List.getElem?_take_of_lt hj6, List.getElem?_drop] at hj
    obtain ⟨ad, g1, g2⟩ := x1.cell hj
    exact ⟨ad, g1, by rw [Nat.add_assoc]; exact g2⟩
  obtain ⟨ad, rfl, g0⟩ := cell 0 _ rfl
  obtain ⟨ad1, ead, g1⟩ := cell 1 _ rfl
  injection ead with ead; subst ead
  obtain ⟨ad1, ead, g2⟩ := cell 2 _ rfl
  injection ead with ead; subst ead
  obtain ⟨ad1, ead, g3⟩ := cell 3 _ rfl
  injection ead with ead; subst ead
  obtain ⟨ad1, ead, g4⟩ := cell 4 _ rfl
  injection ead with ead; subst ead
  obtain ⟨ad1, ead, g5⟩ := cell 5 _ rfl
  injection ead with ead; subst ead
  exact ⟨ad, k, n, s, a2, m, rfl, g0, g1, g2, g3, g4, g5, hP⟩

theorem specDrop_loop {base f : Nat} {l : List Sd} {a : Option Addr} {vsA : List Value} {C : Nat → Fp} {ob Hi : Nat} {v : Int} (hl : l.length ≤ 1048576) (hob : base ≤ ob) (hdis : ∀ i j b, i ≠ j → C i b → ¬ C j b) (hD : ∀ b, ((∃ q, C q b) ∨ (vsA ≠ [] ∧ blk a b)) → ob ≤ b ∧ b < Hi) : ∀ (d i : Nat) (h : AH) (ao : Option Addr) (vs : List Value) (T : Fp), i + d = l.length → RowC 6 (SdD f) C h l a vsA → Hi ≤ h.length → ob ≤ h.length → Own base 70 h ao vs → vs.length = ((l.take i).filter (qdrop v)).length * 6 → Chunks 6 (SdD f) T h ((l.take i).filter (qdrop v)) vs → (∀ b, T b → ∃ q, q < i ∧ C q b) → (∀ b, blk ao b → ¬ ((∃ q, C q b) ∨ (vsA ≠ [] ∧ blk a b)) ∧ ob ≤ b) →
    ∃ h' ao' vs' T', loopL (B49_0 base) [some (.int .i64 v), some (.slice ao ((l.take i).filter (qdrop v)).length ((l.take i).filter (qdrop v)).length), some (.slice a l.length l.length), some (.int .i64 (i : Int))] h = some (2, [some (.slice ao' (l.filter (qdrop v)).length (l.filter (qdrop v)).length)], h') ∧ Own base 70 h' ao' vs' ∧ vs'.length = (l.filter (qdrop v)).length * 6 ∧
      Chunks 6 (SdD f) T' h' (l.filter (qdrop v)) vs' ∧ (∀ b, T' b → ob ≤ b ∧ b < h'.length) ∧ (∀ b, blk ao' b → ¬ T' b ∧ ob ≤ b) ∧ KB (fun b => ob ≤ b) h h' := by
  intro d
  induction d with
  | zero =>
    intro i h ao vs T hi hs hHi hobh ow hv hc hT ha
    rw [List.take_of_length_le (by omega)] at hc hv ⊢
    refine ⟨h, ao, vs, T, ?_, ow, hv, hc, fun b hb => ?_, fun b hb => ⟨fun hb' => ?_, (ha b hb).2⟩, KB.refl _ _⟩
    · refine loop_off (by decide) ?_
      rw [B49_0_eq]
      exact ifF (by simp; omega) rfl
    · obtain ⟨q, _, hq⟩ := hT b hb
      have := hD b (.inl ⟨q, hq⟩)
      omega
    · obtain ⟨q, _, hq⟩ := hT b hb'
      exact (ha b hb).1 (.inl ⟨q, hq⟩)
  | succ d ihd =>
    intro i h ao vs T hi hs hHi hobh ow hv hc hT ha
    have hlt : i < l.length := by omega
    obtain ⟨ad, k, n, s, a2, m, rfl, g0, g1, g2, g3, g4, g5, hP⟩ := hs.at hlt
    have hle := filter_le (q := qdrop v) (l := l) (i := i)
    by_cases c : qdrop v l[i] = true
    · have fs : (l.take (i + 1)).filter (qdrop v) = (l.take i).filter (qdrop v) ++ [l[i]] := by rw [filter_snoc hlt, if_pos c]
      obtain ⟨a5, h5, e5, o5, k5, b5, n5⟩ := app1 (bytes := 72) ow (n := ((l.take i).filter (qdrop v)).length) (sz := 6) (cs := saidV l[i].kind l[i].pid k n s a2 m) hv rfl (by decide) rfl (by omega) (by omega) (by omega)
      have ch := (hc.snoc (vs' := vs ++ saidV l[i].kind l[i].pid k n s a2 m) (S' := fun b => T b ∨ C i b) hP (fun b hb hb' => by
          obtain ⟨q, hq, hqb⟩ := hT b hb'
          exact hdis q i b (by omega) hqb hb) (fun b hb => .inl hb) (fun b hb => .inr hb) (fun j hj => chunk_app_other (by have := mul_le' (w := 6) hj; omega)) (chunk_app_self rfl hv)).keep (SdD.kp _) k5 (fun b hb hk => by
          rcases hb with hb | hb
          · obtain ⟨q, _, hqb⟩ := hT b hb
            exact (ha b hk).1 (.inl ⟨q, hqb⟩)
          · exact (ha b hk).1 (.inl ⟨i, hb⟩))
      rw [← fs] at ch
      have lensnoc : ((l.take (i + 1)).filter (qdrop v)).length = ((l.take i).filter (qdrop v)).length + 1 := by rw [fs]; simp
      obtain ⟨h6, a6, vs6, T6, y1, y2, y3, y4, y5, y6, y7⟩ := ihd (i + 1) h5 a5 (vs ++ saidV l[i].kind l[i].pid k n s a2 m) (fun b => T b ∨ C i b) (by omega) (hs.keep (SdD.kp _) k5 fun b hb => (ha b hb).1) (by omega) (by omega) o5 (by rw [lensnoc]; simp; omega) ch (fun b hb => by
          rcases hb with hb | hb
          · obtain ⟨q, hq, hqb⟩ := hT b hb
            exact ⟨q, by omega, hqb⟩
          · exact ⟨i, by omega, hb⟩) (fun b hb => by
          have := b5 b hb
          subst this
          exact ⟨fun hb => by have := hD _ hb; omega, by omega⟩)
      refine ⟨h6, a6, vs6, T6, ?_, y2, y3, y4, y5, y6, KB.trans k5 y7 (fun b _ hb => (ha b hb).2) (fun _ _ h => h)⟩
      refine loop_on ?_ y1
      rw [B49_0_eq]
      refine ifT (decide_eq_true (by omega)) ?_
      refine bj (q := ([some (.int .i64 v), some (.slice a5 (((l.take i).filter (qdrop v)).length + 1) (((l.take i).filter (qdrop v)).length + 1)), some (.slice (some ad) l.length l.length), some (.int .i64 (i : Int))], h5)) ?_ ?_
      · refine ifT ⟨by omega, by omega⟩ (bs rfl ?_)
        simp only [Int.toNat_natCast]
        refine bI g1 (ifT c (ifT ⟨by omega, by omega⟩ (bs rfl ?_)))
        refine bI g0 (bI g1 (bI g2 (bI g3 (bT g4 (bS g5 (lets fun y2 ey2 => ?_))))))
        subst ey2
        exact bs e5 (bS rfl rfl)
      · refine bI rfl (bS rfl (bS rfl (bI rfl ?_)))
        rw [w64i (n := (i : Int) + 1) (by omega) (by omega), lensnoc]
        rfl
    · have fs : (l.take (i + 1)).filter (qdrop v) = (l.take i).filter (qdrop v) := by rw [filter_snoc hlt, if_neg c]; simp
      obtain ⟨h6, a6, vs6, T6, y1, y2, y3, y4, y5, y6, y7⟩ := ihd (i + 1) h ao vs T (by omega) hs hHi hobh ow (by rw [fs]; exact hv) (by rw [fs]; exact hc) (fun b hb => by obtain ⟨q, hq, hqb⟩ := hT b hb; exact ⟨q, by omega, hqb⟩) ha
      refine ⟨h6, a6, vs6, T6, ?_, y2, y3, y4, y5, y6, y7⟩
      refine loop_on ?_ y1
      rw [B49_0_eq]
      refine ifT (decide_eq_true (by omega)) ?_
      refine bj (q := ([some (.int .i64 v), some (.slice ao ((l.take i).filter (qdrop v)).length ((l.take i).filter (qdrop v)).length), some (.slice (some ad) l.length l.length), some (.int .i64 (i : Int))], h)) ?_ ?_
      · refine ifT ⟨by omega, by omega⟩ (bs rfl ?_)
        simp only [Int.toNat_natCast]
        exact bI g1 (ifF c rfl)
      · refine bI rfl (bS rfl (bS rfl (bI rfl ?_)))
        rw [w64i (n := (i : Int) + 1) (by omega) (by omega), fs]
        rfl
theorem specDrop_run {base f : Nat} {h : AH} {p : Nat → Prop} {l : List Sd} {a : Option Addr} {v : Int} (hl : l.length ≤ 1048576) (hB : ∀ x ∈ l, TmB f x.t) (hs : SsR h p f l a) (hb : base ≤ h.length) (hp : ∀ b, p b → b < h.length) :
    ∃ a' h', run (Et base) 49 [.slice a l.length l.length, .int .i64 v] h = some (.slice a' (l.filter (qdrop v)).length (l.filter (qdrop v)).length, h') ∧ RowD 6 (SdD f) (iS h.length h'.length) h' (l.filter (qdrop v)) a' ∧ KB NoB h h' := by
  obtain ⟨o1, k1, q1⟩ := box_own (base := base) (t := 70) (h := h) (cs := []) hb rfl
  generalize hh1 : h ++ [some (⟨[], 70⟩ : Blk)] = h1 at o1 k1 q1
  obtain ⟨aA, h2, e2, r2, k2⟩ := l14Copy_run (base := base) hl hB (hs.keep k1 fun _ _ h => h) (by omega) (fun b hb => by have := hp b hb; omega)
  have n2 := k2.1
  obtain ⟨vsA, TA, x1, x2, x3, x4, C, c1, c2, c3⟩ := r2
  have hD : ∀ b, ((∃ q, C q b) ∨ (vsA ≠ [] ∧ blk aA b)) → h.length ≤ b ∧ b < h2.length := by
    intro b hb
    rcases hb with ⟨q, hq⟩ | ⟨hne, hq⟩
    · have := x4 b (c1 q b hq); omega
    · have := (x3.resolve_left hne b hq).1; omega
  obtain ⟨h', ao, vs, T, e, ow, hv, hcc, hT, ha, k⟩ := specDrop_loop (base := base) (f := f) (v := v) (C := C) (vsA := vsA) (ob := h.length) (Hi := h2.length) hl hb c2 hD l.length 0 h2 (at0 h.length) [] (fun _ => False) (by omega) ⟨x1, x2, c3⟩ (by omega) (by omega) (o1.keepN k2) (by simp) Chunks.nil (fun _ h => h.elim) (fun b hb => by
    rw [blk_at0] at hb
    subst hb
    refine ⟨fun hb => ?_, by omega⟩
    rcases hb with ⟨q, hq⟩ | ⟨hne, hq⟩
    · have := x4 _ (c1 q _ hq); omega
    · have := (x3.resolve_left hne _ hq).1; omega)
  rw [show ((0 : Nat) : Int) = 0 from rfl] at e
  refine ⟨ao, h', r49 (lets fun y ey => ?_), ⟨vs, T, ow.sl, hv, .inr fun b hb' => ⟨⟨(ha b hb').2, (ow.lt hb').2⟩, (ha b hb').1⟩, fun b hb' => hT b hb', hcc⟩, kFresh (kN k1 k2) k fun i hi => hi⟩
  rw [hh1] at ey
  subst ey
  exact bs e2 (bS rfl (bs e (ifT rfl (bS rfl rfl))))
theorem implDrop_run {base f : Nat} {h : AH} {p : Nat → Prop} {l : List Sd} {a : Option Addr} {v : Int} (hl : l.length ≤ 1048576) (hB : ∀ x ∈ l, TmB f x.t) (hs : SsR h p f l a) (hb : base ≤ h.length) (hp : ∀ b, p b → b < h.length) :
    ∃ a' h', run (Et base) 50 [.slice a l.length l.length, .int .i64 v] h = some (.slice a' (l.filter (qdrop v)).length (l.filter (qdrop v)).length, h') ∧ RowD 6 (SdD f) (iS h.length h'.length) h' (l.filter (qdrop v)) a' ∧ KB NoB h h' := by
  obtain ⟨o1, k1, q1⟩ := box_own (base := base) (t := 3) (h := h) (cs := [.int .i64 v]) hb rfl
  generalize hh1 : h ++ [some (⟨[.int .i64 v], 3⟩ : Blk)] = h1 at o1 k1 q1
  obtain ⟨a2, h2, e2, r2, k2⟩ := ifdrop_run (base := base) (pb := h.length) (v := v) hl hB (hs.keep k1 fun _ _ h => h) (by omega) (fun b hb => by have := hp b hb; omega) (o1.at0 (i := 0) rfl) (by omega)
  have n2 := k2.1
  refine ⟨a2, h2, r50 (lets fun y ey => ?_), r2.mono fun b hb => by constructor <;> omega, kN k1 k2⟩
  rw [hh1] at ey
  subst ey
  exact bs e2 (bS rfl rfl)

theorem sumL_filter {α : Type} (g : α → Nat) (q : α → Bool) : ∀ l : List α, sumL g (l.filter q) ≤ sumL g l
  | [] => Nat.le_refl _
  | x :: r => by
    have := sumL_filter g q r
    by_cases c : q x = true
    · rw [List.filter_cons_of_pos c]; simp only [sumL]; omega
    · rw [List.filter_cons_of_neg c]; simp only [sumL]; omega
theorem mcT_filter {f : Nat} {l : List Sd} (q : Sd → Bool) : mcT f (l.filter q) ≤ mcT f l := by
  have := sumL_filter (fun x : Sd => tcnt f x.t) q l
  have := List.length_filter_le q l
  unfold mcT
  omega

theorem dropTimers_law {base f : Nat} {h : AH} {p : Nat → Prop} {l : List Sd} {a : Option Addr} {v : Int} (hl : l.length ≤ 9223372036854775807) (hs : SsR h p f l a) (hb : base ≤ h.length) (hp : ∀ b, p b → b < h.length) :
    ∃ h', run (Et base) 11 [.slice a l.length l.length, .int .i64 v] h = some (.bool true, h') := by
  obtain ⟨z, h1, e1, k1, hz⟩ := szTimerS_run (base := base) hl hs hb hp
  have n1 := k1.1
  by_cases hneg : z < 0
  · exact ⟨h1, r11 (bs e1 (bI rfl (ifT (decide_eq_true hneg) rfl)))⟩
  obtain ⟨hlen, hB, hcnt⟩ := hz hneg
  have hfl := List.length_filter_le (qdrop v) l
  have hmc : mcT f l ≤ 5242880 := by unfold mcT; omega
  have hmf := mcT_filter (f := f) (l := l) (qdrop v)
  have hm0 : 0 ≤ mcT f l := by unfold mcT; omega
  have lt : ∀ {x : AH}, h.length ≤ x.length → ∀ b, p b → b < x.length := fun hx b hbp => by have := hp b hbp; omega
  obtain ⟨a3, h3, e3, s3, k3⟩ := toTimerSD_run (base := base) hlen hB (hs.keep k1 fun _ _ h => h) (by omega) (lt n1)
  have n3 := k3.1
  obtain ⟨a5, h5, e5, W, k5⟩ := specDrop_run (base := base) (v := v) hlen hB s3.ssR (by omega) (fun b hb => hb.2)
  have n5 := k5.1
  have k05 : KB NoB h h5 := kN (kN k1 k3) k5
  obtain ⟨a7, h7, e7, X, k7⟩ := toTimerSD_run (base := base) hlen hB (hs.keep k05 fun _ _ h => h) (by omega) (lt k05.1)
  have n7 := k7.1
  obtain ⟨a9, h9, e9, G, k9⟩ := implDrop_run (base := base) (v := v) hlen hB X.ssR (by omega) (fun b hb => hb.2)
  have n9 := k9.1
  have W9 := (W.keep (SdD.kp _) k7 fun _ _ h => h).keep (SdD.kp _) k9 fun _ _ h => h
  obtain ⟨h11, e11, k11⟩ := eqTimerS_run (base := base) (by omega) G.ssR W9.ssR (by omega)
  have n11 := k11.1
  have k011 : KB NoB h h11 := kN (kN (kN k05 k7) k9) k11
  obtain ⟨a13, h13, e13, s13, k13⟩ := toTimerSD_run (base := base) hlen hB (hs.keep k011 fun _ _ h => h) (by omega) (lt k011.1)
  have n13 := k13.1
  have k713 : KB NoB h7 h13 := kN (kN k9 k11) k13
  obtain ⟨h15, e15, k15⟩ := eqTimerS_run (base := base) (by omega) ((X.keep (SdD.kp _) k713 fun _ _ h => h).ssR) s13.ssR (by omega)
  have n15 := k15.1
  have k715 : KB NoB h7 h15 := kN k713 k15
  have k915 : KB NoB h9 h15 := kN (kN k11 k13) k15
  obtain ⟨lx, h17, e17, X17, _, mx, k17⟩ := markTimerS_run (base := base) (k := 1) (X.keep (SdD.kp _) k715 fun _ _ h => h) (by simp only [maxLen]; omega) (fun b hb => by have := k715.1; omega) (by omega) (by omega)
  have n17 := k17.1
  have G17 := (G.keep (SdD.kp _) k915 fun _ _ h => h).keep (SdD.kp _) k17 fun b h1 h2 => by omega
  have W17 := (W9.keep (SdD.kp _) k915 fun _ _ h => h).keep (SdD.kp _) k17 fun b h1 h2 => by omega
  obtain ⟨h20, e20, k20⟩ := eqTimerS_run (base := base) (by omega) G17.ssR W17.ssR (by omega)
  have n20 := k20.1
  obtain ⟨lg, h27, e27, G27, leng, mg, k27⟩ := markTimerS_run (base := base) (k := 1) (G17.keep (SdD.kp _) k20 fun _ _ h => h) (by simp only [maxLen]; omega) (fun b hb => by omega) (by omega) (by omega)
  have n27 := k27.1
  obtain ⟨h29, e29, k29⟩ := heldTimerS_run (base := base) mg (by omega) (by omega) (by omega) G27.ssR (by omega)
  have n29 := k29.1
  rw [leng] at e29
  have k029 : KB (fun b => h5.length ≤ b) h h29 := KB.trans (KB.trans (KB.trans (KB.trans k011 (kN k13 k15) (fun _ _ h => h.elim) (fun _ _ h => h.elim)) k17 (fun _ _ h => h) (fun i _ hi => hi.1)) (kNB k20 k27) (fun _ _ h => h) (fun i _ hi => by omega)) k29 (fun _ _ h => h) (fun _ _ h => h.elim)
  have hs29 := hs.keep k029 fun b h1 h2 => by have := hp b h1; omega
  obtain ⟨a31, h31, e31, s31, k31⟩ := toTimerSD_run (base := base) hlen hB hs29 (by omega) (lt k029.1)
  have n31 := k31.1
  obtain ⟨a33, h33, e33, G33, k33⟩ := implDrop_run (base := base) (v := v) hlen hB s31.ssR (by omega) (fun b hb => hb.2)
  have n33 := k33.1
  have W33 := ((((W17.keep (SdD.kp _) k20 fun _ _ h => h).keep (SdD.kp _) k27 fun b h1 h2 => by omega).keep (SdD.kp _) k29 fun _ _ h => h).keep (SdD.kp _) k31 fun _ _ h => h).keep (SdD.kp _) k33 fun _ _ h => h
  obtain ⟨h35, e35, k35⟩ := eqTimerS_run (base := base) (by omega) G33.ssR W33.ssR (by omega)
  have n35 := k35.1
  have G35 := (((G27.keep (SdD.kp _) k29 fun _ _ h => h).keep (SdD.kp _) k31 fun _ _ h => h).keep (SdD.kp _) k33 fun _ _ h => h).keep (SdD.kp _) k35 fun _ _ h => h
  obtain ⟨h37, e37, k37⟩ := heldTimerS_run (base := base) mg (by omega) (by omega) (by omega) G35.ssR (by omega)
  rw [leng] at e37
  refine ⟨h37, r11 (bs e1 (bI rfl (ifF (by simpa using hneg) ?_)))⟩
  refine bs e3 (bS rfl (bs e5 (bS rfl (bs e7 (bS rfl (bs e9 (bS rfl (bs e11 (bB rfl (ifF (by decide) ?_))))))))))
  refine bs e13 (bS rfl (bs e15 (bB rfl (ifF (by decide) (bs e17 (bI rfl ?_))))))
  refine bj (q := ([some (.slice a l.length l.length), some (.int .i64 v), some (.slice a5 (l.filter (qdrop v)).length (l.filter (qdrop v)).length), some (.slice a9 (l.filter (qdrop v)).length (l.filter (qdrop v)).length), some (.bool false)], h20)) ?_ ?_
  · exact ifF (by simp; omega) (bs e20 (bB rfl rfl))
  · refine bS rfl (bI rfl (bS rfl (bS rfl (bB rfl (ifF (by decide) ?_)))))
    refine bs e27 (bI rfl (bs e29 (bI rfl (ifF (by simp; unfold mcT; omega) (ifF (by simp) ?_)))))
    refine bs e31 (bS rfl (bs e33 (bS rfl (bs e35 (bB rfl (ifF (by decide) ?_))))))
    exact bs e37 (bI rfl (ifF (by simp; unfold mcT; omega) (ifF (by simp) rfl)))
theorem dropTimers_entry {base : Nat} {h : AH} {f : Nat} {u : Value} {v : Int} (x : Rd Try.prog h f 58 [u]) (hb : base ≤ h.length) : ∃ h', run (Et base) 11 [u, .int .i64 v] h = some (.bool true, h') := by
  obtain ⟨g, a, l, rfl, hl, hs⟩ := rd_timers x
  simp only [maxLen] at hl
  exact dropTimers_law (by omega) hs hb fun b hb => hb
end Go.Proofs.Ytgigdaijailfkaa.Am
