/- The reference's and the program's due timers; the law of DueTimers.
Conditions: none. -/
import Derived.Test.YtgigdaijailfkaaTc
set_option linter.unusedSimpArgs false
set_option linter.unusedVariables false
namespace Go.Proofs.Ytgigdaijailfkaa.Am
open Go Go.RowKit

theorem specDue_loop {base f : Nat} {l : List Sd} {a : Option Addr} {vsA : List Value} {C : Nat → Fp} {ob Hi : Nat} {v : Int} (hl : l.length ≤ 1048576) (hob : base ≤ ob) (hdis : ∀ i j b, i ≠ j → C i b → ¬ C j b) (hD : ∀ b, ((∃ q, C q b) ∨ (vsA ≠ [] ∧ blk a b)) → ob ≤ b ∧ b < Hi) : ∀ (d i : Nat) (h : AH) (ao : Option Addr) (vs : List Value) (T : Fp) (ap : Option Addr) (us : List Value) (U : Fp), i + d = l.length → RowC 6 (SdD f) C h l a vsA → Hi ≤ h.length → ob ≤ h.length →
    Own base 70 h ao vs → vs.length = ((l.take i).filter (qdue v)).length * 6 → Chunks 6 (SdD f) T h ((l.take i).filter (qdue v)) vs → (∀ b, T b → ∃ q, q < i ∧ C q b) → (∀ b, blk ao b → ¬ ((∃ q, C q b) ∨ (vsA ≠ [] ∧ blk a b)) ∧ ob ≤ b) →
    Own base 70 h ap us → us.length = ((l.take i).filter (qrest v)).length * 6 → Chunks 6 (SdD f) U h ((l.take i).filter (qrest v)) us → (∀ b, U b → ∃ q, q < i ∧ C q b) → (∀ b, blk ap b → ¬ ((∃ q, C q b) ∨ (vsA ≠ [] ∧ blk a b)) ∧ ob ≤ b) → (∀ b, blk ao b → ¬ blk ap b) →
    ∃ h' ao' vs' T' ap' us' U', loopL (B53_0 base) [some (.int .i64 v), some (.slice ao ((l.take i).filter (qdue v)).length ((l.take i).filter (qdue v)).length), some (.slice ap ((l.take i).filter (qrest v)).length ((l.take i).filter (qrest v)).length), some (.slice a l.length l.length), some (.int .i64 (i : Int))] h =
        some (2, [some (.slice ao' (l.filter (qdue v)).length (l.filter (qdue v)).length), some (.slice ap' (l.filter (qrest v)).length (l.filter (qrest v)).length)], h') ∧
      (Own base 70 h' ao' vs' ∧ vs'.length = (l.filter (qdue v)).length * 6 ∧ Chunks 6 (SdD f) T' h' (l.filter (qdue v)) vs' ∧ (∀ b, T' b → ob ≤ b ∧ b < h'.length) ∧ (∀ b, blk ao' b → ¬ T' b ∧ ob ≤ b)) ∧
      (Own base 70 h' ap' us' ∧ us'.length = (l.filter (qrest v)).length * 6 ∧ Chunks 6 (SdD f) U' h' (l.filter (qrest v)) us' ∧ (∀ b, U' b → ob ≤ b ∧ b < h'.length) ∧ (∀ b, blk ap' b → ¬ U' b ∧ ob ≤ b)) ∧ KB (fun b => ob ≤ b) h h' := by
  intro d
  induction d with
  | zero =>
    intro i h ao vs T ap us U hi hs hHi hobh ow hv hc hT ha ow2 hv2 hc2 hT2 ha2 hd2
    rw [List.take_of_length_le (by omega)] at hc hv hc2 hv2 ⊢
    have e1 : ∀ (T : Fp), (∀ b, T b → ∃ q, q < i ∧ C q b) → ∀ b, T b → ob ≤ b ∧ b < h.length := fun T hT b hb => by
      obtain ⟨q, _, hq⟩ := hT b hb
      have := hD b (.inl ⟨q, hq⟩)
      omega
    refine ⟨h, ao, vs, T, ap, us, U, ?_, ⟨ow, hv, hc, e1 T hT, fun b hb => ⟨fun hb' => ?_, (ha b hb).2⟩⟩, ⟨ow2, hv2, hc2, e1 U hT2, fun b hb => ⟨fun hb' => ?_, (ha2 b hb).2⟩⟩, KB.refl _ _⟩
    · refine loop_off (by decide) ?_
      rw [B53_0_eq]
      exact ifF (by simp; omega) rfl
    · obtain ⟨q, _, hq⟩ := hT b hb'
      exact (ha b hb).1 (.inl ⟨q, hq⟩)
    · obtain ⟨q, _, hq⟩ := hT2 b hb'
      exact (ha2 b hb).1 (.inl ⟨q, hq⟩)
  | succ d ihd =>
    intro i h ao vs T ap us U hi hs hHi hobh ow hv hc hT ha ow2 hv2 hc2 hT2 ha2 hd2
    have hlt : i < l.length := by omega
    obtain ⟨ad, k, n, s, a2, m, rfl, g0, g1, g2, g3, g4, g5, hP⟩ := hs.at hlt
    have hle := filter_le (q := qdue v) (l := l) (i := i)
    have hle2 := filter_le (q := qrest v) (l := l) (i := i)
    have up : ∀ (T : Fp), (∀ b, T b → ∃ q, q < i ∧ C q b) → ∀ b, T b → ∃ q, q < i + 1 ∧ C q b := fun T hT b hb => by
      obtain ⟨q, hq, hqb⟩ := hT b hb
      exact ⟨q, by omega, hqb⟩
    by_cases c : l[i].kind ≤ v
    · have cd : qdue v l[i] = true := decide_eq_true c
      have cr : ¬ qrest v l[i] = true := by unfold qrest; simp; omega
      have fs : (l.take (i + 1)).filter (qdue v) = (l.take i).filter (qdue v) ++ [l[i]] := by rw [filter_snoc hlt, if_pos cd]
      have fr : (l.take (i + 1)).filter (qrest v) = (l.take i).filter (qrest v) := by rw [filter_snoc hlt, if_neg cr]; simp
      obtain ⟨a5, h5, e5, o5, k5, b5, n5⟩ := app1 (bytes := 72) ow (n := ((l.take i).filter (qdue v)).length) (sz := 6) (cs := saidV l[i].kind l[i].pid k n s a2 m) hv rfl (by decide) rfl (by omega) (by omega) (by omega)
      have ch := (hc.snoc (vs' := vs ++ saidV l[i].kind l[i].pid k n s a2 m) (S' := fun b => T b ∨ C i b) hP (fun b hb hb' => by
          obtain ⟨q, hq, hqb⟩ := hT b hb'
          exact hdis q i b (by omega) hqb hb) (fun b hb => .inl hb) (fun b hb => .inr hb) (fun j hj => chunk_app_other (by have := mul_le' (w := 6) hj; omega)) (chunk_app_self rfl hv)).keep (SdD.kp _) k5 (fun b hb hk => by
          rcases hb with hb | hb
          · obtain ⟨q, _, hqb⟩ := hT b hb
            exact (ha b hk).1 (.inl ⟨q, hqb⟩)
          · exact (ha b hk).1 (.inl ⟨i, hb⟩))
      rw [← fs] at ch
      have lensnoc : ((l.take (i + 1)).filter (qdue v)).length = ((l.take i).filter (qdue v)).length + 1 := by rw [fs]; simp
      have ch2 := hc2.keep (SdD.kp _) k5 fun b hb hk => by
        obtain ⟨q, _, hqb⟩ := hT2 b hb
        exact (ha b hk).1 (.inl ⟨q, hqb⟩)
      obtain ⟨h6, a6, vs6, T6, p6, us6, U6, y1, y2, y3, y4⟩ := ihd (i + 1) h5 a5 (vs ++ saidV l[i].kind l[i].pid k n s a2 m) (fun b => T b ∨ C i b) ap us U (by omega) (hs.keep (SdD.kp _) k5 fun b hb => (ha b hb).1) (by omega) (by omega) o5 (by rw [lensnoc]; simp; omega) ch (fun b hb => by
          rcases hb with hb | hb
          · exact up T hT b hb
          · exact ⟨i, by omega, hb⟩) (fun b hb => by
          have := b5 b hb
          subst this
          exact ⟨fun hb => by have := hD _ hb; omega, by omega⟩) (ow2.keep k5 fun b hb hk => hd2 b hk hb) (by rw [fr]; exact hv2) (by rw [fr]; exact ch2) (up U hT2) ha2 (fun b hb hb' => by
          have := b5 b hb
          have := (ow2.lt hb').2
          omega)
      refine ⟨h6, a6, vs6, T6, p6, us6, U6, ?_, y2, y3, KB.trans k5 y4 (fun b _ hb => (ha b hb).2) (fun _ _ h => h)⟩
      refine loop_on ?_ y1
      rw [B53_0_eq]
      refine ifT (decide_eq_true (by omega)) ?_
      refine bj (q := ([some (.int .i64 v), some (.slice a5 (((l.take i).filter (qdue v)).length + 1) (((l.take i).filter (qdue v)).length + 1)), some (.slice ap ((l.take i).filter (qrest v)).length ((l.take i).filter (qrest v)).length), some (.slice (some ad) l.length l.length), some (.int .i64 (i : Int))], h5)) ?_ ?_
      · refine ifT ⟨by omega, by omega⟩ (bs rfl ?_)
        simp only [Int.toNat_natCast]
        refine bI g0 (ifT (decide_eq_true c) (ifT ⟨by omega, by omega⟩ (bs rfl ?_)))
        refine bI g0 (bI g1 (bI g2 (bI g3 (bT g4 (bS g5 (lets fun y2 ey2 => ?_))))))
        subst ey2
        exact bs e5 (bS rfl rfl)
      · refine bI rfl (bS rfl (bS rfl (bS rfl (bI rfl ?_))))
        rw [w64i (n := (i : Int) + 1) (by omega) (by omega), lensnoc, fr]
        rfl
    · have cd : ¬ qdue v l[i] = true := by unfold qdue; simpa using c
      have cr : qrest v l[i] = true := by unfold qrest; simp; omega
      have fs : (l.take (i + 1)).filter (qrest v) = (l.take i).filter (qrest v) ++ [l[i]] := by rw [filter_snoc hlt, if_pos cr]
      have fr : (l.take (i + 1)).filter (qdue v) = (l.take i).filter (qdue v) := by rw [filter_snoc hlt, if_neg cd]; simp
      obtain ⟨a5, h5, e5, o5, k5, b5, n5⟩ := app1 (bytes := 72) ow2 (n := ((l.take i).filter (qrest v)).length) (sz := 6) (cs := saidV l[i].kind l[i].pid k n s a2 m) hv2 rfl (by decide) rfl (by omega) (by omega) (by omega)
      have ch := (hc2.snoc (vs' := us ++ saidV l[i].kind l[i].pid k n s a2 m) (S' := fun b => U b ∨ C i b) hP (fun b hb hb' => by
          obtain ⟨q, hq, hqb⟩ := hT2 b hb'
          exact hdis q i b (by omega) hqb hb) (fun b hb => .inl hb) (fun b hb => .inr hb) (fun j hj => chunk_app_other (by have := mul_le' (w := 6) hj; omega)) (chunk_app_self rfl hv2)).keep (SdD.kp _) k5 (fun b hb hk => by
          rcases hb with hb | hb
          · obtain ⟨q, _, hqb⟩ := hT2 b hb
            exact (ha2 b hk).1 (.inl ⟨q, hqb⟩)
          · exact (ha2 b hk).1 (.inl ⟨i, hb⟩))
      rw [← fs] at ch
      have lensnoc : ((l.take (i + 1)).filter (qrest v)).length = ((l.take i).filter (qrest v)).length + 1 := by rw [fs]; simp
      have ch1 := hc.keep (SdD.kp _) k5 fun b hb hk => by
        obtain ⟨q, _, hqb⟩ := hT b hb
        exact (ha2 b hk).1 (.inl ⟨q, hqb⟩)
      obtain ⟨h6, a6, vs6, T6, p6, us6, U6, y1, y2, y3, y4⟩ := ihd (i + 1) h5 ao vs T a5 (us ++ saidV l[i].kind l[i].pid k n s a2 m) (fun b => U b ∨ C i b) (by omega) (hs.keep (SdD.kp _) k5 fun b hb => (ha2 b hb).1) (by omega) (by omega) (ow.keep k5 fun b hb hk => hd2 b hb hk) (by rw [fr]; exact hv) (by rw [fr]; exact ch1) (up T hT) ha o5 (by rw [lensnoc]; simp; omega) ch (fun b hb => by
          rcases hb with hb | hb
          · exact up U hT2 b hb
          · exact ⟨i, by omega, hb⟩) (fun b hb => by
          have := b5 b hb
          subst this
          exact ⟨fun hb => by have := hD _ hb; omega, by omega⟩) (fun b hb hb' => by
          have := b5 b hb'
          have := (ow.lt hb).2
          omega)
      refine ⟨h6, a6, vs6, T6, p6, us6, U6, ?_, y2, y3, KB.trans k5 y4 (fun b _ hb => (ha2 b hb).2) (fun _ _ h => h)⟩
      refine loop_on ?_ y1
      rw [B53_0_eq]
      refine ifT (decide_eq_true (by omega)) ?_
      refine bj (q := ([some (.int .i64 v), some (.slice ao ((l.take i).filter (qdue v)).length ((l.take i).filter (qdue v)).length), some (.slice a5 (((l.take i).filter (qrest v)).length + 1) (((l.take i).filter (qrest v)).length + 1)), some (.slice (some ad) l.length l.length), some (.int .i64 (i : Int))], h5)) ?_ ?_
      · refine ifT ⟨by omega, by omega⟩ (bs rfl ?_)
        simp only [Int.toNat_natCast]
        refine bI g0 (ifF (by simpa using c) (ifT ⟨by omega, by omega⟩ (bs rfl ?_)))
        refine bI g0 (bI g1 (bI g2 (bI g3 (bT g4 (bS g5 (lets fun y2 ey2 => ?_))))))
        subst ey2
        exact bs e5 (bS rfl rfl)
      · refine bI rfl (bS rfl (bS rfl (bS rfl (bI rfl ?_))))
        rw [w64i (n := (i : Int) + 1) (by omega) (by omega), lensnoc, fr]
        rfl
theorem specDue_run {base f : Nat} {h : AH} {p : Nat → Prop} {l : List Sd} {a : Option Addr} {v : Int} (hl : l.length ≤ 1048576) (hB : ∀ x ∈ l, TmB f x.t) (hs : SsR h p f l a) (hb : base ≤ h.length) (hp : ∀ b, p b → b < h.length) :
    ∃ a' a'' h', run (Et base) 53 [.slice a l.length l.length, .int .i64 v] h = some (.tuple #[.slice a' (l.filter (qdue v)).length (l.filter (qdue v)).length, .slice a'' (l.filter (qrest v)).length (l.filter (qrest v)).length], h') ∧
      RowD 6 (SdD f) (iS h.length h'.length) h' (l.filter (qdue v)) a' ∧ RowD 6 (SdD f) (iS h.length h'.length) h' (l.filter (qrest v)) a'' ∧ KB NoB h h' := by
  obtain ⟨o0, k0, q0⟩ := box_own (base := base) (t := 70) (h := h) (cs := []) hb rfl
  generalize hh0 : h ++ [some (⟨[], 70⟩ : Blk)] = h0 at o0 k0 q0
  obtain ⟨o1, k1, q1⟩ := box_own (base := base) (t := 70) (h := h0) (cs := []) (by omega) rfl
  generalize hh1 : h0 ++ [some (⟨[], 70⟩ : Blk)] = h1 at o1 k1 q1
  have k01 := kN k0 k1
  obtain ⟨aA, h2, e2, r2, k2⟩ := l14Copy_run (base := base) hl hB (hs.keep k01 fun _ _ h => h) (by omega) (fun b hb => by have := hp b hb; omega)
  have n2 := k2.1
  obtain ⟨vsA, TA, x1, x2, x3, x4, C, c1, c2, c3⟩ := r2
  have hD1 : ∀ b, ((∃ q, C q b) ∨ (vsA ≠ [] ∧ blk aA b)) → h1.length ≤ b ∧ b < h2.length := by
    intro b hb
    rcases hb with ⟨q, hq⟩ | ⟨hne, hq⟩
    · have := x4 b (c1 q b hq); omega
    · have := (x3.resolve_left hne b hq).1; omega
  obtain ⟨h', ao, vs, T, ap, us, U, e, ⟨ow, hv, hcc, hT, ha⟩, ⟨ow2, hv2, hcc2, hT2, ha2⟩, k⟩ := specDue_loop (base := base) (f := f) (v := v) (C := C) (vsA := vsA) (ob := h.length) (Hi := h2.length) hl hb c2 (fun b hb => by have := hD1 b hb; omega) l.length 0 h2 (at0 h.length) [] (fun _ => False) (at0 h0.length) [] (fun _ => False) (by omega) ⟨x1, x2, c3⟩ (by omega) (by omega) ((o0.keepN k1).keepN k2) (by simp) Chunks.nil (fun _ h => h.elim) (fun b hb => by
    rw [blk_at0] at hb
    subst hb
    exact ⟨fun hb => by have := hD1 _ hb; omega, by omega⟩) (o1.keepN k2) (by simp) Chunks.nil (fun _ h => h.elim) (fun b hb => by
    rw [blk_at0] at hb
    subst hb
    exact ⟨fun hb => by have := hD1 _ hb; omega, by omega⟩) (fun b hb hb' => by rw [blk_at0] at hb hb'; omega)
  rw [show ((0 : Nat) : Int) = 0 from rfl] at e
  refine ⟨ao, ap, h', r53 (lets fun y ey => ?_), ⟨vs, T, ow.sl, hv, .inr fun b hb' => ⟨⟨(ha b hb').2, (ow.lt hb').2⟩, (ha b hb').1⟩, fun b hb' => hT b hb', hcc⟩, ⟨us, U, ow2.sl, hv2, .inr fun b hb' => ⟨⟨(ha2 b hb').2, (ow2.lt hb').2⟩, (ha2 b hb').1⟩, fun b hb' => hT2 b hb', hcc2⟩, kFresh (kN k01 k2) k fun i hi => hi⟩
  rw [hh0] at ey
  subst ey
  refine lets fun y ey => ?_
  rw [hh1] at ey
  subst ey
  exact bs e2 (bS rfl (bs e (ifT rfl (bS rfl (bS rfl rfl)))))
theorem implDue_run {base f : Nat} {h : AH} {p : Nat → Prop} {l : List Sd} {a : Option Addr} {v : Int} (hl : l.length ≤ 1048576) (hB : ∀ x ∈ l, TmB f x.t) (hs : SsR h p f l a) (hb : base ≤ h.length) (hp : ∀ b, p b → b < h.length) :
    ∃ a' a'' mid h', run (Et base) 48 [.slice a l.length l.length, .int .i64 v] h = some (.tuple #[.slice a' (l.filter (qdue v)).length (l.filter (qdue v)).length, .slice a'' (l.filter (qrest v)).length (l.filter (qrest v)).length], h') ∧
      RowD 6 (SdD f) (iS h.length mid) h' (l.filter (qdue v)) a' ∧ RowD 6 (SdD f) (iS mid h'.length) h' (l.filter (qrest v)) a'' ∧ h.length ≤ mid ∧ mid ≤ h'.length ∧ KB NoB h h' := by
  obtain ⟨o1, k1, q1⟩ := box_own (base := base) (t := 3) (h := h) (cs := [.int .i64 v]) hb rfl
  generalize hh1 : h ++ [some (⟨[.int .i64 v], 3⟩ : Blk)] = h1 at o1 k1 q1
  obtain ⟨a2, h2, e2, r2, k2⟩ := ifdue_run (base := base) (pb := h.length) (v := v) hl hB (hs.keep k1 fun _ _ h => h) (by omega) (fun b hb => by have := hp b hb; omega) (o1.at0 (i := 0) rfl) (by omega)
  have n2 := k2.1
  have k02 := kN k1 k2
  obtain ⟨a3, h3, e3, r3, k3⟩ := ifrest_run (base := base) (pb := h.length) (v := v) hl hB (hs.keep k02 fun _ _ h => h) (by omega) (fun b hb => by have := hp b hb; omega) ((o1.keepN k2).at0 (i := 0) rfl) (by omega)
  have n3 := k3.1
  refine ⟨a2, a3, h2.length, h3, r48 (lets fun y ey => ?_), (r2.keep (SdD.kp _) k3 fun _ _ h => h).mono fun b hb => by constructor <;> omega, r3, by omega, by omega, kN k02 k3⟩
  rw [hh1] at ey
  subst ey
  exact bs e2 (bS rfl (bs e3 (bS rfl rfl)))

theorem mcT_parts {f : Nat} {v : Int} : ∀ l : List Sd, mcT f (l.filter (qdue v)) + mcT f (l.filter (qrest v)) = mcT f l
  | [] => by simp [mcT, sumL]
  | x :: r => by
    have ih := mcT_parts (f := f) (v := v) r
    by_cases c : x.kind ≤ v
    · have cd : qdue v x = true := decide_eq_true c
      have cr : ¬ qrest v x = true := by unfold qrest; simp; omega
      rw [List.filter_cons_of_pos cd, List.filter_cons_of_neg cr]
      unfold mcT at ih ⊢
      simp only [List.length_cons, sumL]
      omega
    · have cd : ¬ qdue v x = true := by unfold qdue; simpa using c
      have cr : qrest v x = true := by unfold qrest; simp; omega
      rw [List.filter_cons_of_neg cd, List.filter_cons_of_pos cr]
      unfold mcT at ih ⊢
      simp only [List.length_cons, sumL]
      omega

theorem dueTimers_law {base f : Nat} {h : AH} {p : Nat → Prop} {l : List Sd} {a : Option Addr} {v : Int} (hl : l.length ≤ 9223372036854775807) (hs : SsR h p f l a) (hb : base ≤ h.length) (hp : ∀ b, p b → b < h.length) :
    ∃ h', run (Et base) 12 [.slice a l.length l.length, .int .i64 v] h = some (.bool true, h') := by
  obtain ⟨z, h1, e1, k1, hz⟩ := szTimerS_run (base := base) hl hs hb hp
  have n1 := k1.1
  by_cases hneg : z < 0
  · exact ⟨h1, r12 (bs e1 (bI rfl (ifT (decide_eq_true hneg) rfl)))⟩
  obtain ⟨hlen, hB, hcnt⟩ := hz hneg
  have hfl := List.length_filter_le (qdue v) l
  have hfr := List.length_filter_le (qrest v) l
  have hmc : mcT f l ≤ 5242880 := by unfold mcT; omega
  have hpa := mcT_parts (f := f) (v := v) l
  have hm0 : 0 ≤ mcT f l := by unfold mcT; omega
  have hm1 : 0 ≤ mcT f (l.filter (qdue v)) := by unfold mcT; omega
  have hm2 : 0 ≤ mcT f (l.filter (qrest v)) := by unfold mcT; omega
  have lt : ∀ {x : AH}, h.length ≤ x.length → ∀ b, p b → b < x.length := fun hx b hbp => by have := hp b hbp; omega
  obtain ⟨a3, h3, e3, s3, k3⟩ := toTimerSD_run (base := base) hlen hB (hs.keep k1 fun _ _ h => h) (by omega) (lt n1)
  have n3 := k3.1
  obtain ⟨aw, aw2, h5, e5, W, W2, k5⟩ := specDue_run (base := base) (v := v) hlen hB s3.ssR (by omega) (fun b hb => hb.2)
  have n5 := k5.1
  have k05 : KB NoB h h5 := kN (kN k1 k3) k5
  obtain ⟨a9, h9, e9, X, k9⟩ := toTimerSD_run (base := base) hlen hB (hs.keep k05 fun _ _ h => h) (by omega) (lt k05.1)
  have n9 := k9.1
  obtain ⟨ag, ag2, mid, h11, e11, G, G2, md1, md2, k11⟩ := implDue_run (base := base) (v := v) hlen hB X.ssR (by omega) (fun b hb => hb.2)
  have n11 := k11.1
  have k511 := kN k9 k11
  have W11 := W.keep (SdD.kp _) k511 fun _ _ h => h
  have V11 := W2.keep (SdD.kp _) k511 fun _ _ h => h
  obtain ⟨h16, e16, k16⟩ := eqTimerS_run (base := base) (by omega) G.ssR W11.ssR (by omega)
  have n16 := k16.1
  obtain ⟨h18, e18, k18⟩ := eqTimerS_run (base := base) (by omega) (G2.keep (SdD.kp _) k16 fun _ _ h => h).ssR (V11.keep (SdD.kp _) k16 fun _ _ h => h).ssR (by omega)
  have n18 := k18.1
  have k1118 := kN k16 k18
  have k018 : KB NoB h h18 := kN (kN k05 k511) k1118
  obtain ⟨a28, h28, e28, s28, k28⟩ := toTimerSD_run (base := base) hlen hB (hs.keep k018 fun _ _ h => h) (by omega) (lt k018.1)
  have n28 := k28.1
  have k928 : KB NoB h9 h28 := kN (kN k11 k1118) k28
  obtain ⟨h30, e30, k30⟩ := eqTimerS_run (base := base) (by omega) ((X.keep (SdD.kp _) k928 fun _ _ h => h).ssR) s28.ssR (by omega)
  have n30 := k30.1
  have k930 : KB NoB h9 h30 := kN k928 k30
  have k1130 : KB NoB h11 h30 := kN (kN k1118 k28) k30
  obtain ⟨lx, h32, e32, X32, _, mx, k32⟩ := markTimerS_run (base := base) (k := 1) (X.keep (SdD.kp _) k930 fun _ _ h => h) (by simp only [maxLen]; omega) (fun b hb => by have := k930.1; omega) (by omega) (by omega)
  have n32 := k32.1
  have G32 := (G.keep (SdD.kp _) k1130 fun _ _ h => h).keep (SdD.kp _) k32 fun b h1 h2 => by omega
  have H32 := (G2.keep (SdD.kp _) k1130 fun _ _ h => h).keep (SdD.kp _) k32 fun b h1 h2 => by omega
  have W32 := (W11.keep (SdD.kp _) k1130 fun _ _ h => h).keep (SdD.kp _) k32 fun b h1 h2 => by omega
  have V32 := (V11.keep (SdD.kp _) k1130 fun _ _ h => h).keep (SdD.kp _) k32 fun b h1 h2 => by omega
  obtain ⟨h35, e35, k35⟩ := eqTimerS_run (base := base) (by omega) G32.ssR W32.ssR (by omega)
  have n35 := k35.1
  obtain ⟨h37, e37, k37⟩ := eqTimerS_run (base := base) (by omega) (H32.keep (SdD.kp _) k35 fun _ _ h => h).ssR (V32.keep (SdD.kp _) k35 fun _ _ h => h).ssR (by omega)
  have n37 := k37.1
  have k3237 := kN k35 k37
  obtain ⟨lg, h46, e46, G46, leng, mg, k46⟩ := markTimerS_run (base := base) (k := 1) (G32.keep (SdD.kp _) k3237 fun _ _ h => h) (by simp only [maxLen]; omega) (fun b hb => by omega) (by omega) (by omega)
  have n46 := k46.1
  obtain ⟨lh, h48, e48, H48, lenh, mh, k48⟩ := markTimerS_run (base := base) (k := 1 + mcT f (l.filter (qdue v))) ((H32.keep (SdD.kp _) k3237 fun _ _ h => h).keep (SdD.kp _) k46 fun b h1 h2 => by omega) (by simp only [maxLen]; omega) (fun b hb => by omega) (by omega) (by omega)
  have n48 := k48.1
  have G48 := G46.keep (SdD.kp _) k48 fun b h1 h2 => by omega
  obtain ⟨h50, e50, k50⟩ := heldTimerS_run (base := base) mg (by omega) (by omega) (by omega) G48.ssR (by omega)
  have n50 := k50.1
  rw [leng] at e50
  obtain ⟨h52, e52, k52⟩ := heldTimerS_run (base := base) mh (by omega) (by omega) (by omega) (H48.keep (SdD.kp _) k50 fun _ _ h => h).ssR (by omega)
  have n52 := k52.1
  rw [lenh] at e52
  have k4852 := kN k50 k52
  have k030 : KB NoB h h30 := kN (kN k018 k28) k30
  have k052 : KB (fun b => h5.length ≤ b) h h52 := KB.trans (KB.trans (KB.trans (KB.trans k030 k32 (fun _ _ h => h.elim) (fun i _ hi => hi.1)) (kNB k3237 k46) (fun _ _ h => h) (fun i _ hi => by omega)) k48 (fun _ _ h => h) (fun i _ hi => by omega)) k4852 (fun _ _ h => h) (fun _ _ h => h.elim)
  have hs52 := hs.keep k052 fun b h1 h2 => by have := hp b h1; omega
  obtain ⟨a54, h54, e54, s54, k54⟩ := toTimerSD_run (base := base) hlen hB hs52 (by omega) (lt k052.1)
  have n54 := k54.1
  obtain ⟨au, au2, mid2, h56, e56, P, Q, md3, md4, k56⟩ := implDue_run (base := base) (v := v) hlen hB s54.ssR (by omega) (fun b hb => hb.2)
  have n56 := k56.1
  have k5256 := kN k54 k56
  have k4856 := kN k4852 k5256
  have W56 := (((W32.keep (SdD.kp _) k3237 fun _ _ h => h).keep (SdD.kp _) k46 fun b h1 h2 => by omega).keep (SdD.kp _) k48 fun b h1 h2 => by omega).keep (SdD.kp _) k4856 fun _ _ h => h
  have V56 := (((V32.keep (SdD.kp _) k3237 fun _ _ h => h).keep (SdD.kp _) k46 fun b h1 h2 => by omega).keep (SdD.kp _) k48 fun b h1 h2 => by omega).keep (SdD.kp _) k4856 fun _ _ h => h
  obtain ⟨h61, e61, k61⟩ := eqTimerS_run (base := base) (by omega) P.ssR W56.ssR (by omega)
  have n61 := k61.1
  obtain ⟨h63, e63, k63⟩ := eqTimerS_run (base := base) (by omega) (Q.keep (SdD.kp _) k61 fun _ _ h => h).ssR (V56.keep (SdD.kp _) k61 fun _ _ h => h).ssR (by omega)
  have n63 := k63.1
  have k4863 := kN k4856 (kN k61 k63)
  obtain ⟨h69, e69, k69⟩ := heldTimerS_run (base := base) mg (by omega) (by omega) (by omega) (G48.keep (SdD.kp _) k4863 fun _ _ h => h).ssR (by omega)
  have n69 := k69.1
  rw [leng] at e69
  obtain ⟨h71, e71, k71⟩ := heldTimerS_run (base := base) mh (by omega) (by omega) (by omega) (H48.keep (SdD.kp _) (kN k4863 k69) fun _ _ h => h).ssR (by omega)
  rw [lenh] at e71
  refine ⟨h71, r12 (bs e1 (bI rfl (ifF (by simpa using hneg) ?_)))⟩
  refine bs e3 (bS rfl (bs e5 (bs rfl (bS rfl (bS rfl (bs e9 (bS rfl (bs e11 (bs rfl (bS rfl (bS rfl ?_)))))))))))
  refine bj (q := ([some (.slice a l.length l.length), some (.int .i64 v), some (.slice aw (l.filter (qdue v)).length (l.filter (qdue v)).length), some (.slice aw2 (l.filter (qrest v)).length (l.filter (qrest v)).length), some (.slice a9 l.length l.length), some (.slice ag (l.filter (qdue v)).length (l.filter (qdue v)).length), some (.slice ag2 (l.filter (qrest v)).length (l.filter (qrest v)).length), some (.bool false)], h18)) ?_ ?_
  · exact bs e16 (bB rfl (ifF (by decide) (bs e18 (bB rfl rfl))))
  refine bS rfl (bI rfl (bS rfl (bS rfl (bS rfl (bS rfl (bS rfl (bB rfl (ifF (by decide) ?_))))))))
  refine bs e28 (bS rfl (bs e30 (bB rfl (ifF (by decide) (bs e32 (bI rfl ?_))))))
  refine bj (q := ([some (.slice a l.length l.length), some (.int .i64 v), some (.slice aw (l.filter (qdue v)).length (l.filter (qdue v)).length), some (.slice aw2 (l.filter (qrest v)).length (l.filter (qrest v)).length), some (.slice ag (l.filter (qdue v)).length (l.filter (qdue v)).length), some (.slice ag2 (l.filter (qrest v)).length (l.filter (qrest v)).length), some (.bool false)], h37)) ?_ ?_
  · exact ifF (by simp; omega) (bs e35 (bB rfl (ifF (by decide) (bs e37 (bB rfl rfl)))))
  refine bS rfl (bI rfl (bS rfl (bS rfl (bS rfl (bS rfl (bB rfl (ifF (by decide) ?_)))))))
  refine bs e46 (bI rfl (bs e48 (bI rfl (bs e50 (bI rfl (ifF (by simp; omega) (bs e52 (bI rfl (ifF (by simp; omega) (ifF (by simp) ?_))))))))))
  refine bs e54 (bS rfl (bs e56 (bs rfl (bS rfl (bS rfl ?_)))))
  refine bj (q := ([some (.slice ag (l.filter (qdue v)).length (l.filter (qdue v)).length), some (.slice ag2 (l.filter (qrest v)).length (l.filter (qrest v)).length), some (.int .i64 (1 + mcT f (l.filter (qdue v)) + mcT f (l.filter (qrest v)))), some (.bool false)], h63)) ?_ ?_
  · exact bs e61 (bB rfl (ifF (by decide) (bs e63 (bB rfl rfl))))
  refine bS rfl (bS rfl (bI rfl (bB rfl (ifF (by decide) ?_))))
  exact bs e69 (bI rfl (ifF (by simp; omega) (bs e71 (bI rfl (ifF (by simp; omega) (ifF (by simp) rfl))))))
theorem dueTimers_entry {base : Nat} {h : AH} {f : Nat} {u : Value} {v : Int} (x : Rd Try.prog h f 58 [u]) (hb : base ≤ h.length) : ∃ h', run (Et base) 12 [u, .int .i64 v] h = some (.bool true, h') := by
  obtain ⟨g, a, l, rfl, hl, hs⟩ := rd_timers x
  simp only [maxLen] at hl
  exact dueTimers_law (by omega) hs hb fun b hb => hb
end Go.Proofs.Ytgigdaijailfkaa.Am
