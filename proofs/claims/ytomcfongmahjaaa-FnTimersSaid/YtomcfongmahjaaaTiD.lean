/- Rows of timers that own what lies below them: copies, marks.
Conditions: none. -/
import Derived.Test.YtomcfongmahjaaaCp2
import Derived.Test.YtomcfongmahjaaaMk
import Derived.Test.YtomcfongmahjaaaOk3
set_option linter.unusedSimpArgs false
set_option linter.unusedVariables false
namespace Go.Proofs.Ytomcfongmahjaaa.Am
open Go Go.RowKit

def SdD (f : Nat) (S : Fp) (h : AH) (x : Sd) (cs : List Value) : Prop := ∃ k n s a m, cs = saidV x.kind x.pid k n s a m ∧ TmD f S h x.t (termV k n s a m)
theorem SdD.kp (f : Nat) : Kp (SdD f) := fun S U h h' x cs k hs y => by
  obtain ⟨k1, n, s, a, m, e, r⟩ := y
  exact ⟨k1, n, s, a, m, e, TmD.kp f _ _ _ _ _ _ k hs r⟩
theorem SdD.mo (f : Nat) : Mo (SdD f) := fun S S' h x cs hs y => by
  obtain ⟨k1, n, s, a, m, e, r⟩ := y
  exact ⟨k1, n, s, a, m, e, TmD.mo f _ _ _ _ _ hs r⟩
theorem RowD.ssR {f : Nat} {S : Fp} {h : AH} {l : List Sd} {a : Option Addr} (x : RowD 6 (SdD f) S h l a) : SsR h S f l a := by
  obtain ⟨vs, T, x1, x2, x3, x4, C, c1, c2, c3⟩ := x
  refine ⟨vs, x1, x3.imp id fun g b hb => (g b hb).1, x2, fun i t hi => ?_⟩
  obtain ⟨k, n, s, a, m, e, r⟩ := c3 i t hi
  exact ⟨_, e, (TmD.tmR _ _ _ _ _ r).mono (fun b hb => x4 b (c1 i b hb)) _ _ _⟩

theorem toTimerD_run {base f : Nat} {h : AH} {p : Nat → Prop} {kind pid k n : Int} {s : ByteArray} {a : Option Addr} {m : Nat} {t : Tm} (hm : TmR h p f t (termV k n s a m)) (hB : TmB f t) (hb : base ≤ h.length) (hp : ∀ b, p b → b < h.length) :
    ∃ k' n' s' a' m' h', run (Et base) 14 [.agg (saidV kind pid k n s a m).toArray] h = some (.agg (saidV kind pid k' n' s' a' m').toArray, h') ∧ TmD f (iS h.length h'.length) h' t (termV k' n' s' a' m') ∧ KB NoB h h' := by
  obtain ⟨o1, k1, q1⟩ := box_own (base := base) (t := 41) (h := h) (cs := saidV kind pid k n s a m) hb rfl
  generalize hh1 : h ++ [some (⟨saidV kind pid k n s a m, 41⟩ : Blk)] = h1 at o1 k1 q1
  obtain ⟨o2, k2, q2⟩ := box_own (base := base) (t := 29) (h := h1) (cs := saidV 0 0 0 0 ⟨#[]⟩ none 0) (by omega) rfl
  generalize hh2 : h1 ++ [some (⟨saidV 0 0 0 0 ⟨#[]⟩ none 0, 29⟩ : Blk)] = h2 at o2 k2 q2
  obtain ⟨o3, k3, q3⟩ := box_own (base := base) (t := 29) (h := h2) (cs := saidV 0 0 0 0 ⟨#[]⟩ none 0) (by omega) rfl
  generalize hh3 : h2 ++ [some (⟨saidV 0 0 0 0 ⟨#[]⟩ none 0, 29⟩ : Blk)] = h3 at o3 k3 q3
  have k03 : KB NoB h h3 := kN (kN k1 k2) k3
  have a3 := (o1.keepN k2).keepN k3
  have z3 := o2.keepN k3
  obtain ⟨h5, e5, o5, k5, l5⟩ := o3.wr0 (i := 0) (new := [.int .i64 kind]) (by simp) (by simp)
  have a5 := a3.keepB k5 fun i hi => by rw [blk_at0] at hi; omega
  have z5 := z3.keepB k5 fun i hi => by rw [blk_at0] at hi; omega
  obtain ⟨h7, e7, o7, k7, l7⟩ := o5.wr0 (i := 1) (new := [.int .i64 pid]) (by simp [setAt]) (by simp)
  have a7 := a5.keepB k7 fun i hi => by rw [blk_at0] at hi; omega
  have z7 := z5.keepB k7 fun i hi => by rw [blk_at0] at hi; omega
  have m7 := TmR.keep k7 (fun b h1 h2 => by have := hp b h1; omega) _ _ _ (TmR.keep k5 (fun b h1 h2 => by have := hp b h1; omega) _ _ _ (TmR.keep k03 (fun _ _ h => h) _ _ _ hm))
  obtain ⟨cs, h12, e12, m12, k12⟩ := toTermD_run (base := base) f h7 p t _ m7 hB (by omega) (fun b hbp => by have := hp b hbp; omega)
  have n12 := k12.1
  obtain ⟨k', n', s', a', m', rfl⟩ := m12.form
  obtain ⟨h18, e18, o18, k18, l18⟩ := (o7.keepN k12).wr0 (i := 2) (new := termV k' n' s' a' m') (by simp [setAt]) (by simp)
  have z18 := (z7.keepN k12).keepB k18 fun i hi => by rw [blk_at0] at hi; omega
  have m18 := TmD.kp _ _ _ _ _ _ _ k18 (fun b h1 h2 => by omega) m12
  have hout : setAt (setAt (setAt (saidV 0 0 0 0 ⟨#[]⟩ none 0) 0 [.int .i64 kind]) 1 [.int .i64 pid]) 2 (termV k' n' s' a' m') = saidV kind pid k' n' s' a' m' := rfl
  rw [hout] at o18
  obtain ⟨h25, e25, z25, k25, l25⟩ := z18.wr0 (i := 0) (new := saidV kind pid k' n' s' a' m') (by simp) (by simp)
  have hz : setAt (saidV 0 0 0 0 ⟨#[]⟩ none 0) 0 (saidV kind pid k' n' s' a' m') = saidV kind pid k' n' s' a' m' := rfl
  rw [hz] at z25
  have m25 := TmD.kp _ _ _ _ _ _ _ k25 (fun b h1 h2 => by omega) m18
  have kAll : KB NoB h h25 := kFresh (kFresh (kFresh (kFresh (kFresh k03 k5 fun i hi => by omega) k7 fun i hi => by omega) k12 fun i hi => hi.elim) k18 fun i hi => by omega) k25 fun i hi => by omega
  refine ⟨k', n', s', a', m', h25, r14 (lets fun h1' eh => ?_), TmD.mo _ _ _ _ _ _ (fun b hb' => by constructor <;> omega) m25, kAll⟩
  rw [hh1] at eh
  subst eh
  refine lets fun h2' eh => ?_
  rw [hh2] at eh
  subst eh
  refine lets fun h3' eh => ?_
  rw [hh3] at eh
  subst eh
  refine bI (a3.at0 (i := 0) rfl) (bs e5 (bI (a5.at0 (i := 1) rfl) (bs e7 ?_)))
  refine bI (a7.at0 (i := 2) rfl) (bI (a7.at0 (i := 3) rfl) (bT (a7.at0 (i := 4) rfl) (bS (a7.at0 (i := 5) rfl) ?_)))
  refine bs e12 (bs (v := termV k' n' s' a' m') rfl (bI rfl (bI rfl (bT rfl (bS rfl (bs e18 ?_))))))
  refine bI (o18.at0 (i := 0) rfl) (bI (o18.at0 (i := 1) rfl) (bI (o18.at0 (i := 2) rfl) (bI (o18.at0 (i := 3) rfl) (bT (o18.at0 (i := 4) rfl) (bS (o18.at0 (i := 5) rfl) (bs e25 ?_))))))
  exact bI (z25.at0 (i := 0) rfl) (bI (z25.at0 (i := 1) rfl) (bI (z25.at0 (i := 2) rfl) (bI (z25.at0 (i := 3) rfl) (bT (z25.at0 (i := 4) rfl) (bS (z25.at0 (i := 5) rfl) rfl)))))

theorem toTimerSD_loop {base f : Nat} {p : Nat → Prop} {l : List Sd} {a : Option Addr} {ob : Nat} (hl : l.length ≤ 1048576) (hB : ∀ x ∈ l, TmB f x.t) (hp : ∀ b, p b → b < ob) : ∀ (d i : Nat) (h : AH) (vs : List Value), i + d = l.length → SsR h p f l a → ob < h.length → base ≤ h.length → Own base 29 h (at0 ob) vs → vs.length = l.length * 6 →
    Chunks 6 (SdD f) (iS (ob + 1) h.length) h (l.take i) vs →
    ∃ h' vs', loopL (B13_0 base) [some (.slice a l.length l.length), some (.slice (at0 ob) l.length l.length), some (.int .i64 (i : Int))] h = some (2, [some (.slice (at0 ob) l.length l.length)], h') ∧ Own base 29 h' (at0 ob) vs' ∧ vs'.length = l.length * 6 ∧
      Chunks 6 (SdD f) (iS (ob + 1) h'.length) h' l vs' ∧ KB (· = ob) h h' := by
  intro d
  induction d with
  | zero =>
    intro i h vs hi hs ho hb ow hv hd
    rw [List.take_of_length_le (by omega)] at hd
    refine ⟨h, vs, ?_, ow, hv, hd, KB.refl _ _⟩
    refine loop_off (by decide) ?_
    rw [B13_0_eq]
    exact ifF (by simp; omega) rfl
  | succ d ihd =>
    intro i h vs hi hs ho hb ow hv hd
    have hlt : i < l.length := by omega
    obtain ⟨ad, k, n, s, a2, m, rfl, hbl, g0, g1, g2, g3, g4, g5, hm⟩ := hs.get hlt
    obtain ⟨k', n', s', a', m', h1, e1, m1, k1⟩ := toTimerD_run (base := base) (kind := l[i].kind) (pid := l[i].pid) hm (hB _ (List.getElem_mem hlt)) hb (fun b hbp => by have := hp b hbp; omega)
    have n1 := k1.1
    obtain ⟨h2, w1, w2, w3, w4⟩ := (ow.keepN k1).wr0 (i := i * 6) (new := saidV l[i].kind l[i].pid k' n' s' a' m') (by simp; omega) (by simp)
    have kall : KB (· = ob) h h2 := kNB k1 w3
    have m2 := SdD.kp f _ _ _ _ l[i] (saidV l[i].kind l[i].pid k' n' s' a' m') w3 (fun b (hb' : iS h.length h1.length b) e => by omega) ⟨_, _, _, _, _, rfl, m1⟩
    have ch := (hd.keep (SdD.kp _) kall fun b hb' e => by omega).snoc (vs' := setAt vs (i * 6) (saidV l[i].kind l[i].pid k' n' s' a' m')) (S' := iS (ob + 1) h2.length) m2 (fun b hb' hc => by omega) (fun b hb' => by constructor <;> omega) (fun b hb' => by constructor <;> omega) (fun q hq => chunk_setAt_other rfl (by omega) (by simp at hq; omega)) (by
      rw [List.length_take, Nat.min_eq_left (by omega)]
      exact chunk_setAt_self rfl (by omega))
    rw [← take_snoc hlt] at ch
    obtain ⟨h3, vs3, y1, y2, y3, y4, y5⟩ := ihd (i + 1) h2 (setAt vs (i * 6) (saidV l[i].kind l[i].pid k' n' s' a' m')) (by omega) (hs.keep kall fun b h1 h2 => by have := hp b h1; omega) (by omega) (by omega) w2 (by simp [setAt]; omega) ch
    refine ⟨h3, vs3, ?_, y2, y3, y4, KB.trans kall y5 (fun _ _ h => h) (fun _ _ h => h)⟩
    refine loop_on ?_ y1
    rw [B13_0_eq]
    refine ifT (decide_eq_true (by omega)) (ifT ⟨by omega, by omega⟩ (bs rfl ?_))
    simp only [Int.toNat_natCast]
    refine bI g0 (bI g1 (bI g2 (bI g3 (bT g4 (bS g5 ?_)))))
    refine bs e1 ?_
    refine bs (v := saidV l[i].kind l[i].pid k' n' s' a' m') rfl (bI rfl (bI rfl (bI rfl (bI rfl (bT rfl (bS rfl ?_))))))
    refine ifT ⟨by omega, by omega⟩ (bs rfl ?_)
    have w1' : Am.wr base h1 ob (0 + i * 6) (saidV l[i].kind l[i].pid k' n' s' a' m') = some h2 := by rw [Nat.zero_add]; exact w1
    refine bs w1' ?_
    rw [w64i (n := (i : Int) + 1) (by omega) (by omega)]
    rfl
theorem toTimerSD_run {base f : Nat} {h : AH} {p : Nat → Prop} {l : List Sd} {a : Option Addr} (hl : l.length ≤ 1048576) (hB : ∀ x ∈ l, TmB f x.t) (hs : SsR h p f l a) (hb : base ≤ h.length) (hp : ∀ b, p b → b < h.length) :
    ∃ a' h', run (Et base) 13 [.slice a l.length l.length] h = some (.slice a' l.length l.length, h') ∧ RowD 6 (SdD f) (iS h.length h'.length) h' l a' ∧ KB NoB h h' := by
  obtain ⟨o1, k1, q1⟩ := box_own (base := base) (t := 29) (h := h) (cs := rep [(.int .i64 0), (.int .i64 0), (.int .i64 0), (.int .i64 0), (.string ⟨#[]⟩), (.slice none 0 0)] l.length) hb rfl
  generalize hh1 : h ++ [some (⟨rep [(.int .i64 0), (.int .i64 0), (.int .i64 0), (.int .i64 0), (.string ⟨#[]⟩), (.slice none 0 0)] l.length, 29⟩ : Blk)] = h1 at o1 k1 q1
  obtain ⟨h2, vs2, e2, o2, v2, m2, k2⟩ := toTimerSD_loop (base := base) (p := p) (ob := h.length) hl hB hp l.length 0 h1 _ (by omega) (hs.keep k1 fun _ _ h => h) (by omega) (by omega) o1 (rep_len6 ..) Chunks.nil
  have n2 := k2.1
  refine ⟨at0 h.length, h2, r13 ?_, ⟨vs2, iS (h.length + 1) h2.length, o2.sl, v2, .inr fun b hb' => by rw [blk_at0] at hb'; subst hb'; exact ⟨by constructor <;> omega, by omega⟩, fun b hb' => by constructor <;> omega, m2⟩, KB.trans k1 k2 (fun _ _ h => h) (fun i hi h => by omega)⟩
  refine ifT ⟨rfl, by omega, by omega, by omega⟩ (lets fun h1' eh => ?_)
  simp only [Int.toNat_natCast] at eh ⊢
  rw [hh1] at eh
  subst eh
  rw [show ((0 : Nat) : Int) = 0 from rfl] at e2
  exact bs e2 (ifT rfl (bS rfl rfl))

/-- Timers that hold the marks from k on, up to k'. -/
inductive IsMT : List Sd → Int → Int → Prop
  | nil (k : Int) : IsMT [] k k
  | cons {k k1 k2 : Int} {l : List Tm} {r : List Sd} : IsM l (k + 5) k1 → IsMT r k1 k2 → IsMT (⟨k, k + 1, .mk (k + 2) (k + 3) (mt (k + 4)) l⟩ :: r) k k2
theorem IsMT.le {l : List Sd} {k k' : Int} (x : IsMT l k k') : k ≤ k' := by
  induction x with
  | nil => exact Int.le_refl _
  | cons m _ ih2 => have := m.le; omega
/-- How many marks timers take. -/
def mcT (f : Nat) (l : List Sd) : Int := ((5 * l.length + 3 * sumL (fun x => tcnt f x.t) l : Nat) : Int)

theorem markTimerS_loop {base f n : Nat} (hn : n ≤ maxLen) {S : Fp} {a : Option Addr} : ∀ (r done : List Sd) (h : AH) (k : Int), done.length + r.length = n → RowD 6 (SdD f) S h (done ++ r) a → (∀ b, S b → base ≤ b ∧ b < h.length) → 0 ≤ k → k + mcT f r ≤ 1000000000 →
    ∃ r' h', loopL (B17_0 base) [some (.slice a n n), some (.int .i64 k), some (.int .i64 (done.length : Int))] h = some (2, [some (.int .i64 (k + mcT f r))], h') ∧ RowD 6 (SdD f) S h' (done ++ r') a ∧ r'.length = r.length ∧ IsMT r' k (k + mcT f r) ∧ KB S h h' := by
  simp only [maxLen] at hn
  intro r
  induction r with
  | nil =>
    intro done h k hd hr hS h0 hk
    refine ⟨[], h, ?_, hr, rfl, ?_, KB.refl _ _⟩
    · refine loop_off (by decide) ?_
      rw [B17_0_eq]
      refine ifF (by simp at hd ⊢; omega) ?_
      simp [mcT, sumL]
    · simp only [mcT, sumL, List.length_nil]
      have : k + ((5 * 0 + 3 * 0 : Nat) : Int) = k := by omega
      rw [this]
      exact .nil k
  | cons t r ihr =>
    intro done h k hd hr hS h0 hk
    simp only [List.length_cons] at hd
    have hlt : done.length < (done ++ t :: r).length := by simp
    obtain ⟨Ci, cs, fo, hP, hcl, hsub, hdis⟩ := hr.open (by decide) hlt
    rw [get_split hlt] at hP
    obtain ⟨kind, pid, tt⟩ := t
    obtain ⟨kk, nn, ss, a2, m, ecs, hP⟩ := hP
    cases f with
    | zero => exact hP.elim
    | succ f =>
      obtain ⟨kk', nn', ss', l⟩ := tt
      obtain ⟨hs1, hl1, a3, ecs2, hrow⟩ := hP
      injection ecs2 with q0 ecs2
      injection ecs2 with q1 ecs2
      injection ecs2 with q2 ecs2
      injection ecs2 with q3 _
      injection q0 with _ q0; injection q1 with _ q1; injection q2 with q2; injection q3 with q3 q4 _
      subst q0; subst q1; subst q2; subst q3; subst q4
      subst ecs
      have hcnt : mcT (f + 1) (⟨kind, pid, .mk kk nn ss l⟩ :: r) = 5 + 3 * ((l.length + sumL (tcnt f) l : Nat) : Int) + mcT (f + 1) r := by
        simp only [mcT, sumL, tcnt, List.length_cons]; omega
      rw [hcnt] at hk ⊢
      have hr0 : 0 ≤ mcT (f + 1) r := by unfold mcT; omega
      have hbS : ∀ b, S b → base ≤ b := fun b hb => (hS b hb).1
      obtain ⟨ad, h1, rfl, w1, fo1, k1, n1⟩ := fo.wr (SdD.kp _) hbS (j := 0) (new := [.int .i64 k]) (by simp) (by simp)
      obtain ⟨ad', h2, ead, w2, fo2, k2, n2⟩ := fo1.wr (SdD.kp _) hbS (j := 1) (new := [.int .i64 (k + 1)]) (by simp) (by simp)
      injection ead with ead
      subst ead
      obtain ⟨ad', h2', ead, w2', fo2', k2', n2'⟩ := fo2.wr (SdD.kp _) hbS (j := 2) (new := [.int .i64 (k + 1 + 1)]) (by simp) (by simp)
      injection ead with ead
      subst ead
      obtain ⟨ad', h2'', ead, w2'', fo2'', k2'', n2''⟩ := fo2'.wr (SdD.kp _) hbS (j := 3) (new := [.int .i64 (k + 1 + 1 + 1)]) (by simp) (by simp)
      injection ead with ead
      subst ead
      obtain ⟨h3, e3, k3⟩ := markText_run (base := base) (h := h2'') (k := k + 1 + 1 + 1 + 1) (by omega)
      have n3 := k3.1
      have fo3 := fo2''.keep (SdD.kp _) k3 fun _ _ h => h.elim
      obtain ⟨ad', h4, ead, w4, fo4, k4, n4⟩ := fo3.wr (SdD.kp _) hbS (j := 4) (new := [.string (mt (k + 1 + 1 + 1 + 1))]) (by simp) (by simp)
      injection ead with ead
      subst ead
      have ecs : setAt (setAt (setAt (setAt (setAt (saidV kind pid kk nn ss a2 l.length) 0 [.int .i64 k]) 1 [.int .i64 (k + 1)]) 2 [.int .i64 (k + 1 + 1)]) 3 [.int .i64 (k + 1 + 1 + 1)]) 4 [.string (mt (k + 1 + 1 + 1 + 1))] = saidV k (k + 1) (k + 1 + 1) (k + 1 + 1 + 1) (mt (k + 1 + 1 + 1 + 1)) a2 l.length := rfl
      rw [ecs] at fo4
      obtain ⟨ad', ead, g4⟩ := fo4.cell (j := 5) (v := .slice a2 l.length l.length) rfl
      injection ead with ead
      subst ead
      have kA : KB (blk (some ad)) h h4 := KB.trans (KB.trans (KB.trans (KB.trans (KB.trans k1 k2 (fun _ _ h => h) (fun _ _ h => h)) k2' (fun _ _ h => h) (fun _ _ h => h)) k2'' (fun _ _ h => h) (fun _ _ h => h)) k3 (fun _ _ h => h) (fun _ _ h => h.elim)) k4 (fun _ _ h => h) (fun _ _ h => h)
      have hrow4 : RowD 4 (TmD f) Ci h4 l a2 := hrow.keep (TmD.kp _) kA fun b hb hk => hdis b hk hb
      obtain ⟨l', h5, e5, row5, len5, m5, k5⟩ := markTermS_run (base := base) f l h4 Ci a2 (k + 1 + 1 + 1 + 1 + 1) hrow4 hl1 (fun b hb => ⟨(hS b (hsub b hb)).1, by have := (hS b (hsub b hb)).2; have := kA.1; omega⟩) (by omega) (by omega)
      have fo5 := fo4.keep (SdD.kp _) k5 fun b _ hb => hb
      have hr5 := fo5.close (y := ⟨k, k + 1, .mk (k + 1 + 1) (k + 1 + 1 + 1) (mt (k + 1 + 1 + 1 + 1)) l'⟩) ⟨_, _, _, _, _, rfl, by have := mt_size (k + 1 + 1 + 1 + 1); simp only [maxLen]; omega, by rw [len5]; exact hl1, a2, by rw [len5], row5⟩
      rw [set_split, show done ++ (⟨k, k + 1, .mk (k + 1 + 1) (k + 1 + 1 + 1) (mt (k + 1 + 1 + 1 + 1)) l'⟩ : Sd) :: r = (done ++ [(⟨k, k + 1, .mk (k + 1 + 1) (k + 1 + 1 + 1) (mt (k + 1 + 1 + 1 + 1)) l'⟩ : Sd)]) ++ r from by simp] at hr5
      have kB : KB S h h5 := KB.trans kA k5 (fun b _ hb => by
        obtain ⟨vs, T, C, _, _, x3, _⟩ := fo
        exact (x3 b hb).1) (fun b _ hb => hsub b hb)
      obtain ⟨r', h6, e6, row6, len6, m6, k6⟩ := ihr (done ++ [(⟨k, k + 1, .mk (k + 1 + 1) (k + 1 + 1 + 1) (mt (k + 1 + 1 + 1 + 1)) l'⟩ : Sd)]) h5 (k + 1 + 1 + 1 + 1 + 1 + 3 * ((l.length + sumL (tcnt f) l : Nat) : Int)) (by simp; omega) hr5 (fun b hb => ⟨(hS b hb).1, by have := (hS b hb).2; have := kB.1; omega⟩) (by omega) (by omega)
      have ek : k + 1 + 1 + 1 + 1 + 1 + 3 * ((l.length + sumL (tcnt f) l : Nat) : Int) + mcT (f + 1) r = k + (5 + 3 * ((l.length + sumL (tcnt f) l : Nat) : Int) + mcT (f + 1) r) := by omega
      rw [ek] at e6 m6
      refine ⟨⟨k, k + 1, .mk (k + 1 + 1) (k + 1 + 1 + 1) (mt (k + 1 + 1 + 1 + 1)) l'⟩ :: r', h6, ?_, by simpa using row6, by simp [len6], ?_, KB.trans kB k6 (fun _ _ h => h) (fun _ _ h => h)⟩
      · refine loop_on ?_ e6
        rw [B17_0_eq]
        have hlt' : (done.length : Int) < (n : Int) := by omega
        refine ifT (decide_eq_true hlt') (ifT ⟨by omega, hlt'⟩ (bs rfl ?_))
        simp only [Int.toNat_natCast]
        refine bs w1 (ifT ⟨by omega, hlt'⟩ (bs rfl ?_))
        rw [w64i (n := k + 1) (by omega) (by omega)]
        refine bs w2 (ifT ⟨by omega, hlt'⟩ (bs rfl ?_))
        rw [w64i (n := k + 1 + 1) (by omega) (by omega)]
        refine bs w2' (ifT ⟨by omega, hlt'⟩ (bs rfl ?_))
        rw [w64i (n := k + 1 + 1 + 1) (by omega) (by omega)]
        refine bs w2'' ?_
        rw [w64i (n := k + 1 + 1 + 1 + 1) (by omega) (by omega)]
        refine bs e3 (bT rfl (ifT ⟨by omega, hlt'⟩ (bs rfl (bs w4 (ifT ⟨by omega, hlt'⟩ (bs rfl (bS g4 ?_)))))))
        rw [w64i (n := k + 1 + 1 + 1 + 1 + 1) (by omega) (by omega)]
        refine bs e5 (bI rfl ?_)
        rw [w64i (n := (done.length : Int) + 1) (by omega) (by omega)]
        simp
      · rw [show k + 1 + 1 + 1 + 1 + 1 = k + 5 from by omega] at m5 m6
        rw [show k + 1 + 1 + 1 + 1 = k + 4 from by omega, show k + 1 + 1 + 1 = k + 3 from by omega, show k + 1 + 1 = k + 2 from by omega]
        exact .cons m5 m6
theorem markTimerS_run {base f : Nat} {l : List Sd} {h : AH} {S : Fp} {a : Option Addr} {k : Int} (hr : RowD 6 (SdD f) S h l a) (hl : l.length ≤ maxLen) (hS : ∀ b, S b → base ≤ b ∧ b < h.length) (h0 : 0 ≤ k) (hk : k + mcT f l ≤ 1000000000) :
    ∃ l' h', run (Et base) 17 [.slice a l.length l.length, .int .i64 k] h = some (.int .i64 (k + mcT f l), h') ∧ RowD 6 (SdD f) S h' l' a ∧ l'.length = l.length ∧ IsMT l' k (k + mcT f l) ∧ KB S h h' := by
  obtain ⟨l', h', e, row, len, m, kk⟩ := markTimerS_loop (base := base) hl l [] h k (by simp) (by simpa using hr) hS h0 hk
  exact ⟨l', h', r17 (bs e (ifT rfl (bI rfl rfl))), by simpa using row, len, m, kk⟩

theorem heldTimerS_loop {base : Nat} : ∀ {r : List Sd} {k k' : Int}, IsMT r k k' → 0 ≤ k → k' ≤ 1000000000 → ∀ (f : Nat) (h : AH) (p : Nat → Prop) (L : List Sd) (i : Nat) (a : Option Addr), L.drop i = r → i ≤ L.length → L.length ≤ 9223372036854775807 → SsR h p f L a → base ≤ h.length →
    ∃ h', loopL (B19_0 base) [some (.slice a L.length L.length), some (.int .i64 k), some (.int .i64 (i : Int))] h = some (2, [some (.int .i64 k')], h') ∧ KB NoB h h' := by
  intro r k k' hm
  induction hm with
  | nil k =>
    intro h0 hk f h p L i a hr hi hL hs hb
    refine ⟨h, ?_, KB.refl _ _⟩
    refine loop_off (by decide) ?_
    rw [B19_0_eq]
    have : L.length ≤ i := by simpa using hr
    exact ifF (by simp; omega) rfl
  | @cons k k1 k2 l r m1 m2 ih2 =>
    intro h0 hk f h p L i a hr hi hL hs hb
    have le1 := m1.le
    have le2 := m2.le
    have hlt : i < L.length := by
      rcases Nat.lt_or_ge i L.length with h | h
      · exact h
      · rw [List.drop_eq_nil_of_le h] at hr; cases hr
    rw [List.drop_eq_getElem_cons hlt] at hr
    injection hr with hr1 hr2
    obtain ⟨ad, kk, nn, ss, a2, m, rfl, hbl, g0, g1, g2, g3, g4, g5, hmm⟩ := hs.get hlt
    rw [hr1] at hmm g0 g1
    cases f with
    | zero => exact hmm.elim
    | succ f =>
      obtain ⟨a3, ecs, hts, _, hl2⟩ := hmm.parts
      simp only [maxLen] at hl2
      injection ecs with q0 ecs
      injection ecs with q1 ecs
      injection ecs with q2 ecs
      injection ecs with q3 _
      injection q0 with _ q0; injection q1 with _ q1; injection q2 with q2; injection q3 with q3 q4 _
      subst q0; subst q1; subst q2; subst q3; subst q4
      obtain ⟨h1, e1, kk1⟩ := markText_run (base := base) (h := h) (k := k + 1 + 1 + 1 + 1) (by omega)
      have n1 := kk1.1
      obtain ⟨h2, e2, kk2⟩ := heldTermS_run (base := base) m1 (by omega) (by omega) (by omega) (hts.keep kk1 fun _ _ h => h) (by omega)
      have kk02 : KB NoB h h2 := kN kk1 kk2
      have n2 := kk02.1
      obtain ⟨h3, e3, kk3⟩ := ih2 (by omega) hk (f + 1) h2 p L (i + 1) (some ad) hr2 (by omega) hL (hs.keep kk02 fun _ _ h => h) (by omega)
      refine ⟨h3, ?_, kN kk02 kk3⟩
      refine loop_on ?_ e3
      rw [B19_0_eq]
      have hlt' : (i : Int) < (L.length : Int) := by omega
      refine ifT (decide_eq_true hlt') (ifT ⟨by omega, hlt'⟩ (bs rfl ?_))
      simp only [Int.toNat_natCast]
      refine bI g0 (ifF (by simp) (ifT ⟨by omega, hlt'⟩ (bs rfl (bI g1 ?_))))
      rw [w64i (n := k + 1) (by omega) (by omega)]
      refine ifF (by simp) (ifT ⟨by omega, hlt'⟩ (bs rfl (bI g2 ?_)))
      rw [w64i (n := k + 1 + 1) (by omega) (by omega)]
      refine ifF (by simp; omega) (ifT ⟨by omega, hlt'⟩ (bs rfl (bI g3 ?_)))
      rw [w64i (n := k + 1 + 1 + 1) (by omega) (by omega)]
      refine ifF (by simp; omega) (ifT ⟨by omega, hlt'⟩ (bs rfl (bT g4 ?_)))
      rw [w64i (n := k + 1 + 1 + 1 + 1) (by omega) (by omega)]
      refine bs e1 (bT rfl ?_)
      rw [gate_pos (same_keep kk1 g4)]
      refine ifF (by rw [show k + 1 + 1 + 1 + 1 = k + 4 from by omega]; simp) (ifT ⟨by omega, hlt'⟩ (bs rfl (bS (cell_keep kk1 g5) ?_)))
      rw [w64i (n := k + 1 + 1 + 1 + 1 + 1) (by omega) (by omega), show k + 1 + 1 + 1 + 1 + 1 = k + 5 from by omega]
      refine bs e2 (bI rfl (ifF (by simp; omega) ?_))
      rw [w64i (n := (i : Int) + 1) (by omega) (by omega)]
      simp
theorem heldTimerS_run {base f : Nat} {l : List Sd} {k k' : Int} (m : IsMT l k k') (h0 : 0 ≤ k) (hk : k' ≤ 1000000000) {h : AH} {p : Nat → Prop} {a : Option Addr} (hl : l.length ≤ 9223372036854775807) (hs : SsR h p f l a) (hb : base ≤ h.length) :
    ∃ h', run (Et base) 19 [.slice a l.length l.length, .int .i64 k] h = some (.int .i64 k', h') ∧ KB NoB h h' := by
  obtain ⟨h', e, kk⟩ := heldTimerS_loop (base := base) m h0 hk f h p l 0 a (by simp) (by omega) hl hs hb
  rw [show ((0 : Nat) : Int) = 0 from rfl] at e
  exact ⟨h', r19 (bs e (ifF (by simp) (ifT rfl (bI rfl rfl)))), kk⟩
end Go.Proofs.Ytomcfongmahjaaa.Am
