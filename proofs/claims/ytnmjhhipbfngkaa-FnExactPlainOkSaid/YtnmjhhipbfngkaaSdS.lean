/- Rows of what is said that own all below them: copied, marks written, marks read; counted from any number on.
Conditions: none. -/
import Derived.Test.YtnmjhhipbfngkaaTiD
import Derived.Test.YtnmjhhipbfngkaaSd4
set_option linter.unusedSimpArgs false
set_option linter.unusedVariables false
namespace Go.Proofs.Ytnmjhhipbfngkaa.Am
open Go Go.RowKit

theorem szSaidS_any {base f : Nat} {p : Nat → Prop} {h : AH} {l : List Sd} {a : Option Addr} {left : Int} (hl : l.length ≤ 9223372036854775807) (hs : SsR h p f l a) (hb : base ≤ h.length) (hp : ∀ b, p b → b < h.length) (h0 : 0 ≤ left) (h1 : left ≤ 1048576) :
    ∃ z h', run (Et base) 96 [.slice a l.length l.length, .int .i64 left] h = some (.int .i64 z, h') ∧ KB NoB h h' ∧ z ≤ left ∧ -1 ≤ z ∧ (¬ z < 0 → l.length ≤ 1048576 ∧ (∀ x ∈ l, TmB f x.t) ∧ z + ((l.length + sumL (fun x => tcnt f x.t) l : Nat) : Int) ≤ left) := by
  by_cases c : left - (l.length : Int) < 0
  · refine ⟨-1, h, r96 ?_, KB.refl _ _, by omega, by omega, fun h => absurd (by decide) h⟩
    rw [w64i (by omega) (by omega)]
    exact ifT (decide_eq_true c) rfl
  · obtain ⟨e, z, h2, m1, m2, m3, m4, m5, m6⟩ := szSaidS_loop (base := base) (f := f) (by omega) l.length 0 h (left - l.length) (by omega) hs hb hp (by omega) (by omega)
    refine ⟨z, h2, r96 ?_, m3, by omega, m5, fun hz => ⟨by omega, fun x hx => ?_, by have := (m6 hz).2; simp only [List.drop_zero] at this; omega⟩⟩
    · rw [w64i (by omega) (by omega)]
      rw [show ((0 : Nat) : Int) = 0 from rfl] at m1
      refine ifF (by simpa using c) (bs m1 ?_)
      rcases m2 with rfl | rfl
      · exact ifT rfl (bI rfl rfl)
      · exact ifF (by simp) (ifT rfl (bI rfl rfl))
    · obtain ⟨j, hj, rfl⟩ := List.mem_iff_getElem.1 hx
      exact (m6 hz).1 j _ (by omega) (List.getElem?_eq_getElem hj)

theorem toSaidD_run {base f : Nat} {h : AH} {p : Nat → Prop} {kind pid k n : Int} {s : ByteArray} {a : Option Addr} {m : Nat} {t : Tm} (hm : TmR h p f t (termV k n s a m)) (hB : TmB f t) (hb : base ≤ h.length) (hp : ∀ b, p b → b < h.length) :
    ∃ k' n' s' a' m' h', run (Et base) 131 [.agg (saidV kind pid k n s a m).toArray] h = some (.agg (saidV kind pid k' n' s' a' m').toArray, h') ∧ TmD f (iS h.length h'.length) h' t (termV k' n' s' a' m') ∧ KB NoB h h' := by
  obtain ⟨o1, k1, q1⟩ := box_own (base := base) (t := 172) (h := h) (cs := saidV kind pid k n s a m) hb rfl
  generalize hh1 : h ++ [some (⟨saidV kind pid k n s a m, 172⟩ : Blk)] = h1 at o1 k1 q1
  obtain ⟨o2, k2, q2⟩ := box_own (base := base) (t := 174) (h := h1) (cs := saidV 0 0 0 0 ⟨#[]⟩ none 0) (by omega) rfl
  generalize hh2 : h1 ++ [some (⟨saidV 0 0 0 0 ⟨#[]⟩ none 0, 174⟩ : Blk)] = h2 at o2 k2 q2
  obtain ⟨o3, k3, q3⟩ := box_own (base := base) (t := 174) (h := h2) (cs := saidV 0 0 0 0 ⟨#[]⟩ none 0) (by omega) rfl
  generalize hh3 : h2 ++ [some (⟨saidV 0 0 0 0 ⟨#[]⟩ none 0, 174⟩ : Blk)] = h3 at o3 k3 q3
  have k03 : KB NoB h h3 := kN (kN k1 k2) k3
  have a3 := (o1.keepN k2).keepN k3
  have z3 := o2.keepN k3
  obtain ⟨h5, e5, o5, k5, l5⟩ := o3.wr0 (i := 0) (new := [.int .i64 kind]) (by simp) (by simp)
  have a5 := a3.keepB k5 fun i hi => by rw [blk_at0] at hi; omega
  have z5 := z3.keepB k5 fun i hi => by rw [blk_at0] at hi; omega
  obtain ⟨h7, e7, o7, k7, l7⟩ := o5.wr0 (i := 1) (new := [.int .i64 pid]) (by simp [setAt]) (by simp)
  have a7 := a5.keepB k7 fun i hi => by rw [blk_at0] at hi; omega
  have z7 := z5.keepB k7 fun i hi => by rw [blk_at0] at hi; omega
  have m7 := TmR.keep k7 (fun b h1 h2 => by have := hp b h1; omega) _ _ _ (TmR.keep k5 (fun b h1 h2 => by have := hp b h1; omega) _ _ _ (TmR.keep k03 (fun _ _ h => h) _ _ _ hm))
  obtain ⟨cs, h12, e12, m12, k12⟩ := toTermD_run (base := base) f h7 p t _ m7 hB (by omega) (fun b hbp => by have := hp b hbp; omega)
  have n12 := k12.1
  obtain ⟨k', n', s', a', m', rfl⟩ := m12.form
  obtain ⟨h18, e18, o18, k18, l18⟩ := (o7.keepN k12).wr0 (i := 2) (new := termV k' n' s' a' m') (by simp [setAt]) (by simp)
  have z18 := (z7.keepN k12).keepB k18 fun i hi => by rw [blk_at0] at hi; omega
  have m18 := TmD.kp _ _ _ _ _ _ _ k18 (fun b h1 h2 => by omega) m12
  have hout : setAt (setAt (setAt (saidV 0 0 0 0 ⟨#[]⟩ none 0) 0 [.int .i64 kind]) 1 [.int .i64 pid]) 2 (termV k' n' s' a' m') = saidV kind pid k' n' s' a' m' := rfl
  rw [hout] at o18
  obtain ⟨h25, e25, z25, k25, l25⟩ := z18.wr0 (i := 0) (new := saidV kind pid k' n' s' a' m') (by simp) (by simp)
  have hz : setAt (saidV 0 0 0 0 ⟨#[]⟩ none 0) 0 (saidV kind pid k' n' s' a' m') = saidV kind pid k' n' s' a' m' := rfl
  rw [hz] at z25
  have m25 := TmD.kp _ _ _ _ _ _ _ k25 (fun b h1 h2 => by omega) m18
  have kAll : KB NoB h h25 := kFresh (kFresh (kFresh (kFresh (kFresh k03 k5 fun i hi => by omega) k7 fun i hi => by omega) k12 fun i hi => hi.elim) k18 fun i hi => by omega) k25 fun i hi => by omega
  refine ⟨k', n', s', a', m', h25, r131 (lets fun h1' eh => ?_), TmD.mo _ _ _ _ _ _ (fun b hb' => by constructor <;> omega) m25, kAll⟩
  rw [hh1] at eh
  subst eh
  refine lets fun h2' eh => ?_
  rw [hh2] at eh
  subst eh
  refine lets fun h3' eh => ?_
  rw [hh3] at eh
  subst eh
  refine bI (a3.at0 (i := 0) rfl) (bs e5 (bI (a5.at0 (i := 1) rfl) (bs e7 ?_)))
  refine bI (a7.at0 (i := 2) rfl) (bI (a7.at0 (i := 3) rfl) (bT (a7.at0 (i := 4) rfl) (bS (a7.at0 (i := 5) rfl) ?_)))
  refine bs e12 (bs (v := termV k' n' s' a' m') rfl (bI rfl (bI rfl (bT rfl (bS rfl (bs e18 ?_))))))
  refine bI (o18.at0 (i := 0) rfl) (bI (o18.at0 (i := 1) rfl) (bI (o18.at0 (i := 2) rfl) (bI (o18.at0 (i := 3) rfl) (bT (o18.at0 (i := 4) rfl) (bS (o18.at0 (i := 5) rfl) (bs e25 ?_))))))
  exact bI (z25.at0 (i := 0) rfl) (bI (z25.at0 (i := 1) rfl) (bI (z25.at0 (i := 2) rfl) (bI (z25.at0 (i := 3) rfl) (bT (z25.at0 (i := 4) rfl) (bS (z25.at0 (i := 5) rfl) rfl)))))

theorem toSaidSD_loop {base f : Nat} {p : Nat → Prop} {l : List Sd} {a : Option Addr} {ob : Nat} (hl : l.length ≤ 1048576) (hB : ∀ x ∈ l, TmB f x.t) (hp : ∀ b, p b → b < ob) : ∀ (d i : Nat) (h : AH) (vs : List Value), i + d = l.length → SsR h p f l a → ob < h.length → base ≤ h.length → Own base 174 h (at0 ob) vs → vs.length = l.length * 6 →
    Chunks 6 (SdD f) (iS (ob + 1) h.length) h (l.take i) vs →
    ∃ h' vs', loopL (B100_0 base) [some (.slice a l.length l.length), some (.slice (at0 ob) l.length l.length), some (.int .i64 (i : Int))] h = some (2, [some (.slice (at0 ob) l.length l.length)], h') ∧ Own base 174 h' (at0 ob) vs' ∧ vs'.length = l.length * 6 ∧
      Chunks 6 (SdD f) (iS (ob + 1) h'.length) h' l vs' ∧ KB (· = ob) h h' := by
  intro d
  induction d with
  | zero =>
    intro i h vs hi hs ho hb ow hv hd
    rw [List.take_of_length_le (by omega)] at hd
    refine ⟨h, vs, ?_, ow, hv, hd, KB.refl _ _⟩
    refine loop_off (by decide) ?_
    rw [B100_0_eq]
    exact ifF (by simp; omega) rfl
  | succ d ihd =>
    intro i h vs hi hs ho hb ow hv hd
    have hlt : i < l.length := by omega
    obtain ⟨ad, k, n, s, a2, m, rfl, hbl, g0, g1, g2, g3, g4, g5, hm⟩ := hs.get hlt
    obtain ⟨k', n', s', a', m', h1, e1, m1, k1⟩ := toSaidD_run (base := base) (kind := l[i].kind) (pid := l[i].pid) hm (hB _ (List.getElem_mem hlt)) hb (fun b hbp => by have := hp b hbp; omega)
    have n1 := k1.1
    obtain ⟨h2, w1, w2, w3, w4⟩ := (ow.keepN k1).wr0 (i := i * 6) (new := saidV l[i].kind l[i].pid k' n' s' a' m') (by simp; omega) (by simp)
    have kall : KB (· = ob) h h2 := kNB k1 w3
    have m2 := SdD.kp f _ _ _ _ l[i] (saidV l[i].kind l[i].pid k' n' s' a' m') w3 (fun b (hb' : iS h.length h1.length b) e => by omega) ⟨_, _, _, _, _, rfl, m1⟩
    have ch := (hd.keep (SdD.kp _) kall fun b hb' e => by omega).snoc (vs' := setAt vs (i * 6) (saidV l[i].kind l[i].pid k' n' s' a' m')) (S' := iS (ob + 1) h2.length) m2 (fun b hb' hc => by omega) (fun b hb' => by constructor <;> omega) (fun b hb' => by constructor <;> omega) (fun q hq => chunk_setAt_other rfl (by omega) (by simp at hq; omega)) (by
      rw [List.length_take, Nat.min_eq_left (by omega)]
      exact chunk_setAt_self rfl (by omega))
    rw [← take_snoc hlt] at ch
    obtain ⟨h3, vs3, y1, y2, y3, y4, y5⟩ := ihd (i + 1) h2 (setAt vs (i * 6) (saidV l[i].kind l[i].pid k' n' s' a' m')) (by omega) (hs.keep kall fun b h1 h2 => by have := hp b h1; omega) (by omega) (by omega) w2 (by simp [setAt]; omega) ch
    refine ⟨h3, vs3, ?_, y2, y3, y4, KB.trans kall y5 (fun _ _ h => h) (fun _ _ h => h)⟩
    refine loop_on ?_ y1
    rw [B100_0_eq]
    refine ifT (decide_eq_true (by omega)) (ifT ⟨by omega, by omega⟩ (bs rfl ?_))
    simp only [Int.toNat_natCast]
    refine bI g0 (bI g1 (bI g2 (bI g3 (bT g4 (bS g5 ?_)))))
    refine bs e1 ?_
    refine bs (v := saidV l[i].kind l[i].pid k' n' s' a' m') rfl (bI rfl (bI rfl (bI rfl (bI rfl (bT rfl (bS rfl ?_))))))
    refine ifT ⟨by omega, by omega⟩ (bs rfl ?_)
    have w1' : Am.wr base h1 ob (0 + i * 6) (saidV l[i].kind l[i].pid k' n' s' a' m') = some h2 := by rw [Nat.zero_add]; exact w1
    refine bs w1' ?_
    rw [w64i (n := (i : Int) + 1) (by omega) (by omega)]
    rfl
theorem toSaidSD_run {base f : Nat} {h : AH} {p : Nat → Prop} {l : List Sd} {a : Option Addr} (hl : l.length ≤ 1048576) (hB : ∀ x ∈ l, TmB f x.t) (hs : SsR h p f l a) (hb : base ≤ h.length) (hp : ∀ b, p b → b < h.length) :
    ∃ a' h', run (Et base) 100 [.slice a l.length l.length] h = some (.slice a' l.length l.length, h') ∧ RowD 6 (SdD f) (iS h.length h'.length) h' l a' ∧ KB NoB h h' := by
  obtain ⟨o1, k1, q1⟩ := box_own (base := base) (t := 174) (h := h) (cs := rep [(.int .i64 0), (.int .i64 0), (.int .i64 0), (.int .i64 0), (.string ⟨#[]⟩), (.slice none 0 0)] l.length) hb rfl
  generalize hh1 : h ++ [some (⟨rep [(.int .i64 0), (.int .i64 0), (.int .i64 0), (.int .i64 0), (.string ⟨#[]⟩), (.slice none 0 0)] l.length, 174⟩ : Blk)] = h1 at o1 k1 q1
  obtain ⟨h2, vs2, e2, o2, v2, m2, k2⟩ := toSaidSD_loop (base := base) (p := p) (ob := h.length) hl hB hp l.length 0 h1 _ (by omega) (hs.keep k1 fun _ _ h => h) (by omega) (by omega) o1 (rep_len6 ..) Chunks.nil
  have n2 := k2.1
  refine ⟨at0 h.length, h2, r100 ?_, ⟨vs2, iS (h.length + 1) h2.length, o2.sl, v2, .inr fun b hb' => by rw [blk_at0] at hb'; subst hb'; exact ⟨by constructor <;> omega, by omega⟩, fun b hb' => by constructor <;> omega, m2⟩, KB.trans k1 k2 (fun _ _ h => h) (fun i hi h => by omega)⟩
  refine ifT ⟨rfl, by omega, by omega, by omega⟩ (lets fun h1' eh => ?_)
  simp only [Int.toNat_natCast] at eh ⊢
  rw [hh1] at eh
  subst eh
  rw [show ((0 : Nat) : Int) = 0 from rfl] at e2
  exact bs e2 (ifT rfl (bS rfl rfl))

end Go.Proofs.Ytnmjhhipbfngkaa.Am
