/- What is drawn: timers.
Conditions: none. -/
import Derived.Test.YtomcfongmahjaaaAd
import Derived.Test.YtomcfongmahjaaaDr2
set_option linter.unusedSimpArgs false
set_option linter.unusedVariables false
namespace Go.Proofs.Ytomcfongmahjaaa.Am
open Go Go.RowKit

/-- How deep what is drawn may be. -/
abbrev dF : Nat := 12
theorem l9Int_run {base : Nat} {h : AH} {v : Int} (hb : base ≤ h.length) : ∃ h', run (Et base) 41 [.int .i64 v] h = some (.agg (termV 1 v ⟨#[]⟩ none 0).toArray, h') ∧ KB NoB h h' := by
  obtain ⟨o1, k1, q1⟩ := box_own (base := base) (t := 27) (h := h) (cs := termV 1 v ⟨#[]⟩ none 0) hb rfl
  generalize hh1 : h ++ [some (⟨termV 1 v ⟨#[]⟩ none 0, 27⟩ : Blk)] = h1 at o1 k1 q1
  refine ⟨h1, r41 (nw hb rfl fun y ey => ?_), k1⟩
  have ey2 : y = h1 := by rw [ey]; exact hh1
  subst ey2
  exact q4 o1 rfl
theorem l14One_run {base cb : Nat} {h : AH} (x : CurR base cb h) : ∃ (y : Sd) (k n : Int) (s : ByteArray) (a : Option Addr) (m : Nat) (h' : AH), run (Et base) 39 [.pointer (at0 cb)] h = some (.agg (saidV y.kind y.pid k n s a m).toArray, h') ∧ TmR h' (iS h.length h'.length) dF y.t (termV k n s a m) ∧ TmB dF y.t ∧ CurR base cb h' ∧ KB (· = cb) h h' := by
  have hlt := x.lt
  obtain ⟨o1, k1, q1⟩ := box_own (base := base) (t := 29) (h := h) (cs := saidV 0 0 0 0 ⟨#[]⟩ none 0) (by omega) rfl
  generalize hh1 : h ++ [some (⟨saidV 0 0 0 0 ⟨#[]⟩ none 0, 29⟩ : Blk)] = h1 at o1 k1 q1
  obtain ⟨o2, k2, q2⟩ := box_own (base := base) (t := 3) (h := h1) (cs := iv .i64 [0, 1, 2, 3, 9, 1000000000]) (by omega) rfl
  generalize hh2 : h1 ++ [some (⟨iv .i64 [0, 1, 2, 3, 9, 1000000000], 3⟩ : Blk)] = h2 at o2 k2 q2
  obtain ⟨n4, h3, e3, _, x3, k3, l3⟩ := l1Int_run ((x.keepN k1).keepN k2) o2.sl (fun b hb => by rw [blk_at0] at hb; omega) (by simp) (by simp)
  obtain ⟨n6, h5, e5, z0, z1, _, x5, k5, l5⟩ := l1Below_run (n := 3) x3 (by omega)
  have z1 := z1 (by omega)
  obtain ⟨t, cs, h7, e7, m7, tb, x7, k7⟩ := l1Draw_run (base := base) (cb := cb) 11 1 (by omega) (by omega) h5 x5
  have n7 := k7.1
  obtain ⟨k, n, s, a, m, rfl⟩ := m7.form
  have o7 := (((o1.keepN k2).keepB k3 fun b hb => by rw [blk_at0] at hb; omega).keepB k5 fun b hb => by rw [blk_at0] at hb; omega).keep k7 fun b hb hu => by rw [blk_at0] at hb; omega
  obtain ⟨h13, e13, o13, k13, l13⟩ := o7.wr0 (i := 0) (new := saidV n4 (1 + n6) k n s a m) (by simp) (by simp)
  have hz : setAt (saidV 0 0 0 0 ⟨#[]⟩ none 0) 0 (saidV n4 (1 + n6) k n s a m) = saidV n4 (1 + n6) k n s a m := rfl
  rw [hz] at o13
  have k07 : KB (· = cb) h h7 := kC (kC (kC (kNB (kN k1 k2) k3) k5) k7) (KB.refl _ _)
  have m13 := TmD.kp _ _ _ _ _ _ _ k13 (fun b (hb : iS h5.length h7.length b) hu => by omega) m7
  refine ⟨⟨n4, 1 + n6, t⟩, k, n, s, a, m, h13, r39 (lets fun y ey => ?_), (TmD.tmR _ _ _ _ _ m13).mono (fun b hb => by constructor <;> omega) _ _ _, tb.1, x7.keep k13 fun b hb => by omega, kCF k07 k13 fun i hi => by omega⟩
  have ey2 : y = h1 := by rw [ey]; exact hh1
  subst ey2
  refine lets fun y ey => ?_
  have ey2 : y = h2 := by rw [ey]; exact hh2
  subst ey2
  refine bs e3 (bI rfl (bs e5 (bI rfl (bs e7 (bs (v := termV k n s a m) rfl (bI rfl (bI rfl (bT rfl (bS rfl ?_)))))))))
  rw [w64i (n := 1 + n6) (by omega) (by omega)]
  exact bs e13 (q6 o13 rfl)

theorem addT_mem {f : Nat} {l : List Sd} {x y : Sd} (h : y ∈ addT f l x) : y ∈ l ∨ y = x := by
  unfold addT at h
  split at h
  · unfold insT at h
    rcases List.mem_append.1 h with h | h
    · exact .inl (List.mem_of_mem_take h)
    · rcases List.mem_cons.1 h with h | h
      · exact .inr h
      · exact .inl (List.mem_of_mem_drop h)
  · exact .inl h
theorem addT_len {f : Nat} {l : List Sd} {x : Sd} : (addT f l x).length ≤ l.length + 1 := by
  unfold addT
  split
  · rw [insT_len]; exact Nat.le_refl _
  · omega

theorem SsR.mono {h : AH} {p r : Nat → Prop} {f : Nat} {l : List Sd} {a : Option Addr} (x : SsR h p f l a) (hq : ∀ b, p b → r b) : SsR h r f l a := by
  obtain ⟨vs, h4, h5, h6, h7⟩ := x
  exact ⟨vs, h4, h5.imp id fun g b hb => hq b (g b hb), h6, fun i t hi => by obtain ⟨cs, e, y⟩ := h7 i t hi; exact ⟨cs, e, y.mono hq _ _ _⟩⟩
theorem l14Draw_loop {base cb lo : Nat} (hcb : cb < lo) : ∀ (d : Nat) (h : AH) (a : Option Addr) (q : Nat → Prop) (l : List Sd), CurR base cb h → lo ≤ h.length → SsO base h q dF l a → (∀ b, q b ∨ blk a b → lo ≤ b ∧ b < h.length) → (∀ y ∈ l, TmB dF y.t) → l.length + d ≤ 1000 →
    ∃ h' a' q' l', loopL (B37_0 base) [some (.pointer (at0 cb)), some (.slice a l.length l.length), some (.int .i64 (d : Int))] h = some (2, [some (.slice a' (List.length l') (List.length l'))], h') ∧ CurR base cb h' ∧ SsO base h' q' dF l' a' ∧ (∀ b, q' b ∨ blk a' b → lo ≤ b ∧ b < h'.length) ∧ (∀ y ∈ l', TmB dF y.t) ∧ l'.length ≤ l.length + d ∧ KB (· = cb) h h' := by
  intro d
  induction d with
  | zero =>
    intro h a q l x hlo hs hq hB hl
    refine ⟨h, a, q, l, loop_off (by decide) ?_, x, hs, hq, hB, by omega, KB.refl _ _⟩
    rw [B37_0_eq]
    exact ifF (by simp) rfl
  | succ d ih =>
    intro h a q l x hlo hs hq hB hl
    have hlt := x.lt
    obtain ⟨y, k, n, s, a2, m, h1, e1, m1, b1, x1, k1⟩ := l14One_run x
    have n1 := k1.1
    have hs1 := hs.keep k1 fun b hu hb => by have := hq b hb; omega
    obtain ⟨a', q', h2, e2, R2, hq2, k2⟩ := specAdd_run (base := base) (p := fun b => b < h1.length) (x := y) (by omega) hB (hs1.ssR.mono fun b hb => by have := hq b hb; omega) (m1.mono (fun b hb => hb.2) _ _ _) b1 (by omega) (fun b hb => hb)
    have n2 := k2.1
    have al := addT_len (f := dF) (l := l) (x := y)
    obtain ⟨h3, a3, q3, l3, e3, x3, s3, hq3, hB3, hl3, k3⟩ := ih h2 a' q' (addT dF l y) (x1.keepN k2) (by omega) R2 (fun b hb => by have := hq2 b hb; omega) (fun z hz => by
      rcases addT_mem hz with hz | hz
      · exact hB z hz
      · subst hz; exact b1) (by omega)
    refine ⟨h3, a3, q3, l3, loop_on ?_ e3, x3, s3, hq3, hB3, by omega, kC (kCN k1 k2) k3⟩
    rw [B37_0_eq]
    refine ifT (decide_eq_true (by omega)) (bs e1 (bs (v := saidV y.kind y.pid k n s a2 m) rfl (bI rfl (bI rfl (bI rfl (bI rfl (bT rfl (bS rfl (bs e2 (bs rfl (bS rfl (bB rfl ?_))))))))))))
    rw [w64i (by omega) (by omega), show (((d + 1 : Nat) : Int) - 1) = (d : Int) from by omega]
theorem l14Draw_run {base cb : Nat} {h : AH} (x : CurR base cb h) : ∃ l a q h', run (Et base) 37 [.pointer (at0 cb)] h = some (.slice a (List.length l) (List.length l), h') ∧ CurR base cb h' ∧ SsO base h' q dF l a ∧ (∀ b, q b ∨ blk a b → h.length ≤ b ∧ b < h'.length) ∧ (∀ y ∈ l, TmB dF y.t) ∧ l.length ≤ 7 ∧ KB (· = cb) h h' := by
  have hlt := x.lt
  obtain ⟨o1, k1, q1⟩ := box_own (base := base) (t := 29) (h := h) (cs := []) (by omega) rfl
  generalize hh1 : h ++ [some (⟨[], 29⟩ : Blk)] = h1 at o1 k1 q1
  obtain ⟨n, h2, e2, z0, z1, _, x2, k2, l2⟩ := l1Below_run (n := 7) (x.keepN k1) (by omega)
  have z1 := z1 (by omega)
  have o2 := o1.keepB k2 fun b hb => by rw [blk_at0] at hb; omega
  obtain ⟨h3, a3, q3, l3, e3, x3, s3, hq3, hB3, hl3, k3⟩ := l14Draw_loop (base := base) (cb := cb) (lo := h.length) (by omega) n.toNat h2 (at0 h.length) (fun _ => False) [] x2 (by omega) (SsO.nil o2 fun _ _ h => h) (fun b hb => by
    rcases hb with hb | hb
    · exact hb.elim
    · rw [blk_at0] at hb; omega) (fun y h => nomatch h) (by simp; omega)
  rw [show ((n.toNat : Nat) : Int) = n from by omega] at e3
  refine ⟨l3, a3, q3, h3, r37 (lets fun y ey => ?_), x3, s3, hq3, hB3, by simp at hl3; omega, kC (kNB k1 k2) k3⟩
  have ey2 : y = h1 := by rw [ey]; exact hh1
  subst ey2
  exact bs e2 (bI rfl (bs e3 (ifT rfl (bS rfl rfl))))

theorem l14Any_loop {base cb lo : Nat} (hcb : cb < lo) : ∀ (d : Nat) (h : AH) (a : Option Addr) (q : Nat → Prop) (l : List Sd), CurR base cb h → lo ≤ h.length → SsO base h q dF l a → (∀ b, q b ∨ blk a b → lo ≤ b ∧ b < h.length) → (∀ y ∈ l, TmB dF y.t) → 51 ≤ l.length + d → l.length ≤ 60 →
    ∃ h' a' l', loopL (B21_0 base) [some (.pointer (at0 cb)), some (.slice a l.length l.length)] h = some (2, [some (.slice a' (List.length l') (List.length l'))], h') ∧ CurR base cb h' ∧ SsO base h' q dF l' a' ∧ (∀ b, q b ∨ blk a' b → lo ≤ b ∧ b < h'.length) ∧ (∀ y ∈ l', TmB dF y.t) ∧ l'.length ≤ 60 ∧ KB (fun b => b = cb ∨ lo ≤ b) h h' := by
  intro d
  induction d with
  | zero =>
    intro h a q l x hlo hs hq hB hl h60
    obtain ⟨z, h1, e1, z0, z1, _, x1, k1, l1⟩ := l1Below_run (n := 3) x (by omega)
    have z1 := z1 (by omega)
    refine ⟨h1, a, l, loop_off (by decide) ?_, x1, hs.keep k1 fun b hu hb => by have := hq b hb; omega, fun b hb => by have := hq b hb; omega, hB, h60, k1.mono fun i _ hi => .inl hi⟩
    rw [B21_0_eq]
    refine bs e1 (bI rfl (ifF ?_ rfl))
    rw [w64i (by omega) (by omega)]
    simp; omega
  | succ d ih =>
    intro h a q l x hlo hs hq hB hl h60
    have hlt := x.lt
    obtain ⟨z, h1, e1, z0, z1, _, x1, k1, l1⟩ := l1Below_run (n := 3) x (by omega)
    have z1 := z1 (by omega)
    have hs1 := hs.keep k1 fun b hu hb => by have := hq b hb; omega
    by_cases c : ((l.length : Nat) : Int) < 49 + z
    · obtain ⟨h3, e3, k3⟩ := l9Int_run (base := base) (h := h1) (v := 1) (by omega)
      have n3 := k3.1
      obtain ⟨a5, h5, e5, s5, k5, b5, n5⟩ := (hs1.keepN k3).snoc (y := ⟨1000000000, 1, .mk 1 1 ⟨#[]⟩ []⟩) (k := 1) (n := 1) (s := ⟨#[]⟩) (a2 := none) (m := 0) (TmD.tmR _ _ _ _ _ (leafD (by decide)).1) (by omega) (fun b hb => by have := hq b (.inl hb); omega) (by omega)
      have hq5 : ∀ b, q b ∨ blk a5 b → lo ≤ b ∧ b < h5.length := fun b hb => by
        rcases hb with hb | hb
        · have := hq b (.inl hb); omega
        · have := b5 b hb; have := (s5.lt b hb).2; omega
      obtain ⟨h6, a6, l6, e6, x6, s6, hq6, hB6, hl6, k6⟩ := ih h5 a5 q (l ++ [⟨1000000000, 1, .mk 1 1 ⟨#[]⟩ []⟩]) ((x1.keepN k3).keep k5 fun b hb => by have := hq b (.inr hb); omega) (by omega) s5 hq5 (fun y hy => by
        rcases List.mem_append.1 hy with hy | hy
        · exact hB y hy
        · rw [List.mem_singleton] at hy; subst hy; exact (leafD (S := fun _ => True) (h := h) (by decide)).2) (by simp; omega) (by simp; omega)
      refine ⟨h6, a6, l6, loop_on ?_ e6, x6, s6, hq6, hB6, hl6, KB.trans (KB.trans (kCN k1 k3) k5 (T := fun b => b = cb ∨ lo ≤ b) (fun _ _ h => .inl h) (fun i _ hi => .inr (hq i (.inr hi)).1)) k6 (fun _ _ h => h) (fun _ _ h => h)⟩
      rw [B21_0_eq]
      refine bs e1 (bI rfl ?_)
      rw [w64i (by omega) (by omega)]
      refine ifT (decide_eq_true c) (bs e3 (bs (v := termV 1 1 ⟨#[]⟩ none 0) rfl (bI rfl (bI rfl (bT rfl (bS rfl (lets fun y ey => ?_)))))))
      subst ey
      refine bs e5 (bS rfl ?_)
      simp
    · refine ⟨h1, a, l, loop_off (by decide) ?_, x1, hs1, fun b hb => by have := hq b hb; omega, hB, h60, k1.mono fun i _ hi => .inl hi⟩
      rw [B21_0_eq]
      refine bs e1 (bI rfl (ifF ?_ rfl))
      rw [w64i (by omega) (by omega)]
      simpa using c
theorem l14Any_run {base cb : Nat} {h : AH} (x : CurR base cb h) : ∃ l a q h', run (Et base) 21 [.pointer (at0 cb)] h = some (.slice a (List.length l) (List.length l), h') ∧ CurR base cb h' ∧ SsO base h' q dF l a ∧ (∀ b, q b ∨ blk a b → h.length ≤ b ∧ b < h'.length) ∧ (∀ y ∈ l, TmB dF y.t) ∧ l.length ≤ 60 ∧ KB (· = cb) h h' := by
  have hlt := x.lt
  obtain ⟨l, a, q, h1, e1, x1, s1, hq1, hB1, hl1, k1⟩ := l14Draw_run x
  have n1 := k1.1
  obtain ⟨b4, h4, e4, x4, k4, l4⟩ := l1Once_run (n := 4) x1 (by omega)
  have s4 := s1.keep k4 fun b hu hb => by have := hq1 b hb; omega
  -- one more, or not
  obtain ⟨l', a', q', h5, x5, s5, hq5, hB5, hl5, k5, e5⟩ : ∃ l' a' q' h5, CurR base cb h5 ∧ SsO base h5 q' dF l' a' ∧ (∀ b, q' b ∨ blk a' b → h.length ≤ b ∧ b < h5.length) ∧ (∀ y ∈ l', TmB dF y.t) ∧ List.length l' ≤ 8 ∧ KB (· = cb) h h5 ∧
      ((run (Et base) 38 [(.pointer (at0 cb)), (.int .i64 (4 : Int))] h1).bind fun r4 =>
        ((some r4.1).bind getB).bind fun b5 =>
        (if b5 = true then
        (run (Et base) 39 [(.pointer (at0 cb))] r4.2).bind fun r6 =>
        ((some r6.1).bind (getAgg 6)).bind fun l7 =>
        ((l7[0]?).bind (getI .i64)).bind fun n8 =>
        ((l7[1]?).bind (getI .i64)).bind fun n9 =>
        ((l7[2]?).bind (getI .i64)).bind fun n10 =>
        ((l7[3]?).bind (getI .i64)).bind fun n11 =>
        ((l7[4]?).bind getStr).bind fun s12 =>
        ((l7[5]?).bind getS).bind fun l13 =>
        (some (r6.2 ++ [some ⟨[(.int .i64 n8), (.int .i64 n9), (.int .i64 n10), (.int .i64 n11), (.string s12), (.slice l13.1 l13.2 l13.2)], 29⟩])).bind fun h14 =>
        (Am.app base h14 29 6 72 a l.length (rawAt h14 (some ⟨(List.length r6.2), 0, none⟩) (1 * 6)) 1).bind fun p15 =>
        ((some p15.1).bind getS).bind fun l16 =>
        some (Sum.inl ([some (.pointer (at0 cb)), some (.slice l16.1 l16.2 l16.2)], p15.2))
        else
        some (Sum.inl ([some (.pointer (at0 cb)), some (.slice a l.length l.length)], r4.2)) : Option (Sum (Slots × AH) (Value × AH)))) = some (Sum.inl ([some (.pointer (at0 cb)), some (.slice a' (List.length l') (List.length l'))], h5)) := by
    cases b4 with
    | false => exact ⟨l, a, q, h4, x4, s4, fun b hb => by have := hq1 b hb; omega, hB1, by omega, kC k1 k4, bs e4 (bB rfl rfl)⟩
    | true =>
      obtain ⟨y, k, n, s, a2, m, h6, e6, m6, b6, x6, k6⟩ := l14One_run x4
      have n6 := k6.1
      have s6 := (s4.keep k6 fun b hu hb => by have := hq1 b hb; omega).mono (r := fun b => q b ∨ iS h4.length h6.length b) (fun b hb => .inl hb) (fun b hb hr => by
        rcases hr with hr | hr
        · obtain ⟨vs, _, hpq, _⟩ := s4
          exact hpq b hb hr
        · have := hq1 b (.inr hb); omega)
      obtain ⟨a7, h7, e7, s7, k7, b7, n7⟩ := s6.snoc (y := y) (m6.mono (fun b hb => .inr hb) _ _ _) (by omega) (fun b hb => by
        rcases hb with hb | hb
        · have := hq1 b (.inl hb); omega
        · omega) (by omega)
      refine ⟨l ++ [y], a7, fun b => q b ∨ iS h4.length h6.length b, h7, x6.keep k7 fun b hb => by have := hq1 b (.inr hb); omega, s7, fun b hb => ?_, fun z hz => ?_, by simp; omega, kCF (kC (kC k1 k4) k6) k7 fun i hi => by have := hq1 i (.inr hi); omega, ?_⟩
      · rcases hb with (hb | hb) | hb
        · have := hq1 b (.inl hb); omega
        · omega
        · have := b7 b hb; have := (s7.lt b hb).2; omega
      · rcases List.mem_append.1 hz with hz | hz
        · exact hB1 z hz
        · rw [List.mem_singleton] at hz; subst hz; exact b6
      · refine bs e4 (bB rfl (ifT rfl (bs e6 (bs (v := saidV y.kind y.pid k n s a2 m) rfl (bI rfl (bI rfl (bI rfl (bI rfl (bT rfl (bS rfl (lets fun z ez => ?_)))))))))))
        subst ez
        refine bs e7 (bS rfl ?_)
        simp
  have n5 := k5.1
  obtain ⟨b20, h20, e20, x20, k20, l20⟩ := l1Once_run (n := 30) x5 (by omega)
  have s20 := s5.keep k20 fun b hu hb => by have := hq5 b hb; omega
  cases b20 with
  | false =>
    refine ⟨l', a', q', h20, r21 (bs e1 (bS rfl (bj _ e5 (bs rfl (bS rfl ?_))))), x20, s20, fun b hb => by have := hq5 b hb; omega, hB5, by omega, kC k5 k20⟩
    refine bj (q := ([some (.slice a' (List.length l') (List.length l'))], h20)) (bs e20 (bB rfl rfl)) (bS rfl rfl)
  | true =>
    obtain ⟨h22, a22, l22, e22, x22, s22, hq22, hB22, hl22, k22⟩ := l14Any_loop (base := base) (cb := cb) (lo := h.length) (by omega) 51 h20 a' q' l' x20 (by omega) s20 (fun b hb => by have := hq5 b hb; omega) hB5 (by omega) (by omega)
    refine ⟨l22, a22, q', h22, r21 (bs e1 (bS rfl (bj _ e5 (bs rfl (bS rfl ?_))))), x22, s22, hq22, hB22, hl22, KB.trans (kC k5 k20) k22 (fun _ _ h => h) (fun i hi hu => by omega)⟩
    refine bj (q := ([some (.slice a22 (List.length l22) (List.length l22))], h22)) (bs e20 (bB rfl (ifT rfl (bs e22 (ifT rfl (bS rfl rfl)))))) (bS rfl rfl)

end Go.Proofs.Ytomcfongmahjaaa.Am
