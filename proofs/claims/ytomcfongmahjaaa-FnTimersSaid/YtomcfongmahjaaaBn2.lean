/- What is drawn for AddTimer: timers, and one that may be bent.
Conditions: none. -/
import Derived.Test.YtomcfongmahjaaaBn
set_option linter.unusedSimpArgs false
set_option linter.unusedVariables false
namespace Go.Proofs.Ytomcfongmahjaaa.Am
open Go Go.RowKit

theorem l1Any_run {base cb : Nat} {h : AH} (x : CurR base cb h) : ∃ (t : Tm) (k n : Int) (s : ByteArray) (a : Option Addr) (m : Nat) (h' : AH), run (Et base) 43 [.pointer (at0 cb)] h = some (.agg (termV k n s a m).toArray, h') ∧ TmR h' (iS h.length h'.length) dF t (termV k n s a m) ∧ TmB dF t ∧ CurR base cb h' ∧ KB (· = cb) h h' := by
  have hlt := x.lt
  obtain ⟨o1, k1, q1⟩ := box_own (base := base) (t := 27) (h := h) (cs := termV 0 0 ⟨#[]⟩ none 0) (by omega) rfl
  generalize hh1 : h ++ [some (⟨termV 0 0 ⟨#[]⟩ none 0, 27⟩ : Blk)] = h1 at o1 k1 q1
  obtain ⟨t, cs, h2, e2, m2, tb, x2, k2⟩ := l1Draw_run (base := base) (cb := cb) 3 3 (by omega) (by omega) h1 (x.keepN k1)
  have n2 := k2.1
  obtain ⟨k, n, s, a, m, rfl⟩ := m2.form
  have o2 := o1.keep k2 fun b hb hk => by rw [blk_at0] at hb; omega
  obtain ⟨o8, k8, q8⟩ := box_own (base := base) (t := 27) (h := h2) (cs := termV 0 0 ⟨#[]⟩ none 0) (by omega) rfl
  generalize hh8 : h2 ++ [some (⟨termV 0 0 ⟨#[]⟩ none 0, 27⟩ : Blk)] = h8 at o8 k8 q8
  obtain ⟨h9, e9, o9, k9, l9⟩ := o8.wr0 (i := 0) (new := termV k n s a m) (by simp) (by simp)
  have hz : setAt (termV 0 0 ⟨#[]⟩ none 0) 0 (termV k n s a m) = termV k n s a m := rfl
  rw [hz] at o9
  have k29 : KB NoB h2 h9 := kFresh k8 k9 fun i hi => by omega
  have k09 : KB (· = cb) h h9 := KB.trans (kNB k1 k2) k29 (fun _ _ h => h) (fun _ _ h => h.elim)
  have o19 := o2.keepN k29
  obtain ⟨b11, h11, e11, x11, k11, l11⟩ := l1Once_run (n := 5) (x2.keepN k29) (by omega)
  have o911 := o9.keep k11 fun b hb hk => by rw [blk_at0] at hb; omega
  have o111 := o19.keep k11 fun b hb hk => by rw [blk_at0] at hb; omega
  have m11 := TmR.keep k11 (fun b (hb : iS h1.length h2.length b) hk => by omega) _ _ _ (TmR.keep k29 (fun _ _ h => h) _ _ _ (TmD.tmR _ _ _ _ _ m2))
  have k011 := kC k09 k11
  cases b11 with
  | false =>
    obtain ⟨h30, e30, o30, k30, l30⟩ := o111.wr0 (i := 0) (new := termV k n s a m) (by simp) (by simp)
    rw [hz] at o30
    have m30 := TmR.keep k30 (fun b (hb : iS h1.length h2.length b) hk => by omega) _ _ _ m11
    refine ⟨t, k, n, s, a, m, h30, r43 (lets fun y ey => ?_), (m30.mono (fun b hb => by constructor <;> omega) _ _ _).le (by decide), tb.1.le (by decide), x11.keep k30 fun b hb => by omega, kCF k011 k30 fun i hi => by omega⟩
    rw [hh1] at ey
    subst ey
    refine bs e2 (bs (v := termV k n s a m) rfl (bI rfl (bI rfl (bT rfl (bS rfl (lets fun y ey => ?_))))))
    rw [hh8] at ey
    subst ey
    exact bs e9 (bj (q := ([some (.pointer (at0 h.length)), some (.pointer (at0 h2.length))], h11)) (bs e11 (bB rfl rfl)) (bs rfl (bs rfl (q4 o911 (bs e30 (q4 o30 rfl))))))
  | true =>
    obtain ⟨t', k', n', s', a', m', h17, e17, m17, tb17, x17, k17⟩ := l1Bend_run (f := 3) x11 m11 tb.1 tb.2 (fun b hb => by omega)
    have n17 := k17.1
    obtain ⟨h23, e23, o23, k23, l23⟩ := (o911.keep k17 fun b hb hk => by rw [blk_at0] at hb; omega).wr0 (i := 0) (new := termV k' n' s' a' m') (by simp) (by simp)
    have hz2 : setAt (termV k n s a m) 0 (termV k' n' s' a' m') = termV k' n' s' a' m' := rfl
    rw [hz2] at o23
    have k1123 : KB (fun b => b = cb ∨ b = h2.length) h11 h23 := KB.trans k17 k23 (fun _ _ h => .inl h) (fun _ _ h => .inr h)
    obtain ⟨h30, e30, o30, k30, l30⟩ := (o111.keep k1123 fun b hb hk => by rw [blk_at0] at hb; omega).wr0 (i := 0) (new := termV k' n' s' a' m') (by simp) (by simp)
    have hz : setAt (termV 0 0 ⟨#[]⟩ none 0) 0 (termV k' n' s' a' m') = termV k' n' s' a' m' := rfl
    rw [hz] at o30
    have m30 := TmR.keep k30 (fun b (hb : iS h11.length h17.length b) hk => by omega) _ _ _ (TmR.keep k23 (fun b (hb : iS h11.length h17.length b) hk => by omega) _ _ _ m17)
    refine ⟨t', k', n', s', a', m', h30, r43 (lets fun y ey => ?_), (m30.mono (fun b hb => by constructor <;> omega) _ _ _).le (by decide), tb17.le (by decide), (x17.keep k23 fun b hb => by omega).keep k30 fun b hb => by omega, kCF (kCF (kC k011 k17) k23 fun i hi => by omega) k30 fun i hi => by omega⟩
    rw [hh1] at ey
    subst ey
    refine bs e2 (bs (v := termV k n s a m) rfl (bI rfl (bI rfl (bT rfl (bS rfl (lets fun y ey => ?_))))))
    rw [hh8] at ey
    subst ey
    refine bs e9 (bj (q := ([some (.pointer (at0 h.length)), some (.pointer (at0 h2.length))], h23)) (bs e11 (bB rfl (ifT rfl (q4 o911 (bs e17 (bs (v := termV k' n' s' a' m') rfl (bI rfl (bI rfl (bT rfl (bS rfl (bs e23 rfl))))))))))) (bs rfl (bs rfl (q4 o23 (bs e30 (q4 o30 rfl))))))

theorem l14Bent_run {base cb : Nat} {h : AH} (x : CurR base cb h) : ∃ (y : Sd) (k n : Int) (s : ByteArray) (a : Option Addr) (m : Nat) (h' : AH), run (Et base) 22 [.pointer (at0 cb)] h = some (.agg (saidV y.kind y.pid k n s a m).toArray, h') ∧ TmR h' (iS h.length h'.length) dF y.t (termV k n s a m) ∧ TmB dF y.t ∧ CurR base cb h' ∧ KB (· = cb) h h' := by
  have hlt := x.lt
  obtain ⟨o1, k1, q1⟩ := box_own (base := base) (t := 29) (h := h) (cs := saidV 0 0 0 0 ⟨#[]⟩ none 0) (by omega) rfl
  generalize hh1 : h ++ [some (⟨saidV 0 0 0 0 ⟨#[]⟩ none 0, 29⟩ : Blk)] = h1 at o1 k1 q1
  obtain ⟨y, k, n, s, a, m, h2, e2, m2, tb, x2, k2⟩ := l14One_run (x.keepN k1)
  have n2 := k2.1
  have o2 := o1.keep k2 fun b hb hk => by rw [blk_at0] at hb; omega
  obtain ⟨o10, k10, q10⟩ := box_own (base := base) (t := 29) (h := h2) (cs := saidV 0 0 0 0 ⟨#[]⟩ none 0) (by omega) rfl
  generalize hh10 : h2 ++ [some (⟨saidV 0 0 0 0 ⟨#[]⟩ none 0, 29⟩ : Blk)] = h10 at o10 k10 q10
  obtain ⟨h11, e11, o11, k11, l11⟩ := o10.wr0 (i := 0) (new := saidV y.kind y.pid k n s a m) (by simp) (by simp)
  have hz : ∀ {kind pid k n : Int} {s : ByteArray} {a : Option Addr} {m : Nat}, setAt (saidV 0 0 0 0 ⟨#[]⟩ none 0) 0 (saidV kind pid k n s a m) = saidV kind pid k n s a m := rfl
  rw [hz] at o11
  have k211 : KB NoB h2 h11 := kFresh k10 k11 fun i hi => by omega
  have k011 : KB (· = cb) h h11 := KB.trans (kNB k1 k2) k211 (fun _ _ h => h) (fun _ _ h => h.elim)
  obtain ⟨z, h13, e13, z0, z1, _, x13, k13, l13⟩ := l1Below_run (n := 8) (x2.keepN k211) (by omega)
  have o13 := o11.keep k13 fun b hb hk => by rw [blk_at0] at hb; omega
  have o113 := (o2.keepN k211).keep k13 fun b hb hk => by rw [blk_at0] at hb; omega
  have m13 := TmR.keep k13 (fun b (hb : iS h1.length h2.length b) hk => by omega) _ _ _ (TmR.keep k211 (fun _ _ h => h) _ _ _ m2)
  have k013 := kC k011 k13
  have fin : ∀ {hj : AH} {y' : Sd} {k' n' : Int} {s' : ByteArray} {a' : Option Addr} {m' : Nat} {S : Nat → Prop}, Own base 29 hj (at0 h2.length) (saidV y'.kind y'.pid k' n' s' a' m') → KB S h13 hj → (∀ b, S b → b = cb ∨ h2.length ≤ b) → TmR hj (iS h1.length hj.length) dF y'.t (termV k' n' s' a' m') → CurR base cb hj →
      ∃ h38, Am.wr base hj h.length 0 (saidV y'.kind y'.pid k' n' s' a' m') = some h38 ∧ Own base 29 h38 (at0 h.length) (saidV y'.kind y'.pid k' n' s' a' m') ∧ TmR h38 (iS h.length h38.length) dF y'.t (termV k' n' s' a' m') ∧ CurR base cb h38 ∧ KB (· = cb) h h38 := by
    intro hj y' k' n' s' a' m' S oj kj hS mj xj
    have nj := kj.1
    obtain ⟨h38, e38, o38, k38, l38⟩ := (o113.keep kj fun b hb hk => by rw [blk_at0] at hb; have := hS b hk; omega).wr0 (i := 0) (new := saidV y'.kind y'.pid k' n' s' a' m') (by simp) (by simp)
    rw [hz] at o38
    refine ⟨h38, e38, o38, (TmR.keep k38 (fun b (hb : iS h1.length hj.length b) hk => by omega) _ _ _ mj).mono (fun b hb => by constructor <;> omega) _ _ _, xj.keep k38 fun b hb => by omega, kCF (KB.trans k013 kj (fun _ _ h => h) (fun i hi hk => ?_)) k38 fun i hi => by omega⟩
    have := hS i hk
    omega
  by_cases c0 : z = 0
  · subst c0
    obtain ⟨o15, k15, q15⟩ := box_own (base := base) (t := 3) (h := h13) (cs := iv .i64 [-1, 1000000001]) (by omega) rfl
    generalize hh15 : h13 ++ [some (⟨iv .i64 [-1, 1000000001], 3⟩ : Blk)] = h15 at o15 k15 q15
    obtain ⟨n17, h16, e16, _, x16, k16, l16⟩ := l1Int_run (x13.keepN k15) o15.sl (fun b hb => by rw [blk_at0] at hb; omega) (by simp) (by simp)
    obtain ⟨h18, e18, o18, k18, l18⟩ := ((o13.keepN k15).keep k16 fun b hb hk => by rw [blk_at0] at hb; omega).wr0 (i := 0) (new := [.int .i64 n17]) (by simp) (by simp)
    have hz0 : setAt (saidV y.kind y.pid k n s a m) 0 [.int .i64 n17] = saidV n17 y.pid k n s a m := rfl
    rw [hz0] at o18
    have k1318 : KB (fun b => b = cb ∨ b = h2.length) h13 h18 := KB.trans (kNB k15 k16) k18 (fun _ _ h => .inl h) (fun _ _ h => .inr h)
    have m18 := (TmR.keep k1318 (fun b (hb : iS h1.length h2.length b) hk => by omega) _ _ _ m13).mono (q := iS h1.length h18.length) (fun b hb => by constructor <;> omega) _ _ _
    obtain ⟨h38, e38, o38, m38, x38, k38⟩ := fin (y' := ⟨n17, y.pid, y.t⟩) o18 k1318 (fun b hb => by omega) m18 (x16.keep k18 fun b hb => by omega)
    refine ⟨⟨n17, y.pid, y.t⟩, k, n, s, a, m, h38, r22 (lets fun y ey => ?_), m38, tb, x38, k38⟩
    rw [hh1] at ey
    subst ey
    refine bs e2 (g6 (lets fun y ey => ?_))
    rw [hh10] at ey
    subst ey
    refine bs e11 (bj (q := ([some (.pointer (at0 h.length)), some (.pointer (at0 h2.length))], h18)) (bs e13 (bI rfl (ifT rfl (lets fun y ey => ?_)))) (bs rfl (bs rfl (q6 o18 (bs e38 (q6 o38 rfl))))))
    have ey2 : y = h15 := by rw [ey]; exact hh15
    subst ey2
    exact bs e16 (bI rfl (bs e18 rfl))
  by_cases c1 : z = 1
  · subst c1
    obtain ⟨o15, k15, q15⟩ := box_own (base := base) (t := 3) (h := h13) (cs := iv .i64 [0, 99999, 100000]) (by omega) rfl
    generalize hh15 : h13 ++ [some (⟨iv .i64 [0, 99999, 100000], 3⟩ : Blk)] = h15 at o15 k15 q15
    obtain ⟨n17, h16, e16, _, x16, k16, l16⟩ := l1Int_run (x13.keepN k15) o15.sl (fun b hb => by rw [blk_at0] at hb; omega) (by simp) (by simp)
    obtain ⟨h18, e18, o18, k18, l18⟩ := ((o13.keepN k15).keep k16 fun b hb hk => by rw [blk_at0] at hb; omega).wr0 (i := 1) (new := [.int .i64 n17]) (by simp) (by simp)
    have hz0 : setAt (saidV y.kind y.pid k n s a m) 1 [.int .i64 n17] = saidV y.kind n17 k n s a m := rfl
    rw [hz0] at o18
    have k1318 : KB (fun b => b = cb ∨ b = h2.length) h13 h18 := KB.trans (kNB k15 k16) k18 (fun _ _ h => .inl h) (fun _ _ h => .inr h)
    have m18 := (TmR.keep k1318 (fun b (hb : iS h1.length h2.length b) hk => by omega) _ _ _ m13).mono (q := iS h1.length h18.length) (fun b hb => by constructor <;> omega) _ _ _
    obtain ⟨h38, e38, o38, m38, x38, k38⟩ := fin (y' := ⟨y.kind, n17, y.t⟩) o18 k1318 (fun b hb => by omega) m18 (x16.keep k18 fun b hb => by omega)
    refine ⟨⟨y.kind, n17, y.t⟩, k, n, s, a, m, h38, r22 (lets fun y ey => ?_), m38, tb, x38, k38⟩
    rw [hh1] at ey
    subst ey
    refine bs e2 (g6 (lets fun y ey => ?_))
    rw [hh10] at ey
    subst ey
    refine bs e11 (bj (q := ([some (.pointer (at0 h.length)), some (.pointer (at0 h2.length))], h18)) (bs e13 (bI rfl (ifF (by decide) (ifT rfl (lets fun y ey => ?_))))) (bs rfl (bs rfl (q6 o18 (bs e38 (q6 o38 rfl))))))
    have ey2 : y = h15 := by rw [ey]; exact hh15
    subst ey2
    exact bs e16 (bI rfl (bs e18 rfl))
  by_cases c2 : z = 2
  · subst c2
    obtain ⟨t', k', n', s', a', m', h16, e16, m16, tb16, x16, k16⟩ := l1Any_run x13
    have n16 := k16.1
    obtain ⟨h18, e18, o18, k18, l18⟩ := (o13.keep k16 fun b hb hk => by rw [blk_at0] at hb; omega).wr0 (i := 2) (new := termV k' n' s' a' m') (by simp) (by simp)
    have hz0 : setAt (saidV y.kind y.pid k n s a m) 2 (termV k' n' s' a' m') = saidV y.kind y.pid k' n' s' a' m' := rfl
    rw [hz0] at o18
    have k1318 : KB (fun b => b = cb ∨ b = h2.length) h13 h18 := KB.trans k16 k18 (fun _ _ h => .inl h) (fun _ _ h => .inr h)
    have m18 := (TmR.keep k18 (fun b (hb : iS h13.length h16.length b) hk => by omega) _ _ _ m16).mono (q := iS h1.length h18.length) (fun b hb => by constructor <;> omega) _ _ _
    obtain ⟨h38, e38, o38, m38, x38, k38⟩ := fin (y' := ⟨y.kind, y.pid, t'⟩) o18 k1318 (fun b hb => by omega) m18 (x16.keep k18 fun b hb => by omega)
    refine ⟨⟨y.kind, y.pid, t'⟩, k', n', s', a', m', h38, r22 (lets fun y ey => ?_), m38, tb16, x38, k38⟩
    rw [hh1] at ey
    subst ey
    refine bs e2 (g6 (lets fun y ey => ?_))
    rw [hh10] at ey
    subst ey
    exact bs e11 (bj (q := ([some (.pointer (at0 h.length)), some (.pointer (at0 h2.length))], h18)) (bs e13 (bI rfl (ifF (by decide) (ifF (by decide) (ifT rfl (bs e16 (bs (v := termV k' n' s' a' m') rfl (bI rfl (bI rfl (bT rfl (bS rfl (bs e18 rfl))))))))))))
      (bs rfl (bs rfl (q6 o18 (bs e38 (q6 o38 rfl))))))
  · obtain ⟨h38, e38, o38, m38, x38, k38⟩ := fin (y' := y) o13 (KB.refl NoB h13) (fun b hb => hb.elim) (m13.mono (fun b hb => by constructor <;> omega) _ _ _) x13
    refine ⟨y, k, n, s, a, m, h38, r22 (lets fun y ey => ?_), m38, tb, x38, k38⟩
    rw [hh1] at ey
    subst ey
    refine bs e2 (g6 (lets fun y ey => ?_))
    rw [hh10] at ey
    subst ey
    exact bs e11 (bj (q := ([some (.pointer (at0 h.length)), some (.pointer (at0 h2.length))], h13)) (bs e13 (bI rfl (ifF (by simpa using c0) (ifF (by simpa using c1) (ifF (by simpa using c2) rfl))))) (bs rfl (bs rfl (q6 o13 (bs e38 (q6 o38 rfl))))))

theorem drawAdd_run {base : Nat} {h : AH} {a : Option Addr} {zs : List Int} (s : Sl h a (iv .u8 zs)) (hz : zs = [] ∨ ∀ b, blk a b → b < base) (hl : zs.length ≤ 9223372036854775806) (hb : base ≤ h.length) :
    ∃ (l : List Sd) (a' : Option Addr) (y : Sd) (k n : Int) (st : ByteArray) (a2 : Option Addr) (m : Nat) (q : Nat → Prop) (h' : AH), run (Et base) 6 [.slice a zs.length zs.length] h = some (.tuple #[.slice a' (List.length l) (List.length l), .agg (saidV y.kind y.pid k n st a2 m).toArray], h') ∧ SsO base h' q dF l a' ∧ (∀ b, q b ∨ blk a' b → h.length ≤ b ∧ b < h'.length) ∧ (∀ y ∈ l, TmB dF y.t) ∧ l.length ≤ 60 ∧
      TmR h' (iS h.length h'.length) dF y.t (termV k n st a2 m) ∧ TmB dF y.t ∧ KB NoB h h' := by
  obtain ⟨o1, k1, q1⟩ := box_own (base := base) (t := 29) (h := h) (cs := saidV 0 0 0 0 ⟨#[]⟩ none 0) hb rfl
  generalize hh1 : h ++ [some (⟨saidV 0 0 0 0 ⟨#[]⟩ none 0, 29⟩ : Blk)] = h1 at o1 k1 q1
  obtain ⟨h2, e2, x2, k2, l2⟩ := l1New_run (base := base) (s.keepN k1) hz hl (by omega)
  obtain ⟨l, a3, q, h3, e3, x3, s3, hq3, hB3, hl3, k3⟩ := l14Any_run x2
  have n3 := k3.1
  obtain ⟨y, k, n, st, a2, m, h4, e4, m4, tb4, x4, k4⟩ := l14Bent_run x3
  have n4 := k4.1
  have o4 := ((o1.keepN k2).keep k3 fun b hb hk => by rw [blk_at0] at hb; omega).keep k4 fun b hb hk => by rw [blk_at0] at hb; omega
  obtain ⟨h5, e5, o5, k5, l5⟩ := o4.wr0 (i := 0) (new := saidV y.kind y.pid k n st a2 m) (by simp) (by simp)
  have hz0 : setAt (saidV 0 0 0 0 ⟨#[]⟩ none 0) 0 (saidV y.kind y.pid k n st a2 m) = saidV y.kind y.pid k n st a2 m := rfl
  rw [hz0] at o5
  have k34 : KB (fun b => b = h1.length ∨ b = h.length) h3 h5 := KB.trans k4 k5 (fun _ _ h => .inl h) (fun _ _ h => .inr h)
  have m5 := TmR.keep k5 (fun b (hb : iS h3.length h4.length b) hk => by omega) _ _ _ m4
  refine ⟨l, a3, y, k, n, st, a2, m, q, h5, r6 (lets fun y ey => ?_), s3.keep k34 fun b hu hb => by have := hq3 b hb; omega, fun b hb => by have := hq3 b hb; omega, hB3, hl3, m5.mono (fun b hb => by constructor <;> omega) _ _ _, tb4, kFresh (kFresh (kN k1 k2) k3 fun i hi => by omega) k34 fun i hi => by omega⟩
  rw [hh1] at ey
  subst ey
  exact bs e2 (bs rfl (bs e3 (bS rfl (bs e4 (g6 (bs e5 (q6 o5 rfl)))))))
end Go.Proofs.Ytomcfongmahjaaa.Am
