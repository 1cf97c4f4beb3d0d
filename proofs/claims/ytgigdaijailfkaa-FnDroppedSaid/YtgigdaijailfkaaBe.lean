/- What is drawn: any terms, bent timers, timers that may be right; the same term read twice; the law Dropped (printed by wip/gen/be.py).
Conditions: none. -/
import Derived.Test.YtgigdaijailfkaaBd
import Derived.Test.YtgigdaijailfkaaDu
set_option linter.unusedSimpArgs false
set_option linter.unusedVariables false
namespace Go.Proofs.Ytgigdaijailfkaa.Am
open Go Go.RowKit

theorem l1Any_run {base cb : Nat} {h : AH} (x : CurR base cb h) : ∃ t k n s a m h', run (Et base) 107 [.pointer (at0 cb)] h = some (.agg (termV k n s a m).toArray, h') ∧ TmR h' (iS h.length h'.length) dF t (termV k n s a m) ∧ TmB dF t ∧ CurR base cb h' ∧ KB (· = cb) h h' := by
  have hlt := x.lt
  obtain ⟨o1, k1, q1⟩ := box_own (base := base) (t := 48) (h := h) (cs := termV 0 0 ⟨#[]⟩ none 0) (by omega) rfl
  generalize hh1 : h ++ [some (⟨termV 0 0 ⟨#[]⟩ none 0, 48⟩ : Blk)] = h1 at o1 k1 q1
  obtain ⟨t, cs, h2, e2, m2, tb, x2, k2⟩ := l1Draw_run (base := base) (cb := cb) 5 3 (by omega) (by omega) h1 (x.keepN k1)
  have n2 := k2.1
  obtain ⟨k, n, s, a, m, rfl⟩ := m2.form
  have hb2 : base ≤ h2.length := by omega
  obtain ⟨o9, k9, q9⟩ := box_own (base := base) (t := 48) (h := h2) (cs := termV k n s a m) hb2 rfl
  generalize hh9 : h2 ++ [some (⟨termV k n s a m, 48⟩ : Blk)] = h9 at o9 k9 q9
  obtain ⟨b12, h11, e11, x11, k11, l11⟩ := l1Once_run (n := 5) (x2.keepN k9) (by omega)
  have o11 := o9.keepB k11 fun b hb => by rw [blk_at0] at hb; omega
  have z2 := o1.keep k2 fun b hb hu => by rw [blk_at0] at hb; omega
  have z11 := (z2.keepN k9).keepB k11 fun b hb => by rw [blk_at0] at hb; omega
  have m11 := TmD.kp _ _ _ _ _ _ _ k11 (fun b (hb : iS h1.length h2.length b) hu => by omega) (TmD.kp _ _ _ _ _ _ _ k9 (fun _ _ h => h) m2)
  have r11 := (TmD.tmR _ _ _ _ _ m11).mono (q := iS h1.length h11.length) (fun b hb => by constructor <;> omega) _ _ _
  have k011 : KB (· = cb) h h11 := kC (kCN (kNB k1 k2) k9) k11
  obtain ⟨hJ, t', k', n', s', a', m', eJ, oJ, zJ, mJ, bJ, xJ, kJ⟩ : ∃ hJ t' k' n' s' a' m',
      (((run (Et base) 69 [(.pointer (at0 cb)), (.int .i64 (5 : Int))] h9).bind fun r11 =>
((some r11.1).bind getB).bind fun b12 =>
(if b12 = true then
((Am.cell r11.2 (List.length h2) 0).bind (getI .i64)).bind fun n13 =>
((Am.cell r11.2 (List.length h2) 1).bind (getI .i64)).bind fun n14 =>
((Am.cell r11.2 (List.length h2) 2).bind getStr).bind fun s15 =>
((Am.cell r11.2 (List.length h2) 3).bind getS).bind fun l16 =>
(run (Et base) 114 [(.pointer (at0 cb)), (.agg #[(.int .i64 n13), (.int .i64 n14), (.string s15), (.slice l16.1 l16.2 l16.2)])] r11.2).bind fun r17 =>
((some r17.1).bind (getAgg 4)).bind fun l18 =>
((l18[0]?).bind (getI .i64)).bind fun n19 =>
((l18[1]?).bind (getI .i64)).bind fun n20 =>
((l18[2]?).bind getStr).bind fun s21 =>
((l18[3]?).bind getS).bind fun l22 =>
(Am.wr base r17.2 (List.length h2) 0 [(.int .i64 n19), (.int .i64 n20), (.string s21), (.slice l22.1 l22.2 l22.2)]).bind fun h23 =>
some (Sum.inl ([some (.pointer (some ⟨(List.length h), 0, none⟩)), some (.pointer (some ⟨(List.length h2), 0, none⟩))], h23))
else
some (Sum.inl ([some (.pointer (some ⟨(List.length h), 0, none⟩)), some (.pointer (some ⟨(List.length h2), 0, none⟩))], r11.2)))) : Option (Sum (Slots × AH) (Value × AH))) = some (Sum.inl ([some (.pointer (at0 h.length)), some (.pointer (at0 h2.length))], hJ)) ∧ Own base 48 hJ (at0 h2.length) (termV k' n' s' a' m') ∧ Own base 48 hJ (at0 h.length) (termV 0 0 ⟨#[]⟩ none 0) ∧
      TmR hJ (iS h1.length hJ.length) dF t' (termV k' n' s' a' m') ∧ TmB dF t' ∧ CurR base cb hJ ∧ KB (· = cb) h hJ := by
    cases b12 with
    | false => exact ⟨h11, t, k, n, s, a, m, bs e11 (bB rfl rfl), o11, z11, TmR.ups 6 6 r11, TmB.ups 6 6 tb.1, x11, k011⟩
    | true =>
      obtain ⟨t', k', n', s', a', m', h17, e17, m17, b17, x17, k17⟩ := l1Bend_run x11 r11 tb.1 tb.2 (fun b hb => hb.2)
      have n17 := k17.1
      obtain ⟨h23, e23, o23, k23, l23⟩ := (o11.keep k17 fun b hb hu => by rw [blk_at0] at hb; omega).wr0 (i := 0) (new := termV k' n' s' a' m') (by simp) (by simp)
      have hz : setAt (termV k n s a m) 0 (termV k' n' s' a' m') = termV k' n' s' a' m' := rfl
      rw [hz] at o23
      have m23 := TmR.keep k23 (fun b (hb : iS h11.length h17.length b) hu => by omega) _ _ _ m17
      exact ⟨h23, t', k', n', s', a', m', bs e11 (bB rfl (ifT rfl (q4 o11 (bs e17 (bs (v := termV k' n' s' a' m') rfl (bI rfl (bI rfl (bT rfl (bS rfl (bs e23 rfl)))))))))), o23, (z11.keep k17 fun b hb hu => by rw [blk_at0] at hb; omega).keepB k23 fun b hb => by rw [blk_at0] at hb; omega, m23.mono (fun b hb => by constructor <;> omega) _ _ _, b17, x17.keep k23 fun b hb => by omega, kCF (kC k011 k17) k23 fun i hi => by omega⟩
  have nJ := kJ.1
  obtain ⟨h30, e30, o30, k30, l30⟩ := zJ.wr0 (i := 0) (new := termV k' n' s' a' m') (by simp) (by simp)
  have hz : setAt (termV 0 0 ⟨#[]⟩ none 0) 0 (termV k' n' s' a' m') = termV k' n' s' a' m' := rfl
  rw [hz] at o30
  have m30 := TmR.keep k30 (fun b (hb : iS h1.length hJ.length b) hu => by omega) _ _ _ mJ
  refine ⟨t', k', n', s', a', m', h30, r107 (lets fun y ey => ?_), m30.mono (fun b hb => by constructor <;> omega) _ _ _, bJ, xJ.keep k30 fun b hb => by omega, kCF kJ k30 fun i hi => by omega⟩
  have ey2 : y = h1 := by rw [ey]; exact hh1
  subst ey2
  refine bs e2 (bs (v := termV k n s a m) rfl (bI rfl (bI rfl (bT rfl (bS rfl (nw hb2 rfl fun y ey => ?_))))))
  have ey2 : y = h9 := by rw [ey]; exact hh9
  subst ey2
  exact bj _ eJ (bs rfl (bs rfl (q4 oJ (bs e30 (q4 o30 rfl)))))

theorem l14Bent_run {base cb : Nat} {h : AH} (x : CurR base cb h) : ∃ (y : Sd) (k n : Int) (s : ByteArray) (a : Option Addr) (m : Nat) (h' : AH), run (Et base) 92 [.pointer (at0 cb)] h = some (.agg (saidV y.kind y.pid k n s a m).toArray, h') ∧ TmR h' (iS h.length h'.length) dF y.t (termV k n s a m) ∧ TmB dF y.t ∧ CurR base cb h' ∧ KB (· = cb) h h' := by
  have hlt := x.lt
  obtain ⟨o1, k1, q1⟩ := box_own (base := base) (t := 70) (h := h) (cs := saidV 0 0 0 0 ⟨#[]⟩ none 0) (by omega) rfl
  generalize hh1 : h ++ [some (⟨saidV 0 0 0 0 ⟨#[]⟩ none 0, 70⟩ : Blk)] = h1 at o1 k1 q1
  obtain ⟨y0, k, n, s, a, m, h2, e2, m2, tb, x2, k2⟩ := l14One_run (x.keepN k1)
  have n2 := k2.1
  have hb2 : base ≤ h2.length := by omega
  obtain ⟨o11, k11, q11⟩ := box_own (base := base) (t := 70) (h := h2) (cs := saidV y0.kind y0.pid k n s a m) hb2 rfl
  generalize hh11 : h2 ++ [some (⟨saidV y0.kind y0.pid k n s a m, 70⟩ : Blk)] = h11 at o11 k11 q11
  obtain ⟨n14, h13, e13, _, _, _, x13, k13, l13⟩ := l1Below_run (n := 8) (x2.keepN k11) (by omega)
  have o13 := o11.keepB k13 fun b hb => by rw [blk_at0] at hb; omega
  have z13 := ((o1.keep k2 fun b hb hu => by rw [blk_at0] at hb; omega).keepN k11).keepB k13 fun b hb => by rw [blk_at0] at hb; omega
  have m13 := (TmR.keep k13 (fun b (hb : iS h1.length h2.length b) hu => by omega) _ _ _ (TmR.keep k11 (fun _ _ h => h) _ _ _ m2)).mono (q := iS h1.length h13.length) (fun b hb => by constructor <;> omega) _ _ _
  have k013 : KB (· = cb) h h13 := kC (kCN (kNB k1 k2) k11) k13
  obtain ⟨hJ, y', k', n', s', a', m', eJ, oJ, zJ, mJ, bJ, xJ, kJ⟩ : ∃ (hJ : AH) (y' : Sd) (k' n' : Int) (s' : ByteArray) (a' : Option Addr) (m' : Nat),
      (((run (Et base) 67 [(.pointer (at0 cb)), (.int .i64 (8 : Int))] h11).bind fun r13 =>
((some r13.1).bind (getI .i64)).bind fun n14 =>
(if (n14 == (0 : Int)) = true then
(some (r13.2 ++ [some ⟨[(.int .i64 (-1 : Int)), (.int .i64 (1000000001 : Int))], 3⟩])).bind fun h15 =>
(run (Et base) 74 [(.pointer (at0 cb)), (.slice (some ⟨(List.length r13.2), 0, none⟩) 2 2)] h15).bind fun r16 =>
((some r16.1).bind (getI .i64)).bind fun n17 =>
(Am.wr base r16.2 (List.length h2) 0 [(.int .i64 n17)]).bind fun h18 =>
some (Sum.inl ([some (.pointer (some ⟨(List.length h), 0, none⟩)), some (.pointer (some ⟨(List.length h2), 0, none⟩))], h18))
else
(if (n14 == (1 : Int)) = true then
(some (r13.2 ++ [some ⟨[(.int .i64 (0 : Int)), (.int .i64 (99999 : Int)), (.int .i64 (100000 : Int))], 3⟩])).bind fun h19 =>
(run (Et base) 74 [(.pointer (at0 cb)), (.slice (some ⟨(List.length r13.2), 0, none⟩) 3 3)] h19).bind fun r20 =>
((some r20.1).bind (getI .i64)).bind fun n21 =>
(Am.wr base r20.2 (List.length h2) 1 [(.int .i64 n21)]).bind fun h22 =>
some (Sum.inl ([some (.pointer (some ⟨(List.length h), 0, none⟩)), some (.pointer (some ⟨(List.length h2), 0, none⟩))], h22))
else
(if (n14 == (2 : Int)) = true then
(run (Et base) 107 [(.pointer (at0 cb))] r13.2).bind fun r23 =>
((some r23.1).bind (getAgg 4)).bind fun l24 =>
((l24[0]?).bind (getI .i64)).bind fun n25 =>
((l24[1]?).bind (getI .i64)).bind fun n26 =>
((l24[2]?).bind getStr).bind fun s27 =>
((l24[3]?).bind getS).bind fun l28 =>
(Am.wr base r23.2 (List.length h2) 2 [(.int .i64 n25), (.int .i64 n26), (.string s27), (.slice l28.1 l28.2 l28.2)]).bind fun h29 =>
some (Sum.inl ([some (.pointer (some ⟨(List.length h), 0, none⟩)), some (.pointer (some ⟨(List.length h2), 0, none⟩))], h29))
else
some (Sum.inl ([some (.pointer (some ⟨(List.length h), 0, none⟩)), some (.pointer (some ⟨(List.length h2), 0, none⟩))], r13.2)))))) : Option (Sum (Slots × AH) (Value × AH))) = some (Sum.inl ([some (.pointer (at0 h.length)), some (.pointer (at0 h2.length))], hJ)) ∧ Own base 70 hJ (at0 h2.length) (saidV y'.kind y'.pid k' n' s' a' m') ∧ Own base 70 hJ (at0 h.length) (saidV 0 0 0 0 ⟨#[]⟩ none 0) ∧
      TmR hJ (iS h1.length hJ.length) dF y'.t (termV k' n' s' a' m') ∧ TmB dF y'.t ∧ CurR base cb hJ ∧ KB (· = cb) h hJ := by
    by_cases c0 : (n14 == (0 : Int)) = true
    · obtain ⟨o15, k15, q15⟩ := box_own (base := base) (t := 3) (h := h13) (cs := iv .i64 [-1, 1000000001]) (by omega) rfl
      generalize hh15 : h13 ++ [some (⟨iv .i64 [-1, 1000000001], 3⟩ : Blk)] = h15 at o15 k15 q15
      obtain ⟨n17, h16, e16, _, x16, k16, l16⟩ := l1Int_run (x13.keepN k15) o15.sl (fun b hb => by rw [blk_at0] at hb; omega) (by simp) (by simp)
      obtain ⟨h18, e18, o18, k18, l18⟩ := ((o13.keepN k15).keepB k16 fun b hb => by rw [blk_at0] at hb; omega).wr0 (i := 0) (new := [.int .i64 n17]) (by simp) (by simp)
      have hz : setAt (saidV y0.kind y0.pid k n s a m) 0 [.int .i64 n17] = saidV n17 y0.pid k n s a m := rfl
      rw [hz] at o18
      have m18 := TmR.keep k18 (fun b (hb : iS h1.length h2.length b) hu => by omega) _ _ _ (TmR.keep k16 (fun b (hb : iS h1.length h2.length b) hu => by omega) _ _ _ (TmR.keep k15 (fun _ _ h => h) _ _ _ (TmR.keep k13 (fun b (hb : iS h1.length h2.length b) hu => by omega) _ _ _ (TmR.keep k11 (fun _ _ h => h) _ _ _ m2))))
      refine ⟨h18, ⟨n17, y0.pid, y0.t⟩, k, n, s, a, m, bs e13 (bI rfl (ifT c0 (lets fun y ey => ?_))), o18, ((z13.keepN k15).keepB k16 fun b hb => by rw [blk_at0] at hb; omega).keepB k18 fun b hb => by rw [blk_at0] at hb; omega, m18.mono (fun b hb => by constructor <;> omega) _ _ _, tb, x16.keep k18 fun b hb => by omega, kCF (kC (kCN k013 k15) k16) k18 fun i hi => by omega⟩
      have ey2 : y = h15 := by rw [ey]; exact hh15
      subst ey2
      exact bs e16 (bI rfl (bs e18 rfl))
    by_cases c1 : (n14 == (1 : Int)) = true
    · obtain ⟨o15, k15, q15⟩ := box_own (base := base) (t := 3) (h := h13) (cs := iv .i64 [0, 99999, 100000]) (by omega) rfl
      generalize hh15 : h13 ++ [some (⟨iv .i64 [0, 99999, 100000], 3⟩ : Blk)] = h15 at o15 k15 q15
      obtain ⟨n17, h16, e16, _, x16, k16, l16⟩ := l1Int_run (x13.keepN k15) o15.sl (fun b hb => by rw [blk_at0] at hb; omega) (by simp) (by simp)
      obtain ⟨h18, e18, o18, k18, l18⟩ := ((o13.keepN k15).keepB k16 fun b hb => by rw [blk_at0] at hb; omega).wr0 (i := 1) (new := [.int .i64 n17]) (by simp) (by simp)
      have hz : setAt (saidV y0.kind y0.pid k n s a m) 1 [.int .i64 n17] = saidV y0.kind n17 k n s a m := rfl
      rw [hz] at o18
      have m18 := TmR.keep k18 (fun b (hb : iS h1.length h2.length b) hu => by omega) _ _ _ (TmR.keep k16 (fun b (hb : iS h1.length h2.length b) hu => by omega) _ _ _ (TmR.keep k15 (fun _ _ h => h) _ _ _ (TmR.keep k13 (fun b (hb : iS h1.length h2.length b) hu => by omega) _ _ _ (TmR.keep k11 (fun _ _ h => h) _ _ _ m2))))
      refine ⟨h18, ⟨y0.kind, n17, y0.t⟩, k, n, s, a, m, bs e13 (bI rfl (ifF c0 (ifT c1 (lets fun y ey => ?_)))), o18, ((z13.keepN k15).keepB k16 fun b hb => by rw [blk_at0] at hb; omega).keepB k18 fun b hb => by rw [blk_at0] at hb; omega, m18.mono (fun b hb => by constructor <;> omega) _ _ _, tb, x16.keep k18 fun b hb => by omega, kCF (kC (kCN k013 k15) k16) k18 fun i hi => by omega⟩
      have ey2 : y = h15 := by rw [ey]; exact hh15
      subst ey2
      exact bs e16 (bI rfl (bs e18 rfl))
    by_cases c2 : (n14 == (2 : Int)) = true
    · obtain ⟨t', k', n', s', a', m', h23, e23, m23, b23, x23, k23⟩ := l1Any_run x13
      have n23 := k23.1
      obtain ⟨h29, e29, o29, k29, l29⟩ := (o13.keep k23 fun b hb hu => by rw [blk_at0] at hb; omega).wr0 (i := 2) (new := termV k' n' s' a' m') (by simp) (by simp)
      have hz : setAt (saidV y0.kind y0.pid k n s a m) 2 (termV k' n' s' a' m') = saidV y0.kind y0.pid k' n' s' a' m' := rfl
      rw [hz] at o29
      have m29 := TmR.keep k29 (fun b (hb : iS h13.length h23.length b) hu => by omega) _ _ _ m23
      exact ⟨h29, ⟨y0.kind, y0.pid, t'⟩, k', n', s', a', m', bs e13 (bI rfl (ifF c0 (ifF c1 (ifT c2 (bs e23 (bs (v := termV k' n' s' a' m') rfl (bI rfl (bI rfl (bT rfl (bS rfl (bs e29 rfl))))))))))), o29, (z13.keep k23 fun b hb hu => by rw [blk_at0] at hb; omega).keepB k29 fun b hb => by rw [blk_at0] at hb; omega, m29.mono (fun b hb => by constructor <;> omega) _ _ _, b23, x23.keep k29 fun b hb => by omega, kCF (kC k013 k23) k29 fun i hi => by omega⟩
    · exact ⟨h13, y0, k, n, s, a, m, bs e13 (bI rfl (ifF c0 (ifF c1 (ifF c2 rfl)))), o13, z13, m13, tb, x13, k013⟩
  have nJ := kJ.1
  obtain ⟨h30, e30, o30, k30, l30⟩ := zJ.wr0 (i := 0) (new := saidV y'.kind y'.pid k' n' s' a' m') (by simp) (by simp)
  have hz : setAt (saidV 0 0 0 0 ⟨#[]⟩ none 0) 0 (saidV y'.kind y'.pid k' n' s' a' m') = saidV y'.kind y'.pid k' n' s' a' m' := rfl
  rw [hz] at o30
  have m30 := TmR.keep k30 (fun b (hb : iS h1.length hJ.length b) hu => by omega) _ _ _ mJ
  refine ⟨y', k', n', s', a', m', h30, r92 (lets fun y ey => ?_), m30.mono (fun b hb => by constructor <;> omega) _ _ _, bJ, xJ.keep k30 fun b hb => by omega, kCF kJ k30 fun i hi => by omega⟩
  have ey2 : y = h1 := by rw [ey]; exact hh1
  subst ey2
  refine bs e2 (bs (v := saidV y0.kind y0.pid k n s a m) rfl (bI rfl (bI rfl (bI rfl (bI rfl (bT rfl (bS rfl (nw hb2 rfl fun y ey => ?_))))))))
  have ey2 : y = h11 := by rw [ey]; exact hh11
  subst ey2
  exact bj _ eJ (bs rfl (bs rfl (q6 oJ (bs e30 (q6 o30 rfl)))))

theorem drawTimersOk_run {base : Nat} {h : AH} {a : Option Addr} {zs : List Int} (s : Sl h a (iv .u8 zs)) (hz : zs = [] ∨ ∀ b, blk a b → b < base) (hl : zs.length ≤ 9223372036854775806) (hb : base ≤ h.length) :
    ∃ l a' p h', run (Et base) 56 [.slice a zs.length zs.length] h = some (.slice a' (List.length l) (List.length l), h') ∧ SsR h' p dF l a' ∧ (∀ b, p b → b < h'.length) ∧ (∀ y ∈ l, TmB dF y.t) ∧ l.length ≤ 60 ∧ KB NoB h h' := by
  obtain ⟨h1, e1, x1, k1, l1⟩ := l1New_run (base := base) s hz hl hb
  obtain ⟨l, a3, q, h3, e3, x3, s3, hq3, hB3, hl3, k3⟩ := l14Any_run x1
  have n3 := k3.1
  have k03 : KB NoB h h3 := kFresh k1 k3 fun i hi => by omega
  by_cases c : (((l.length : Nat) : Int) > (0 : Int))
  · obtain ⟨b8, h7, e7, x7, k7, l7⟩ := l1Once_run (n := 4) x3 (by omega)
    have s7 := s3.keep k7 fun b hu hb => by have := hq3 b hb; omega
    have k07 : KB NoB h h7 := kFresh k03 k7 fun i hi => by omega
    cases b8 with
    | false =>
      refine ⟨l, a3, _, h7, r56 (bs e1 (bs rfl (bs e3 (bS rfl ?_)))), s7.ssR, fun b hb => by have := hq3 b hb; omega, hB3, hl3, k07⟩
      refine bj (q := ([some (.slice a3 (List.length l) (List.length l))], h7)) ?_ (bS rfl rfl)
      refine bj (q := ([some (.pointer (at0 h.length)), some (.slice a3 (List.length l) (List.length l)), some (.bool false)], h7)) (ifT (decide_eq_true c) (bs e7 (bB rfl rfl))) ?_
      exact bs rfl (bS rfl (bB rfl rfl))
    | true =>
      obtain ⟨n13, h12, e12, z0, z1, _, x12, k12, l12⟩ := l1Below_run (n := ((l.length : Nat) : Int)) x7 (by omega)
      have z1 := z1 (by omega)
      have s12 := s7.keep k12 fun b hu hb => by have := hq3 b hb; omega
      obtain ⟨y, k, n, ss, a2, m, h14, e14, m14, b14, x14, k14⟩ := l14Bent_run x12
      have n14 := k14.1
      have s14 := (s12.keep k14 fun b hu hb => by have := hq3 b hb; omega).mono (r := fun b => q b ∨ iS h12.length h14.length b) (fun b hb => .inl hb) (fun b hb hr => by
        rcases hr with hr | hr
        · obtain ⟨vs, _, hpq, _⟩ := s3
          exact hpq b hb hr
        · have := hq3 b (.inr hb); omega)
      obtain ⟨ad, h23, ead, w23, s23, k23, l23⟩ := s14.set (y := y) (m14.mono (fun b hb => .inr hb) _ _ _) (i := n13.toNat) (by omega)
      subst ead
      have hlen : (l.set n13.toNat y).length = l.length := by simp
      have k023 : KB NoB h h23 := kFresh (kFresh (kFresh k07 k12 fun i hi => by omega) k14 fun i hi => by omega) k23 fun i hi => by have := hq3 i (.inr hi); omega
      refine ⟨l.set n13.toNat y, some ad, _, h23, r56 (bs e1 (bs rfl (bs e3 (bS rfl ?_)))), s23.ssR, fun b hb => ?_, fun z hz => ?_, by rw [hlen]; exact hl3, k023⟩
      · rw [hlen]
        refine bj (q := ([some (.slice (some ad) (List.length l) (List.length l))], h23)) ?_ (bS rfl rfl)
        refine bj (q := ([some (.pointer (at0 h.length)), some (.slice (some ad) (List.length l) (List.length l)), some (.bool true)], h7)) (ifT (decide_eq_true c) (bs e7 (bB rfl rfl))) ?_
        refine bs rfl (bS rfl (bB rfl (ifT rfl (bs e12 (bI rfl (bs e14 (bs (v := saidV y.kind y.pid k n ss a2 m) rfl (bI rfl (bI rfl (bI rfl (bI rfl (bT rfl (bS rfl (ifT ⟨z0, z1⟩ (bs rfl (bs w23 rfl))))))))))))))))
      · rcases hb with (hb | hb) | hb
        · have := hq3 b (.inl hb); omega
        · omega
        · have := hq3 b (.inr hb); omega
      · rcases List.mem_or_eq_of_mem_set hz with hz | hz
        · exact hB3 z hz
        · subst hz; exact b14
  · refine ⟨l, a3, _, h3, r56 (bs e1 (bs rfl (bs e3 (bS rfl ?_)))), s3.ssR, fun b hb => (hq3 b hb).2, hB3, hl3, k03⟩
    refine bj (q := ([some (.slice a3 (List.length l) (List.length l))], h3)) ?_ (bS rfl rfl)
    refine bj (q := ([some (.pointer (at0 h.length)), some (.slice a3 (List.length l) (List.length l)), some (.bool false)], h3)) (ifF (by simpa using c) rfl) ?_
    exact bs rfl (bS rfl (bB rfl rfl))

/-! ### The same term, read at two places -/
def SameT (base f : Nat) : Prop := ∀ (f2 : Nat) (h : AH) (p p2 : Nat → Prop) (t : Tm) (cs cs2 : List Value), TmR h p f t cs → TmR h p2 f2 t cs2 → base ≤ h.length →
  ∃ h', run (Et base) 55 [.agg cs.toArray, .agg cs2.toArray] h = some (.bool true, h') ∧ KB NoB h h'
theorem sameT_loop {base f f2 b0 b1 : Nat} (ih : SameT base f) {p p2 : Nat → Prop} {l : List Tm} {a a2 : Option Addr} {k n : Int} {s : ByteArray} (hl : l.length ≤ 9223372036854775807) : ∀ (d i : Nat) (h : AH), i + d = l.length → TsR h p f l a → TsR h p2 f2 l a2 → Own base 48 h (at0 b0) (termV k n s a l.length) → Own base 48 h (at0 b1) (termV k n s a2 l.length) → base ≤ h.length →
    ∃ h', loopL (B55_0 base) [some (.pointer (at0 b0)), some (.pointer (at0 b1)), some (.int .i64 (l.length : Int)), some (.int .i64 (i : Int))] h = some (2, [], h') ∧ KB NoB h h' := by
  intro d
  induction d with
  | zero =>
    intro i h hi hs hs2 o o2 hb
    refine ⟨h, loop_off (by decide) ?_, KB.refl _ _⟩
    rw [B55_0_eq]
    exact ifF (by simp; omega) rfl
  | succ d ihd =>
    intro i h hi hs hs2 o o2 hb
    have hlt : i < l.length := by omega
    obtain ⟨ad, c0, c1, c2, c3, rfl, g0, g1, g2, g3, hm⟩ := hs.get hlt
    obtain ⟨ad2, d0, d1, d2, d3, rfl, y0, y1, y2, y3, hm2⟩ := hs2.get hlt
    obtain ⟨h1, e1, k1⟩ := ih f2 h p p2 l[i] _ _ hm hm2 hb
    cases f with
    | zero => exact hm.elim
    | succ f =>
      cases f2 with
      | zero => exact hm2.elim
      | succ f2 =>
        generalize ht : l[i] = tt at hm hm2
        obtain ⟨k', n', s', ll⟩ := tt
        obtain ⟨a3, ecs, _, _, _⟩ := hm.parts
        injection ecs with q0 ecs
        injection ecs with q1 ecs
        injection ecs with q2 ecs
        injection ecs with q3 _
        subst q0; subst q1; subst q2; subst q3
        obtain ⟨a4, ecs, _, _, _⟩ := hm2.parts
        injection ecs with q0 ecs
        injection ecs with q1 ecs
        injection ecs with q2 ecs
        injection ecs with q3 _
        subst q0; subst q1; subst q2; subst q3
        obtain ⟨h2, m1, m2⟩ := ihd (i + 1) h1 (by omega) (hs.keep k1 fun _ _ h => h) (hs2.keep k1 fun _ _ h => h) (o.keepN k1) (o2.keepN k1) (by have := k1.1; omega)
        refine ⟨h2, loop_on ?_ m1, kN k1 m2⟩
        rw [B55_0_eq]
        refine ifT (decide_eq_true (by omega)) (bS (o.at0 (i := 3) rfl) (ifT ⟨by omega, by simp; omega⟩ (bs rfl ?_)))
        simp only [Int.toNat_natCast]
        refine bI g0 (bI g1 (bT g2 (bS g3 (bS (o2.at0 (i := 3) rfl) (ifT ⟨by omega, by simp; omega⟩ (bs rfl ?_))))))
        refine bI y0 (bI y1 (bT y2 (bS y3 (bs e1 (bB rfl (ifF (by decide) ?_))))))
        rw [w64i (by omega) (by omega), show ((i : Int) + 1) = ((i + 1 : Nat) : Int) from by omega]
theorem sameT_run {base : Nat} : ∀ f, SameT base f
  | 0 => fun f2 h p p2 t cs cs2 x => x.elim
  | f + 1 => fun f2 h p p2 t cs cs2 x x2 hb => by
    cases f2 with
    | zero => exact x2.elim
    | succ f2 =>
      obtain ⟨k, n, s, l⟩ := t
      obtain ⟨a, rfl, hts, hs, hl⟩ := x.parts
      obtain ⟨a2, rfl, hts2, _, _⟩ := x2.parts
      simp only [maxLen] at hl
      obtain ⟨o1, k1, q1⟩ := box_own (base := base) (t := 48) (h := h) (cs := termV k n s a l.length) hb rfl
      generalize hh1 : h ++ [some (⟨termV k n s a l.length, 48⟩ : Blk)] = h1 at o1 k1 q1
      obtain ⟨o2, k2, q2⟩ := box_own (base := base) (t := 48) (h := h1) (cs := termV k n s a2 l.length) (by omega) rfl
      generalize hh2 : h1 ++ [some (⟨termV k n s a2 l.length, 48⟩ : Blk)] = h2 at o2 k2 q2
      have o1' := o1.keepN k2
      have k02 := kN k1 k2
      obtain ⟨h3, e3, k3⟩ := sameT_loop (base := base) (f := f) (f2 := f2) (b0 := h.length) (b1 := h1.length) (k := k) (n := n) (s := s) (sameT_run f) (by omega) l.length 0 h2 (by omega) (hts.keep k02 fun _ _ h => h) (hts2.keep k02 fun _ _ h => h) o1' o2 (by omega)
      rw [show ((0 : Nat) : Int) = 0 from rfl] at e3
      refine ⟨h3, r55 (lets fun y1 ey => ?_), kN k02 k3⟩
      have ey2 : y1 = h1 := by rw [ey]; exact hh1
      subst ey2
      refine lets fun y2 ey => ?_
      have ey2 : y2 = h2 := by rw [ey]; exact hh2
      subst ey2
      refine bj (q := ([some (.pointer (at0 h.length)), some (.pointer (at0 y1.length)), some (.bool false)], y2)) ?_ ?_
      · refine bI (o1'.at0 (i := 0) rfl) (bI (o2.at0 (i := 0) rfl) (ifF (by simp) ?_))
        refine bI (o1'.at0 (i := 1) rfl) (bI (o2.at0 (i := 1) rfl) (ifF (by simp) ?_))
        refine bT (o1'.at0 (i := 2) rfl) (bT (o2.at0 (i := 2) rfl) (ifF (by simp) ?_))
        exact bS (o1'.at0 (i := 3) rfl) (bS (o2.at0 (i := 3) rfl) (by simp))
      · refine bs rfl (bs rfl (bB rfl (ifF (by decide) (bS (o1'.at0 (i := 3) rfl) ?_))))
        exact bs e3 (ifF (by simp) (ifT rfl rfl))
end Go.Proofs.Ytgigdaijailfkaa.Am
