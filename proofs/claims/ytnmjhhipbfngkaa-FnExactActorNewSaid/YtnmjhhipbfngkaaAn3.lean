/- The law FnExactActorNew.
Conditions: none. -/
import Derived.Test.YtnmjhhipbfngkaaAn2
set_option linter.unusedSimpArgs false
set_option linter.unusedVariables false
namespace Go.Proofs.Ytnmjhhipbfngkaa.Am
open Go Go.RowKit

theorem markTerm_run {base f : Nat} {h : AH} {S : Fp} {t : Tm} {cs : List Value} {k : Int} (x : TmD (f + 1) S h t cs) (hS : ∀ b, S b → base ≤ b ∧ b < h.length) (hb : base ≤ h.length) (h0 : 0 ≤ k) (hk : k + 3 * ((tcnt (f + 1) t : Nat) : Int) ≤ 1000000000) :
    ∃ z h', run (Et base) 17 [.agg cs.toArray, .int .i64 k] h = some (.int .i64 z, h') ∧ 0 ≤ z ∧ KB S h h' := by
  obtain ⟨kk, n, s, l⟩ := t
  obtain ⟨h1, h2, a, rfl, r⟩ := x
  obtain ⟨o1, k1, q1⟩ := box_own (base := base) (t := 32) (h := h) (cs := termV kk n s a l.length) hb rfl
  generalize hh1 : h ++ [some (⟨termV kk n s a l.length, 32⟩ : Blk)] = h1 at o1 k1 q1
  simp only [tcnt] at hk
  obtain ⟨l', h3, e3, r3, len3, m3, k3⟩ := markTermS_run (base := base) f l h1 S a k (r.keep (TmD.kp _) k1 fun _ _ h => h) h2 (fun b hb => by have := hS b hb; omega) h0 (by omega)
  refine ⟨k + 3 * ((l.length + sumL (tcnt f) l : Nat) : Int), h3, r17 (lets fun y ey => ?_), by have := m3.le; omega, KB.trans k1 k3 (fun _ _ h => h.elim) (fun _ _ h => h)⟩
  rw [hh1] at ey
  subst ey
  exact bS (o1.at0 (i := 3) rfl) (bs e3 (bI rfl rfl))

theorem sumL_app {α : Type} (g : α → Nat) : ∀ (l r : List α), sumL g (l ++ r) = sumL g l + sumL g r
  | [], r => by simp [sumL]
  | x :: l, r => by simp only [List.cons_append, sumL, sumL_app g l r]; omega
theorem newRegs_cnt {f : Nat} (t : Tm) : ∀ n, sumL (tcnt (f + 1)) (newRegs t n) = tcnt (f + 1) t
  | 0 => by simp [newRegs, sumL]
  | n + 1 => by rw [newRegs, sumL_app, newRegs_cnt t n]; simp [sumL, tcnt]
theorem newA_le {f : Nat} {pid pc : Int} {t : Tm} : (newA f pid pc t).Le := by
  unfold newA Ac.Le
  split
  · simp only [newRegs_len, maxLen]; decide
  · simp only [maxLen]; decide
theorem newA_mc {f : Nat} {pid pc : Int} {t : Tm} (ht : tcnt (f + 1) t ≤ 1048576) : 0 ≤ mcA (f + 1) (newA (f + 1) pid pc t) ∧ mcA (f + 1) (newA (f + 1) pid pc t) ≤ 4000000 := by
  unfold newA
  split
  · unfold mcA mcL
    simp only [newRegs_len, newRegs_cnt, sumL, List.length_nil]
    omega
  · unfold mcA mcL
    simp only [sumL, List.length_nil]
    omega
theorem AcD.form {base f : Nat} {S : Fp} {h : AH} {A : Ac} {cs : List Value} (x : AcD base f S h A cs) : ∃ p c a n b m g q, cs = acV p c a n b m g q := by
  obtain ⟨a, b, g, S1, S2, S3, e, _⟩ := x
  exact ⟨_, _, _, _, _, _, _, _, e⟩

theorem actorNew_law {base f : Nat} {h : AH} {p : Nat → Prop} {t : Tm} {cs : List Value} {pid pc : Int} (hm : TmR h p (f + 1) t cs) (hb : base ≤ h.length) (hp : ∀ b, p b → b < h.length) :
    ∃ h', run (Et base) 3 [.int .i64 pid, .int .i64 pc, .agg cs.toArray] h = some (.bool true, h') := by
  obtain ⟨k, n, s, a, m, rfl⟩ := hm.form
  obtain ⟨o1, k1, q1⟩ := box_own (base := base) (t := 24) (h := h) (cs := termV k n s a m) hb rfl
  generalize hh1 : h ++ [some (⟨termV k n s a m, 24⟩ : Blk)] = h1 at o1 k1 q1
  have lt : ∀ {x : AH}, h.length ≤ x.length → ∀ b, p b → b < x.length := fun hx b hbp => by have := hp b hbp; omega
  obtain ⟨z, h2, e2, k2, z1, z2, hz⟩ := szTerm_run (base := base) (f + 1) h1 p t _ 1048576 (TmR.keep k1 (fun _ _ h => h) _ _ _ hm) (by omega) (lt (by omega)) (by omega) (by omega)
  have n2 := k2.1
  by_cases hneg : z < 0
  · refine ⟨h2, r3 (lets fun y ey => ?_)⟩
    rw [hh1] at ey
    subst ey
    exact q4 o1 (bs e2 (bI rfl (ifT (decide_eq_true hneg) rfl)))
  obtain ⟨hB, hcnt⟩ := hz hneg
  have hcnt' : tcnt (f + 1) t ≤ 1048576 := by omega
  obtain ⟨mc0, mc1⟩ := newA_mc (f := f) (pid := pid) (pc := pc) hcnt'
  have hLe : (newA (f + 1) pid pc t).Le := newA_le
  have k02 := kN k1 k2
  obtain ⟨cs3, h3, e3, m3, k3⟩ := toTermD_run (base := base) (f + 1) h2 p t _ (TmR.keep k02 (fun _ _ h => h) _ _ _ hm) hB (by omega) (lt (by omega))
  have n3 := k3.1
  obtain ⟨k3', n3', s3', a3', m3', rfl⟩ := m3.form
  obtain ⟨csW, h5, e5, W, k5⟩ := specNew_run (base := base) (f := f) h3 (iS h2.length h3.length) t _ pid pc (TmD.tmR _ _ _ _ _ m3) hB (by omega) (fun b hb => hb.2)
  have n5 := k5.1
  obtain ⟨wp, wc, wa, wn, wb, wm, wg, wq, rfl⟩ := W.form
  obtain ⟨o6, k6, q6'⟩ := box_own (base := base) (t := 29) (h := h5) (cs := acV wp wc wa wn wb wm wg wq) (by omega) rfl
  generalize hh6 : h5 ++ [some (⟨acV wp wc wa wn wb wm wg wq, 29⟩ : Blk)] = h6 at o6 k6 q6'
  have k06 := kN (kN (kN k02 k3) k5) k6
  obtain ⟨csX, h7, e7, X, k7⟩ := toTermD_run (base := base) (f + 1) h6 p t _ (TmR.keep k06 (fun _ _ h => h) _ _ _ hm) hB (by omega) (lt (by omega))
  have n7 := k7.1
  obtain ⟨xk, xn, xs, xa, xm, rfl⟩ := X.form
  obtain ⟨o8, k8, q8⟩ := box_own (base := base) (t := 32) (h := h7) (cs := termV xk xn xs xa xm) (by omega) rfl
  generalize hh8 : h7 ++ [some (⟨termV xk xn xs xa xm, 32⟩ : Blk)] = h8 at o8 k8 q8
  have X8 := TmD.kp _ _ _ _ _ _ _ k8 (fun _ _ h => h) X
  obtain ⟨csG, h9, e9, G, k9⟩ := implNew_run (base := base) (f := f) h8 (iS h6.length h7.length) t _ pid pc (TmD.tmR _ _ _ _ _ X8) hB (by omega) (fun b hb => by omega)
  have n9 := k9.1
  obtain ⟨gp, gc, ga, gn, gb, gm, gg, gq, rfl⟩ := G.form
  obtain ⟨o10, k10, q10⟩ := box_own (base := base) (t := 29) (h := h9) (cs := acV gp gc ga gn gb gm gg gq) (by omega) rfl
  generalize hh10 : h9 ++ [some (⟨acV gp gc ga gn gb gm gg gq, 29⟩ : Blk)] = h10 at o10 k10 q10
  have k5a : KB NoB h5 h10 := kN (kN (kN (kN k6 k7) k8) k9) k10
  have W10 := AcD.kp _ _ _ _ _ _ _ _ k5a (fun _ _ h => h) W
  have G10 := AcD.kp _ _ _ _ _ _ _ _ k10 (fun _ _ h => h) G
  obtain ⟨h11, e11, k11⟩ := eqActor_run (base := base) hLe G10.acR W10.acR (by omega)
  have n11 := k11.1
  have k011 : KB NoB h h11 := kN (kN (kN (kN (kN k06 k7) k8) k9) k10) k11
  obtain ⟨cs12, h12, e12, m12, k12⟩ := toTermD_run (base := base) (f + 1) h11 p t _ (TmR.keep k011 (fun _ _ h => h) _ _ _ hm) hB (by omega) (lt (by omega))
  have n12 := k12.1
  obtain ⟨yk, yn, ys, ya, ym, rfl⟩ := m12.form
  have k812 : KB NoB h8 h12 := kN (kN (kN k9 k10) k11) k12
  have X12 := TmD.kp _ _ _ _ _ _ _ k812 (fun _ _ h => h) X8
  obtain ⟨h13, e13, k13⟩ := eqTerm_run (base := base) (f + 1) (f + 1) h12 _ _ t _ _ (TmD.tmR _ _ _ _ _ X12) (TmD.tmR _ _ _ _ _ m12) (by omega)
  have n13 := k13.1
  have X13 := TmD.kp _ _ _ _ _ _ _ k13 (fun _ _ h => h) X12
  obtain ⟨z14, h14, e14, z0, k14⟩ := markTerm_run (base := base) (k := 1) X13 (fun b hb => by omega) (by omega) (by omega) (by omega)
  have n14 := k14.1
  have k1013 : KB NoB h10 h13 := kN (kN k11 k12) k13
  have G14 := AcD.kp _ _ _ _ _ _ _ _ k14 (fun b hb hk => by omega) (AcD.kp _ _ _ _ _ _ _ _ k1013 (fun _ _ h => h) G10)
  have W14 := AcD.kp _ _ _ _ _ _ _ _ k14 (fun b hb hk => by omega) (AcD.kp _ _ _ _ _ _ _ _ k1013 (fun _ _ h => h) W10)
  have o10_14 := (o10.keepN k1013).keep k14 fun b hb hk => by rw [blk_at0] at hb; omega
  have o6_10 := ((((o6.keepN k7).keepN k8).keepN k9).keepN k10)
  have o6_14 := (o6_10.keepN k1013).keep k14 fun b hb hk => by rw [blk_at0] at hb; omega
  have o1_10 := (((((((o1.keepN k2).keepN k3).keepN k5).keepN k6).keepN k7).keepN k8).keepN k9).keepN k10
  have o1_14 := (o1_10.keepN k1013).keep k14 fun b hb hk => by rw [blk_at0] at hb; omega
  obtain ⟨h15, e15, k15⟩ := eqActor_run (base := base) hLe G14.acR W14.acR (by omega)
  have n15 := k15.1
  have G15 := AcD.kp _ _ _ _ _ _ _ _ k15 (fun _ _ h => h) G14
  obtain ⟨A', h16, e16, G16, hLe', mA, k16⟩ := markActor_run (base := base) (k := 1) hLe G15 (fun b hb => by omega) (by omega) (by omega) (by omega)
  have n16 := k16.1
  obtain ⟨h17, e17, k17⟩ := heldActor_run (base := base) hLe' mA (by omega) (by omega) G16.acR (by omega)
  have n17 := k17.1
  have G17 := AcD.kp _ _ _ _ _ _ _ _ k17 (fun _ _ h => h) G16
  have W17 := AcD.kp _ _ _ _ _ _ _ _ k17 (fun _ _ h => h) (AcD.kp _ _ _ _ _ _ _ _ k16 (fun b hb hk => by omega) (AcD.kp _ _ _ _ _ _ _ _ k15 (fun _ _ h => h) W14))
  have o10_16 := (o10_14.keepN k15).keep k16 fun b hb hk => by rw [blk_at0] at hb; omega
  have o10_17 := o10_16.keepN k17
  have o6_17 := ((o6_14.keepN k15).keep k16 fun b hb hk => by rw [blk_at0] at hb; omega).keepN k17
  have o1_17 := ((o1_14.keepN k15).keep k16 fun b hb hk => by rw [blk_at0] at hb; omega).keepN k17
  have k013 := kN (kN k011 k12) k13
  have hm17 : TmR h17 p (f + 1) t (termV k n s a m) := TmR.keep k17 (fun _ _ h => h) _ _ _ (TmR.keep k16 (fun b hb hk => by have := hp b hb; omega) _ _ _ (TmR.keep k15 (fun _ _ h => h) _ _ _ (TmR.keep k14 (fun b hb hk => by have := hp b hb; omega) _ _ _ (TmR.keep k013 (fun _ _ h => h) _ _ _ hm))))
  obtain ⟨cs18, h18, e18, m18, k18⟩ := toTermD_run (base := base) (f + 1) h17 p t _ hm17 hB (by omega) (lt (by omega))
  have n18 := k18.1
  obtain ⟨uk, un, us, ua, um, rfl⟩ := m18.form
  obtain ⟨csV, h19, e19, V, k19⟩ := implNew_run (base := base) (f := f) h18 (iS h17.length h18.length) t _ pid pc (TmD.tmR _ _ _ _ _ m18) hB (by omega) (fun b hb => by omega)
  have n19 := k19.1
  obtain ⟨vp, vc, va, vn, vb, vm, vg, vq, rfl⟩ := V.form
  obtain ⟨o20, k20, q20⟩ := box_own (base := base) (t := 29) (h := h19) (cs := acV vp vc va vn vb vm vg vq) (by omega) rfl
  generalize hh20 : h19 ++ [some (⟨acV vp vc va vn vb vm vg vq, 29⟩ : Blk)] = h20 at o20 k20 q20
  have k1720 := kN (kN k18 k19) k20
  have W20 := AcD.kp _ _ _ _ _ _ _ _ k1720 (fun _ _ h => h) W17
  have V20 := AcD.kp _ _ _ _ _ _ _ _ k20 (fun _ _ h => h) V
  obtain ⟨h21, e21, k21⟩ := eqActor_run (base := base) hLe V20.acR W20.acR (by omega)
  have n21 := k21.1
  have k1721 := kN k1720 k21
  have G21 := AcD.kp _ _ _ _ _ _ _ _ k1721 (fun _ _ h => h) G17
  obtain ⟨h22, e22, k22⟩ := heldActor_run (base := base) hLe' mA (by omega) (by omega) G21.acR (by omega)
  refine ⟨h22, r3 (lets fun y ey => ?_)⟩
  rw [hh1] at ey
  subst ey
  refine q4 o1 (bs e2 (bI rfl (ifF (by simpa using hneg) (q4 (o1.keepN k2) (bs e3 ?_)))))
  refine bs (v := termV k3' n3' s3' a3' m3') rfl (bI rfl (bI rfl (bT rfl (bS rfl (bs e5 ?_)))))
  refine bs (v := acV wp wc wa wn wb wm wg wq) rfl (bI rfl (bI rfl (bS rfl (bS rfl (bS rfl (nw (show base ≤ h5.length from by omega) rfl fun y ey => ?_))))))
  rw [hh6] at ey
  subst ey
  refine q4 ((((o1.keepN k2).keepN k3).keepN k5).keepN k6) (bs e7 (bs (v := termV xk xn xs xa xm) rfl (bI rfl (bI rfl (bT rfl (bS rfl (nw (show base ≤ h7.length from by omega) rfl fun y ey => ?_)))))))
  rw [hh8] at ey
  subst ey
  refine q4 o8 (bs e9 (bs (v := acV gp gc ga gn gb gm gg gq) rfl (bI rfl (bI rfl (bS rfl (bS rfl (bS rfl (nw (show base ≤ h9.length from by omega) rfl fun y ey => ?_))))))))
  rw [hh10] at ey
  subst ey
  refine q5 o10 (q5 o6_10 (bs e11 (bB rfl (ifF (by decide) ?_))))
  have o8_11 := ((o8.keepN k9).keepN k10).keepN k11
  refine q4 o8_11 (q4 (o1_10.keepN k11) (bs e12 (bs (v := termV yk yn ys ya ym) rfl (bI rfl (bI rfl (bT rfl (bS rfl ?_)))))))
  rw [gate_pos (same_keep k12 (o8_11.at0 (i := 0) rfl))]
  refine bs e13 (bB rfl (ifF (by decide) (q4 ((o8_11.keepN k12).keepN k13) (bs e14 (bI rfl ?_)))))
  refine bj (q := ([some (.int .i64 pid), some (.int .i64 pc), some (.pointer (at0 h.length)), some (.pointer (at0 h5.length)), some (.pointer (at0 h9.length)), some (.bool false)], h15)) ?_ ?_
  · exact ifF (by simp; omega) (q5 o10_14 (q5 o6_14 (bs e15 (bB rfl rfl))))
  · refine bI rfl (bI rfl (bs rfl (bs rfl (bs rfl (bB rfl (ifF (by decide) ?_))))))
    refine q5 (o10_14.keepN k15) (bs e16 (bI rfl (q5 o10_16 (bs e17 (bI rfl (ifF (by simp; omega) (ifF (by simp) ?_)))))))
    refine q4 o1_17 (bs e18 (bs (v := termV uk un us ua um) rfl (bI rfl (bI rfl (bT rfl (bS rfl (bs e19 ?_)))))))
    refine bs (v := acV vp vc va vn vb vm vg vq) rfl (bI rfl (bI rfl (bS rfl (bS rfl (bS rfl (nw (show base ≤ h19.length from by omega) rfl fun y ey => ?_))))))
    rw [hh20] at ey
    subst ey
    refine q5 o20 (q5 (o6_17.keepN k1720) (bs e21 (bB rfl (ifF (by decide) ?_))))
    exact q5 (o10_17.keepN k1721) (bs e22 (bI rfl (ifF (by simp; omega) (ifF (by simp) rfl))))
theorem actorNew_entry {base : Nat} {h : AH} {f : Nat} {cs : List Value} {pid pc : Int} (x : Rd Try.prog h f 24 cs) (hb : base ≤ h.length) : ∃ h', run (Et base) 3 [.int .i64 pid, .int .i64 pc, .agg cs.toArray] h = some (.bool true, h') := by
  obtain ⟨t, ht⟩ := rd_term f cs x
  cases f with
  | zero => exact ht.elim
  | succ f => exact actorNew_law ht hb fun b hb => hb
end Go.Proofs.Ytnmjhhipbfngkaa.Am
