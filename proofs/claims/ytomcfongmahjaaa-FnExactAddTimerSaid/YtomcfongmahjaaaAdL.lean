/- The law FnExactAddTimer.
Conditions: none. -/
import Derived.Test.YtomcfongmahjaaaAi2
import Derived.Test.YtomcfongmahjaaaMkT
set_option linter.unusedSimpArgs false
set_option linter.unusedVariables false
namespace Go.Proofs.Ytomcfongmahjaaa.Am
open Go Go.RowKit

theorem toTimerSO_run {base f : Nat} {h : AH} {p : Nat → Prop} {l : List Sd} {a : Option Addr} (hl : l.length ≤ 1048576) (hB : ∀ x ∈ l, TmB f x.t) (hs : SsR h p f l a) (hb : base ≤ h.length) (hp : ∀ b, p b → b < h.length) :
    ∃ a' h', run (Et base) 13 [.slice a l.length l.length] h = some (.slice a' l.length l.length, h') ∧ RowD 6 (SdD f) (iS h.length h'.length) h' l a' ∧ TyOk base h' a' 29 ∧ KB NoB h h' := by
  obtain ⟨o1, k1, q1⟩ := box_own (base := base) (t := 29) (h := h) (cs := rep [(.int .i64 0), (.int .i64 0), (.int .i64 0), (.int .i64 0), (.string ⟨#[]⟩), (.slice none 0 0)] l.length) hb rfl
  generalize hh1 : h ++ [some (⟨rep [(.int .i64 0), (.int .i64 0), (.int .i64 0), (.int .i64 0), (.string ⟨#[]⟩), (.slice none 0 0)] l.length, 29⟩ : Blk)] = h1 at o1 k1 q1
  obtain ⟨h2, vs2, e2, o2, v2, m2, k2⟩ := toTimerSD_loop (base := base) (p := p) (ob := h.length) hl hB hp l.length 0 h1 _ (by omega) (hs.keep k1 fun _ _ h => h) (by omega) (by omega) o1 (rep_len6 ..) Chunks.nil
  have n2 := k2.1
  refine ⟨at0 h.length, h2, r13 ?_, ⟨vs2, iS (h.length + 1) h2.length, o2.sl, v2, .inr fun b hb' => by rw [blk_at0] at hb'; subst hb'; exact ⟨by constructor <;> omega, by omega⟩, fun b hb' => by constructor <;> omega, m2⟩, TyOk.own o2, KB.trans k1 k2 (fun _ _ h => h) (fun i hi h => by omega)⟩
  refine ifT ⟨rfl, by omega, by omega, by omega⟩ (lets fun h1' eh => ?_)
  simp only [Int.toNat_natCast] at eh ⊢
  rw [hh1] at eh
  subst eh
  rw [show ((0 : Nat) : Int) = 0 from rfl] at e2
  exact bs e2 (ifT rfl (bS rfl rfl))
theorem markTimer_run {base f : Nat} {h : AH} {S : Fp} {x : Sd} {k n : Int} {s : ByteArray} {a : Option Addr} {m : Nat} {j : Int} (y : TmD (f + 1) S h x.t (termV k n s a m)) (hS : ∀ b, S b → base ≤ b ∧ b < h.length) (hb : base ≤ h.length) (h0 : 0 ≤ j) (hk : j + 3 * ((tcnt (f + 1) x.t : Nat) : Int) ≤ 1000000000) :
    ∃ z h', run (Et base) 18 [.agg (saidV x.kind x.pid k n s a m).toArray, .int .i64 j] h = some (.int .i64 z, h') ∧ 0 ≤ z ∧ KB S h h' := by
  obtain ⟨o1, k1, q1⟩ := box_own (base := base) (t := 29) (h := h) (cs := saidV x.kind x.pid k n s a m) hb rfl
  generalize hh1 : h ++ [some (⟨saidV x.kind x.pid k n s a m, 29⟩ : Blk)] = h1 at o1 k1 q1
  obtain ⟨z, h2, e2, z0, k2⟩ := markTerm_run (base := base) (k := j) (TmD.kp _ _ _ _ _ _ _ k1 (fun _ _ h => h) y) (fun b hb => by have := hS b hb; omega) (by omega) h0 hk
  refine ⟨z, h2, r18 (lets fun y ey => ?_), z0, kNB k1 k2⟩
  rw [hh1] at ey
  subst ey
  exact bI (o1.at0 (i := 2) rfl) (bI (o1.at0 (i := 3) rfl) (bT (o1.at0 (i := 4) rfl) (bS (o1.at0 (i := 5) rfl) (bs e2 (bI rfl rfl)))))
theorem insT_cnt (g : Sd → Nat) (l : List Sd) (x : Sd) : sumL g (insT l x) = sumL g l + g x := by
  have e := sumL_app g (l.take (stopT x l l.length)) (l.drop (stopT x l l.length))
  rw [List.take_append_drop] at e
  unfold insT
  rw [sumL_app]
  simp only [sumL]
  omega
theorem addT_le {f : Nat} {l : List Sd} {x : Sd} : (addT f l x).length ≤ l.length + 1 ∧ mcT f (addT f l x) ≤ mcT f l + 5 + 3 * ((tcnt f x.t : Nat) : Int) := by
  unfold addT
  split
  · unfold mcT
    rw [insT_cnt, insT_len]
    omega
  · omega
theorem mcT_pos {f : Nat} {l : List Sd} : 0 ≤ mcT f l := by unfold mcT; omega
theorem TmR.le {h : AH} {p : Nat → Prop} {f f' : Nat} (hf : f ≤ f') {t : Tm} {cs : List Value} (x : TmR h p f t cs) : TmR h p f' t cs := by
  induction hf with
  | refl => exact x
  | step _ ih => exact TmR.up _ _ _ ih
theorem SsR.le {h : AH} {p : Nat → Prop} {f f' : Nat} (hf : f ≤ f') {l : List Sd} {a : Option Addr} (x : SsR h p f l a) : SsR h p f' l a := by
  obtain ⟨vs, h1, h2, h3, h4⟩ := x
  exact ⟨vs, h1, h2, h3, fun i y hy => by obtain ⟨cs, e, m⟩ := h4 i y hy; exact ⟨cs, e, m.le hf⟩⟩
theorem g6 {kind pid k n : Int} {s : ByteArray} {a : Option Addr} {m : Nat} {β : Type} {f : Int → Int → Int → Int → ByteArray → Option Addr × Nat → Option β} {z : Option β} (hf : f kind pid k n s (a, m) = z) :
    (((some (Value.agg (saidV kind pid k n s a m).toArray)).bind (getAgg 6)).bind fun l => ((l[0]?).bind (getI .i64)).bind fun n1 => ((l[1]?).bind (getI .i64)).bind fun n2 => ((l[2]?).bind (getI .i64)).bind fun n3 => ((l[3]?).bind (getI .i64)).bind fun n4 => ((l[4]?).bind getStr).bind fun s5 => ((l[5]?).bind getS).bind fun l6 => f n1 n2 n3 n4 s5 l6) = z := hf

theorem addTimer_law {base f : Nat} {h : AH} {p : Nat → Prop} {l : List Sd} {a : Option Addr} {x : Sd} {k n : Int} {s : ByteArray} {a2 : Option Addr} {m : Nat} (hl : l.length ≤ 9223372036854775807) (hs : SsR h p (f + 1) l a) (hx : TmR h p (f + 1) x.t (termV k n s a2 m)) (hb : base ≤ h.length) (hp : ∀ b, p b → b < h.length) :
    ∃ h', run (Et base) 4 [.slice a l.length l.length, .agg (saidV x.kind x.pid k n s a2 m).toArray] h = some (.bool true, h') := by
  obtain ⟨o1, k1, q1⟩ := box_own (base := base) (t := 41) (h := h) (cs := saidV x.kind x.pid k n s a2 m) hb rfl
  generalize hh1 : h ++ [some (⟨saidV x.kind x.pid k n s a2 m, 41⟩ : Blk)] = h1 at o1 k1 q1
  have lt : ∀ {y : AH}, h.length ≤ y.length → ∀ b, p b → b < y.length := fun hx b hbp => by have := hp b hbp; omega
  obtain ⟨z2, h2, e2, k2, hz2⟩ := szTimerS_run (base := base) hl (hs.keep k1 fun _ _ h => h) (by omega) (lt (by omega))
  have n2 := k2.1
  by_cases neg2 : z2 < 0
  · refine ⟨h2, r4 (lets fun y ey => ?_)⟩
    rw [hh1] at ey
    subst ey
    exact bs e2 (bI rfl (ifT (decide_eq_true neg2) rfl))
  obtain ⟨hlen, hB, hcnt, hz2l⟩ := hz2 neg2
  have k02 := kN k1 k2
  obtain ⟨z3, h3, e3, k3, z3l, z3g, hz3⟩ := szTimer_run (base := base) (kind := x.kind) (pid := x.pid) (left := z2) (TmR.keep k02 (fun _ _ h => h) _ _ _ hx) (by omega) (lt (by omega)) (by omega) hz2l
  have n3 := k3.1
  have o2 := o1.keepN k2
  have o3 := o2.keepN k3
  by_cases neg3 : z3 < 0
  · refine ⟨h3, r4 (lets fun y ey => ?_)⟩
    rw [hh1] at ey
    subst ey
    exact bs e2 (bI rfl (ifF (by simpa using neg2) (q6 o2 (bs e3 (bI rfl (ifT (decide_eq_true neg3) rfl))))))
  obtain ⟨hxB, hxc⟩ := hz3 neg3
  have k03 := kN k02 k3
  have hL := addT_le (f := f + 1) (l := l) (x := x)
  have hm0 := mcT_pos (f := f + 1) (l := l)
  have hm1 := mcT_pos (f := f + 1) (l := addT (f + 1) l x)
  have hmc : mcT (f + 1) l ≤ 5242880 := by unfold mcT; omega
  -- the reference
  obtain ⟨a4, h4, e4, s4, k4⟩ := toTimerSD_run (base := base) hlen hB (hs.keep k03 fun _ _ h => h) (by omega) (lt (by omega))
  have n4 := k4.1
  have k04 := kN k03 k4
  have o4 := o3.keepN k4
  obtain ⟨yk, yn, ys, ya, ym, h5, e5, m5, k5⟩ := toTimerD_run (base := base) (kind := x.kind) (pid := x.pid) (TmR.keep k04 (fun _ _ h => h) _ _ _ hx) hxB (by omega) (lt (by omega))
  have n5 := k5.1
  have k05 := kN k04 k5
  obtain ⟨a6, q6', h6, e6, R6, f6, k6⟩ := specAdd_run (base := base) (p := iS h3.length h5.length) (x := x) hlen hB ((s4.keep (SdD.kp _) k5 fun _ _ h => h).mono (S' := iS h3.length h5.length) fun b hb => by omega).ssR ((TmD.tmR _ _ _ _ _ m5).mono (fun b hb => by omega) _ _ _) hxB (by omega) (fun b hb => hb.2)
  have n6 := k6.1
  have k06 := kN k05 k6
  have o6 := (o4.keepN k5).keepN k6
  -- the program
  obtain ⟨a7, h7, e7, X7, T7, k7⟩ := toTimerSO_run (base := base) hlen hB (hs.keep k06 fun _ _ h => h) (by omega) (lt (by omega))
  have n7 := k7.1
  have k07 := kN k06 k7
  have o7 := o6.keepN k7
  obtain ⟨xk, xn, xs, xa, xm, h8, e8, X8, k8⟩ := toTimerD_run (base := base) (kind := x.kind) (pid := x.pid) (TmR.keep k07 (fun _ _ h => h) _ _ _ hx) hxB (by omega) (lt (by omega))
  have n8 := k8.1
  have k08 := kN k07 k8
  obtain ⟨o9, k9, q9⟩ := box_own (base := base) (t := 29) (h := h8) (cs := saidV 0 0 0 0 ⟨#[]⟩ none 0) (by omega) rfl
  obtain ⟨h10, e10, o10, k10, l10⟩ := o9.wr0 (i := 0) (new := saidV x.kind x.pid xk xn xs xa xm) (by simp) (by simp)
  have hset : setAt (saidV 0 0 0 0 ⟨#[]⟩ none 0) 0 (saidV x.kind x.pid xk xn xs xa xm) = saidV x.kind x.pid xk xn xs xa xm := rfl
  rw [hset] at o10
  have k810 : KB NoB h8 h10 := kFresh k9 k10 fun i hi => by omega
  have k010 := kN k08 k810
  have k710 := kN k8 k810
  have n10 := k810.1
  have o10x := (o7.keepN k8).keepN k810
  have X8' := TmD.kp _ _ _ _ _ _ _ k810 (fun _ _ h => h) X8
  have X7' := X7.keep (SdD.kp _) k710 fun _ _ h => h
  obtain ⟨a11, h11, e11, G11, k11⟩ := implAdd_run (base := base) (p := iS h6.length h8.length) (x := x) (by omega) hB (X7'.mono (S' := iS h6.length h8.length) fun b hb => by omega).ssR (T7.keepN k710) ((TmD.tmR _ _ _ _ _ X8').mono (fun b hb => by omega) _ _ _) hxB (by omega) (fun b hb => by omega)
  have n11 := k11.1
  have k611 := kN (kN k7 k710) k11
  have R11 := R6.keepN k611
  obtain ⟨h12, e12, k12⟩ := eqTimerS_run (base := base) (by omega) G11.ssR R11.ssR (by omega)
  have n12 := k12.1
  have k1012 := kN k11 k12
  have k012 := kN k010 k1012
  obtain ⟨a13, h13, e13, s13, k13⟩ := toTimerSD_run (base := base) hlen hB (hs.keep k012 fun _ _ h => h) (by omega) (lt (by omega))
  have n13 := k13.1
  obtain ⟨h14, e14, k14⟩ := eqTimerS_run (base := base) (by omega) ((X7'.keep (SdD.kp _) k1012 fun _ _ h => h).keep (SdD.kp _) k13 fun _ _ h => h).ssR s13.ssR (by omega)
  have n14 := k14.1
  have k1014 := kN (kN k1012 k13) k14
  have k014 := kN k010 k1014
  have o14 := o10.keepN k1014
  have o14x := o10x.keepN k1014
  obtain ⟨vk, vn, vs, va, vm, h15, e15, m15, k15⟩ := toTimerD_run (base := base) (kind := x.kind) (pid := x.pid) (TmR.keep k014 (fun _ _ h => h) _ _ _ hx) hxB (by omega) (lt (by omega))
  have n15 := k15.1
  have k1015 := kN k1014 k15
  obtain ⟨h16, e16, k16⟩ := eqTimer_run (base := base) (kind := x.kind) (pid := x.pid) (TmD.tmR _ _ _ _ _ (TmD.kp _ _ _ _ _ _ _ k1015 (fun _ _ h => h) X8')) (TmD.tmR _ _ _ _ _ m15) (by omega)
  have n16 := k16.1
  have k1016 := kN k1015 k16
  obtain ⟨lx, h17, e17, X17, _, mx, k17⟩ := markTimerS_run (base := base) (k := 1) (X7'.keep (SdD.kp _) k1016 fun _ _ h => h) (by simp only [maxLen]; omega) (fun b hb => by omega) (by omega) (by omega)
  have n17 := k17.1
  have o17 := (o10.keepN k1016).keep k17 fun b hb hk => by rw [blk_at0] at hb; omega
  have X8'' := TmD.kp _ _ _ _ _ _ _ k17 (fun b hb hk => by omega) (TmD.kp _ _ _ _ _ _ _ k1016 (fun _ _ h => h) X8')
  obtain ⟨z18, h18, e18, z0, k18⟩ := markTimer_run (base := base) (j := 1 + mcT (f + 1) l) (x := x) X8'' (fun b hb => by omega) (by omega) (by omega) (by omega)
  have n18 := k18.1
  have k1118 : KB (iS h6.length h8.length) h11 h18 := KB.trans (KB.trans (kN (kN (kN (kN k12 k13) k14) k15) k16) k17 (fun _ _ h => h.elim) (fun _ _ h => (by omega : iS h6.length h8.length _))) k18 (fun _ _ h => h) (fun _ _ h => (by omega : iS h6.length h8.length _))
  have G18 := G11.keep (SdD.kp _) k1118 fun b h1 h2 => by omega
  have R18 := R11.keep k1118 fun b hu hb => by have := f6 b hb; omega
  obtain ⟨h19, e19, k19⟩ := eqTimerS_run (base := base) (by omega) G18.ssR R18.ssR (by omega)
  have n19 := k19.1
  obtain ⟨lg, h20, e20, G20, leng, mg, k20⟩ := markTimerS_run (base := base) (k := 1) (G18.keep (SdD.kp _) k19 fun _ _ h => h) (by simp only [maxLen]; omega) (fun b hb => by omega) (by omega) (by omega)
  have n20 := k20.1
  obtain ⟨h21, e21, k21⟩ := heldTimerS_run (base := base) mg (by omega) (by omega) (by omega) G20.ssR (by omega)
  have n21 := k21.1
  rw [leng] at e21
  have k1121 : KB (fun b => h6.length ≤ b) h11 h21 := KB.trans (KB.trans (KB.trans k1118 k19 (fun _ _ h => h.1) (fun _ _ h => h.elim)) k20 (fun _ _ h => h) (fun _ _ h => by omega)) k21 (fun _ _ h => h) (fun _ _ h => h.elim)
  have k021 : KB (fun b => h6.length ≤ b) h h21 := kNB (kN k010 k11) k1121
  have o21 : Own base 41 h21 (at0 h.length) (saidV x.kind x.pid k n s a2 m) := (o10x.keepN k11).keep k1121 fun b hb hk => by rw [blk_at0] at hb; omega
  have R21 : SsO base h21 q6' (f + 1) (addT (f + 1) l x) a6 := ((R18.keepN k19).keep k20 fun b hu hb => by have := f6 b hb; omega).keepN k21
  have hs21 := hs.keep k021 fun b h1 h2 => by have := hp b h1; omega
  obtain ⟨a22, h22, e22, X22, T22, k22⟩ := toTimerSO_run (base := base) hlen hB hs21 (by omega) (lt (by omega))
  have n22 := k22.1
  have o22 := o21.keepN k22
  have hx22 := TmR.keep k22 (fun _ _ h => h) _ _ _ (TmR.keep k021 (fun b h1 h2 => by have := hp b h1; omega) _ _ _ hx)
  obtain ⟨uk, un, us, ua, um, h23, e23, m23, k23⟩ := toTimerD_run (base := base) (kind := x.kind) (pid := x.pid) hx22 hxB (by omega) (lt (by omega))
  have n23 := k23.1
  obtain ⟨a24, h24, e24, G24, k24⟩ := implAdd_run (base := base) (p := iS h21.length h23.length) (x := x) (by omega) hB ((X22.keep (SdD.kp _) k23 fun _ _ h => h).mono (S' := iS h21.length h23.length) fun b hb => by omega).ssR (T22.keepN k23) ((TmD.tmR _ _ _ _ _ m23).mono (fun b hb => by omega) _ _ _) hxB (by omega) (fun b hb => hb.2)
  have n24 := k24.1
  have k2124 := kN (kN k22 k23) k24
  obtain ⟨h25, e25, k25⟩ := eqTimerS_run (base := base) (by omega) G24.ssR (R21.keepN k2124).ssR (by omega)
  have n25 := k25.1
  have G25 := ((G20.keep (SdD.kp _) k21 fun _ _ h => h).keep (SdD.kp _) k2124 fun _ _ h => h).keep (SdD.kp _) k25 fun _ _ h => h
  obtain ⟨h26, e26, k26⟩ := heldTimerS_run (base := base) mg (by omega) (by omega) (by omega) G25.ssR (by omega)
  rw [leng] at e26
  refine ⟨h26, r4 (lets fun y ey => ?_)⟩
  rw [hh1] at ey
  subst ey
  refine bs e2 (bI rfl (ifF (by simpa using neg2) (q6 o2 (bs e3 (bI rfl (ifF (by simpa using neg3) ?_))))))
  refine bs e4 (bS rfl ?_)
  rw [gate_pos (same_keep k4 (o3.at0 (i := 0) rfl))]
  refine q6 o4 (bs e5 (g6 (bs e6 (bs rfl (bS rfl (bB rfl ?_))))))
  refine bs e7 (bS rfl (q6 o7 (bs e8 (g6 (lets fun y9 ey9 => ?_)))))
  subst ey9
  refine bs e10 (q6 o10 (bs e11 (bs rfl (bS rfl (bB rfl ?_)))))
  refine bj (q := ([some (.slice a l.length l.length), some (.pointer (at0 h.length)), some (.slice a6 (addT (f + 1) l x).length (addT (f + 1) l x).length), some (.bool (addOk (f + 1) l x)), some (.slice a7 l.length l.length), some (.pointer (at0 h8.length)), some (.slice a11 (addT (f + 1) l x).length (addT (f + 1) l x).length), some (.bool (addOk (f + 1) l x)), some (.bool false)], h12)) ?_ ?_
  · refine bs e12 (bB rfl (ifF (by decide) ?_))
    simp
  · refine bS rfl (bs rfl (bS rfl (bB rfl (bS rfl (bs rfl (bS rfl (bB rfl (bB rfl (ifF (by decide) ?_)))))))))
    refine bs e13 (bS rfl (bs e14 (bB rfl (ifF (by decide) (q6 o14 (q6 o14x (bs e15 (g6 ?_))))))))
    rw [gate_pos (same_keep k15 (o14.at0 (i := 0) rfl))]
    refine bs e16 (bB rfl (ifF (by decide) (bs e17 (bI rfl (q6 o17 (bs e18 (bI rfl ?_)))))))
    refine bj (q := ([some (.slice a l.length l.length), some (.pointer (at0 h.length)), some (.slice a6 (addT (f + 1) l x).length (addT (f + 1) l x).length), some (.bool (addOk (f + 1) l x)), some (.slice a11 (addT (f + 1) l x).length (addT (f + 1) l x).length), some (.bool false)], h19)) ?_ ?_
    · refine ifF (by simpa using z0) (bs e19 (bB rfl (ifF (by decide) ?_)))
      simp
    · refine bS rfl (bs rfl (bS rfl (bB rfl (bS rfl (bB rfl (ifF (by decide) ?_))))))
      refine bs e20 (bI rfl (bs e21 (bI rfl (ifF (by simp; omega) (ifF (by simp) ?_)))))
      refine bs e22 (bS rfl ?_)
      rw [gate_pos (same_keep k22 (o21.at0 (i := 0) rfl))]
      refine q6 o22 (bs e23 (g6 (bs e24 (bs rfl (bS rfl (bB rfl ?_))))))
      refine bj (q := ([some (.slice a11 (addT (f + 1) l x).length (addT (f + 1) l x).length), some (.int .i64 (1 + mcT (f + 1) (addT (f + 1) l x))), some (.bool false)], h25)) ?_ ?_
      · refine bs e25 (bB rfl (ifF (by decide) ?_))
        simp
      · refine bS rfl (bI rfl (bB rfl (ifF (by decide) (bs e26 (bI rfl (ifF (by simp; omega) (ifF (by simp) rfl)))))))
theorem rd_timer {h : AH} {f : Nat} {cs : List Value} (x : Rd Try.prog h f 41 cs) : ∃ g y k n s a m, cs = saidV (Sd.kind y) y.pid k n s a m ∧ TmR h (· < h.length) g y.t (termV k n s a m) := by
  have cT : Try.prog.cellsOf 39 = 4 := by kernel_rfl
  have cS : Try.prog.cellsOf 41 = 6 := by kernel_rfl
  have c3 : Try.prog.cellsOf 3 = 1 := by kernel_rfl
  match f, x with
  | 0, x => exact x.elim
  | f + 1, x =>
    simp only [Rd, Try.underlying41] at x
    obtain ⟨hl, hf⟩ := x
    rw [cS] at hl
    match cs, hl with
    | [v0, v1, v2, v3, v4, v5], _ =>
      simp only [List.forall_mem_cons, c3, cT, List.drop_zero, List.drop_succ_cons, List.take_succ_cons, List.take_zero] at hf
      obtain ⟨f0, f1, f2, _⟩ := hf
      obtain ⟨n0, e0, _⟩ := f0.int Try.underlying3
      obtain ⟨n1, e1, _⟩ := f1.int Try.underlying3
      injection e0 with e0 _
      injection e1 with e1 _
      subst e0; subst e1
      obtain ⟨t, ht⟩ := rd_term f _ f2
      obtain ⟨k, n, s, a, m, e⟩ := ht.form
      rw [e] at ht
      injection e with q0 e
      injection e with q1 e
      injection e with q2 e
      injection e with q3 e
      subst q0; subst q1; subst q2; subst q3
      exact ⟨f, ⟨n0, n1, t⟩, k, n, s, a, m, rfl, ht⟩
theorem addTimer_entry {base : Nat} {h : AH} {f f2 : Nat} {v : Value} {cs : List Value} (x : Rd Try.prog h f 36 [v]) (y : Rd Try.prog h f2 41 cs) (hb : base ≤ h.length) : ∃ h', run (Et base) 4 [v, .agg cs.toArray] h = some (.bool true, h') := by
  obtain ⟨g, a, l, rfl, hl, hs⟩ := rd_timers x
  obtain ⟨g2, z, k, n, s, a2, m, rfl, hz⟩ := rd_timer y
  simp only [maxLen] at hl
  exact addTimer_law (f := g + g2) (by omega) (hs.le (by omega)) (hz.le (by omega)) hb fun b hb => hb
end Go.Proofs.Ytomcfongmahjaaa.Am
