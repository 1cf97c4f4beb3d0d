/- ActorNew: both runs.
Conditions: none. -/
import Derived.Test.YtnmjhhipbfngkaaAn
set_option linter.unusedSimpArgs false
set_option linter.unusedVariables false
namespace Go.Proofs.Ytnmjhhipbfngkaa.Am
open Go Go.RowKit

theorem TmR.form {f : Nat} {p : Nat → Prop} {h : AH} {t : Tm} {cs : List Value} (x : TmR h p f t cs) : ∃ k n s a m, cs = termV k n s a m := by
  cases f with
  | zero => exact x.elim
  | succ f =>
    obtain ⟨k, n, s, l⟩ := t
    obtain ⟨a, e, _⟩ := x.parts
    exact ⟨k, n, s, a, l.length, e⟩
theorem implNew_run {base f : Nat} : NewRun base f 14 := by
  intro h p t cs pid pc hm hB hb hp
  obtain ⟨k, n, s, a, m, rfl⟩ := hm.form
  obtain ⟨o1, k1, q1⟩ := box_own (base := base) (t := 32) (h := h) (cs := termV k n s a m) hb rfl
  generalize hh1 : h ++ [some (⟨termV k n s a m, 32⟩ : Blk)] = h1 at o1 k1 q1
  obtain ⟨o2, k2, q2⟩ := box_own (base := base) (t := 29) (h := h1) (cs := acV 0 0 none 0 none 0 none 0) (by omega) rfl
  generalize hh2 : h1 ++ [some (⟨acV 0 0 none 0 none 0 none 0, 29⟩ : Blk)] = h2 at o2 k2 q2
  have k02 := kN k1 k2
  obtain ⟨h3, e3, k3⟩ := newOk_join (base := base) (f := f + 1) (F := 68) (b1 := h1.length) (pid := pid) (pc := pc) (fun h p k n s a m t x y => implTermOk_run x y) (by omega) (o1.keepN k2) (TmR.keep k02 (fun _ _ h => h) _ _ _ hm)
  have n3 := k3.1
  have k03 := kN k02 k3
  have o13 := (o1.keepN k2).keepN k3
  have o23 := o2.keepN k3
  cases c : newOk (f + 1) pid pc t with
  | false =>
    rw [c] at e3
    obtain ⟨h4, w4, o4, k4, l4⟩ := o23.wr0 (i := 0) (new := acV 0 0 none 0 none 0 none 0) (by simp) (by simp)
    have hset : setAt (acV 0 0 none 0 none 0 none 0) 0 (acV 0 0 none 0 none 0 none 0) = acV 0 0 none 0 none 0 none 0 := rfl
    rw [hset] at o4
    refine ⟨acV 0 0 none 0 none 0 none 0, h4, r14 (lets fun y ey => ?_), by unfold newA; rw [c]; exact zeroD, kFresh k03 k4 fun i hi => by omega⟩
    rw [hh1] at ey
    subst ey
    refine lets fun y ey => ?_
    rw [hh2] at ey
    subst ey
    refine bj _ (bs in_run (bB rfl e3)) (bI rfl (bI rfl (bs rfl (bs rfl (bB rfl (ifT rfl (bs w4 (q5 o4 rfl))))))))
  | true =>
    rw [c] at e3
    obtain ⟨cs4, h4, e4, m4, k4⟩ := copyTerm_run (base := base) (f + 1) h3 p t _ (TmR.keep k03 (fun _ _ h => h) _ _ _ hm) hB (by omega) (fun b hb => by have := hp b hb; omega)
    obtain ⟨kk, nn, ss, aa, mm, rfl⟩ := m4.form
    have n4 := k4.1
    obtain ⟨o5, k5, q5'⟩ := box_own (base := base) (t := 32) (h := h4) (cs := termV kk nn ss aa mm) (by omega) rfl
    generalize hh5 : h4 ++ [some (⟨termV kk nn ss aa mm, 32⟩ : Blk)] = h5 at o5 k5 q5'
    obtain ⟨o6, k6, q6'⟩ := box_own (base := base) (t := 29) (h := h5) (cs := acV pid pc (at0 h4.length) 1 none 0 none 0) (by omega) rfl
    generalize hh6 : h5 ++ [some (⟨acV pid pc (at0 h4.length) 1 none 0 none 0, 29⟩ : Blk)] = h6 at o6 k6 q6'
    have ch : Chunks 4 (TmD (f + 1)) (iS h3.length h4.length) h6 (newRegs t 0) (termV kk nn ss aa mm) := by
      have := (Chunks.nil (w := 4) (P := TmD (f + 1)) (S := fun _ => False) (h := h6) (vs := [])).snoc (S' := iS h3.length h4.length) (vs' := termV kk nn ss aa mm) (((TmD.kp _ _ _ _ _ _ _ k5 (fun _ _ h => h) m4)) |> fun z => TmD.kp _ _ _ _ _ _ _ k6 (fun _ _ h => h) z) (fun _ _ h => h) (fun _ h => h.elim) (fun _ h => h) (fun i hi => by simp at hi) rfl
      exact this
    obtain ⟨h7, ao, vs, T, e7, o7, ow7, hv7, hc7, hT7, ha7, k7⟩ := implNew_loop (base := base) (f := f) (b0 := h1.length) (b1 := h5.length) (t := t) (pid := pid) (pc := pc) (lo := h3.length) (by omega) (by omega) 7 0 h6 (at0 h4.length) (termV kk nn ss aa mm) (iS h3.length h4.length) (by omega) (by omega) o6 (o5.keepN k6) rfl ch (fun b hb => by constructor <;> omega) (fun b hb => by rw [blk_at0] at hb; subst hb; exact ⟨fun h => by omega, by omega, by omega⟩)
    have n7 := k7.1
    have o27 := (((o23.keepN k4).keepN k5).keepN k6).keep k7 fun b hb hk => by rw [blk_at0] at hb; omega
    obtain ⟨h8, w8, o8, k8, l8⟩ := o27.wr0 (i := 0) (new := acV pid pc ao 8 none 0 none 0) (by simp) (by simp)
    have hset : setAt (acV 0 0 none 0 none 0 none 0) 0 (acV pid pc ao 8 none 0 none 0) = acV pid pc ao 8 none 0 none 0 := rfl
    rw [hset] at o8
    have k06 := kN (kN (kN k03 k4) k5) k6
    have k08 : KB NoB h h8 := kFresh (kFresh k06 k7 fun i hi => by omega) k8 fun i hi => by omega
    refine ⟨acV pid pc ao 8 none 0 none 0, h8, r14 (lets fun y ey => ?_), ?_, k08⟩
    · rw [hh1] at ey
      subst ey
      refine lets fun y ey => ?_
      rw [hh2] at ey
      subst ey
      refine bj _ (bs in_run (bB rfl e3)) (bI rfl (bI rfl (bs rfl (bs rfl (bB rfl (ifF (by decide) (q4 o13 (bs e4 ?_))))))))
      refine bs (v := termV kk nn ss aa mm) rfl (bI rfl (bI rfl (bT rfl (bS rfl (lets fun y ey => ?_)))))
      rw [hh5] at ey
      subst ey
      refine nw (by omega) rfl fun y ey => ?_
      rw [hh6] at ey
      subst ey
      refine bs e7 (ifT rfl (bs rfl (bs rfl (q5 o7 (bs w8 (q5 o8 rfl))))))
    · unfold newA
      rw [c, if_pos rfl]
      exact newTail (a := none) hb k08 (newRegs_len t 7).symm (ow7.keepB k8 fun b hb => by have := (ha7 b hb).2.1; omega) hv7 (hc7.keep (TmD.kp _) k8 fun b hb hk => by have := hT7 b hb; omega) (fun b hb => by have := hT7 b hb; constructor <;> omega) (fun b hb => ⟨(ha7 b hb).1, by have := (ha7 b hb).2.1; omega⟩)
theorem specNew_run {base f : Nat} : NewRun base f 12 := by
  intro h p t cs pid pc hm hB hb hp
  obtain ⟨k, n, s, a, m, rfl⟩ := hm.form
  obtain ⟨o1, k1, q1⟩ := box_own (base := base) (t := 32) (h := h) (cs := termV k n s a m) hb rfl
  generalize hh1 : h ++ [some (⟨termV k n s a m, 32⟩ : Blk)] = h1 at o1 k1 q1
  obtain ⟨o2, k2, q2⟩ := box_own (base := base) (t := 29) (h := h1) (cs := acV 0 0 none 0 none 0 none 0) (by omega) rfl
  generalize hh2 : h1 ++ [some (⟨acV 0 0 none 0 none 0 none 0, 29⟩ : Blk)] = h2 at o2 k2 q2
  have k02 := kN k1 k2
  obtain ⟨h3, e3, k3⟩ := newOk_join (base := base) (f := f + 1) (F := 63) (b1 := h1.length) (pid := pid) (pc := pc) (fun h p k n s a m t x y => specTermOk_run x y) (by omega) (o1.keepN k2) (TmR.keep k02 (fun _ _ h => h) _ _ _ hm)
  have n3 := k3.1
  have k03 := kN k02 k3
  have o13 := (o1.keepN k2).keepN k3
  have o23 := o2.keepN k3
  cases c : newOk (f + 1) pid pc t with
  | false =>
    rw [c] at e3
    obtain ⟨h4, w4, o4, k4, l4⟩ := o23.wr0 (i := 0) (new := acV 0 0 none 0 none 0 none 0) (by simp) (by simp)
    have hset : setAt (acV 0 0 none 0 none 0 none 0) 0 (acV 0 0 none 0 none 0 none 0) = acV 0 0 none 0 none 0 none 0 := rfl
    rw [hset] at o4
    refine ⟨acV 0 0 none 0 none 0 none 0, h4, r12 (lets fun y ey => ?_), by unfold newA; rw [c]; exact zeroD, kFresh k03 k4 fun i hi => by omega⟩
    rw [hh1] at ey
    subst ey
    refine lets fun y ey => ?_
    rw [hh2] at ey
    subst ey
    refine bj _ (bs l1In_run (bB rfl e3)) (bI rfl (bI rfl (bs rfl (bs rfl (bB rfl (ifT rfl (bs w4 (q5 o4 rfl))))))))
  | true =>
    rw [c] at e3
    obtain ⟨cs4, h4, e4, m4, k4⟩ := l1Copy_run (base := base) (f + 1) h3 p t _ (TmR.keep k03 (fun _ _ h => h) _ _ _ hm) hB (by omega) (fun b hb => by have := hp b hb; omega)
    obtain ⟨kk, nn, ss, aa, mm, rfl⟩ := m4.form
    have n4 := k4.1
    obtain ⟨o5, k5, q5'⟩ := box_own (base := base) (t := 32) (h := h4) (cs := termV kk nn ss aa mm) (by omega) rfl
    generalize hh5 : h4 ++ [some (⟨termV kk nn ss aa mm, 32⟩ : Blk)] = h5 at o5 k5 q5'
    obtain ⟨o6, k6, q6'⟩ := box_own (base := base) (t := 29) (h := h5) (cs := acV pid pc (at0 h4.length) 1 none 0 none 0) (by omega) rfl
    generalize hh6 : h5 ++ [some (⟨acV pid pc (at0 h4.length) 1 none 0 none 0, 29⟩ : Blk)] = h6 at o6 k6 q6'
    have ch : Chunks 4 (TmD (f + 1)) (iS h3.length h4.length) h6 (newRegs t 0) (termV kk nn ss aa mm) := by
      have := (Chunks.nil (w := 4) (P := TmD (f + 1)) (S := fun _ => False) (h := h6) (vs := [])).snoc (S' := iS h3.length h4.length) (vs' := termV kk nn ss aa mm) (((TmD.kp _ _ _ _ _ _ _ k5 (fun _ _ h => h) m4)) |> fun z => TmD.kp _ _ _ _ _ _ _ k6 (fun _ _ h => h) z) (fun _ _ h => h) (fun _ h => h.elim) (fun _ h => h) (fun i hi => by simp at hi) rfl
      exact this
    obtain ⟨h7, ao, vs, T, e7, o7, ow7, hv7, hc7, hT7, ha7, k7⟩ := specNew_loop (base := base) (f := f) (b0 := h1.length) (b1 := h5.length) (t := t) (pid := pid) (pc := pc) (lo := h3.length) (by omega) (by omega) 7 0 h6 (at0 h4.length) (termV kk nn ss aa mm) (iS h3.length h4.length) (by omega) (by omega) o6 (o5.keepN k6) rfl ch (fun b hb => by constructor <;> omega) (fun b hb => by rw [blk_at0] at hb; subst hb; exact ⟨fun h => by omega, by omega, by omega⟩)
    have n7 := k7.1
    have o27 := (((o23.keepN k4).keepN k5).keepN k6).keep k7 fun b hb hk => by rw [blk_at0] at hb; omega
    obtain ⟨h8, w8, o8, k8, l8⟩ := o27.wr0 (i := 0) (new := acV pid pc ao 8 none 0 none 0) (by simp) (by simp)
    have hset : setAt (acV 0 0 none 0 none 0 none 0) 0 (acV pid pc ao 8 none 0 none 0) = acV pid pc ao 8 none 0 none 0 := rfl
    rw [hset] at o8
    have k06 := kN (kN (kN k03 k4) k5) k6
    have k08 : KB NoB h h8 := kFresh (kFresh k06 k7 fun i hi => by omega) k8 fun i hi => by omega
    refine ⟨acV pid pc ao 8 none 0 none 0, h8, r12 (lets fun y ey => ?_), ?_, k08⟩
    · rw [hh1] at ey
      subst ey
      refine lets fun y ey => ?_
      rw [hh2] at ey
      subst ey
      refine bj _ (bs l1In_run (bB rfl e3)) (bI rfl (bI rfl (bs rfl (bs rfl (bB rfl (ifF (by decide) (q4 o13 (bs e4 ?_))))))))
      refine bs (v := termV kk nn ss aa mm) rfl (bI rfl (bI rfl (bT rfl (bS rfl (lets fun y ey => ?_)))))
      rw [hh5] at ey
      subst ey
      refine nw (by omega) rfl fun y ey => ?_
      rw [hh6] at ey
      subst ey
      refine bs e7 (ifT rfl (bs rfl (bs rfl (q5 o7 (bs w8 (q5 o8 rfl))))))
    · unfold newA
      rw [c, if_pos rfl]
      exact newTail (a := none) hb k08 (newRegs_len t 7).symm (ow7.keepB k8 fun b hb => by have := (ha7 b hb).2.1; omega) hv7 (hc7.keep (TmD.kp _) k8 fun b hb hk => by have := hT7 b hb; omega) (fun b hb => by have := hT7 b hb; constructor <;> omega) (fun b hb => ⟨(ha7 b hb).1, by have := (ha7 b hb).2.1; omega⟩)
end Go.Proofs.Ytnmjhhipbfngkaa.Am
