/- Actors: counted, copied; are their rows right.
Conditions: none. -/
import Derived.Test.YtnmjhhipbfngkaaAc
import Derived.Test.YtnmjhhipbfngkaaOk2
import Derived.Test.YtnmjhhipbfngkaaEq1
import Derived.Test.YtnmjhhipbfngkaaEq2
import Derived.Test.YtnmjhhipbfngkaaEq3
import Derived.Test.YtnmjhhipbfngkaaEq4
set_option linter.unusedSimpArgs false
set_option linter.unusedVariables false
namespace Go.Proofs.Ytnmjhhipbfngkaa.Am
open Go Go.RowKit

theorem szTermS_run {base f : Nat} {h : AH} {p : Nat → Prop} {l : List Tm} {a : Option Addr} {left : Int} (hl : l.length ≤ 9223372036854775807) (hs : TsR h p f l a) (hb : base ≤ h.length) (hp : ∀ b, p b → b < h.length) (h0 : 0 ≤ left) (h1 : left ≤ 1048576) :
    ∃ z h', run (Et base) 61 [.slice a l.length l.length, .int .i64 left] h = some (.int .i64 z, h') ∧ KB NoB h h' ∧ z ≤ left ∧ -1 ≤ z ∧ (¬ z < 0 → l.length ≤ 1048576 ∧ (∀ t ∈ l, TmB f t) ∧ z + ((l.length + sumL (tcnt f) l : Nat) : Int) ≤ left) := by
  by_cases hn : left - (l.length : Int) < 0
  · refine ⟨-1, h, r61 ?_, KB.refl _ _, by omega, by omega, fun h => absurd (by decide) h⟩
    rw [w64i (by omega) (by omega)]
    exact ifT (decide_eq_true hn) rfl
  · obtain ⟨e, z, h', y1, y2, y3, y4, y5, y6⟩ := szTermS_loop (base := base) (f := f) (szTerm_run f) (by omega) l.length 0 h (left - (l.length : Int)) (by omega) hs hb hp (by omega) (by omega)
    refine ⟨z, h', r61 ?_, y3, by omega, by omega, fun hz => ?_⟩
    · rw [w64i (by omega) (by omega)]
      refine ifF (by simpa using hn) (bs y1 ?_)
      rcases y2 with rfl | rfl
      · exact ifT rfl (bI rfl rfl)
      · exact ifF (show ¬ (2 : Nat) = 1 by decide) (ifT rfl (bI rfl rfl))
    · obtain ⟨y7, y8⟩ := y6 hz
      rw [List.drop_zero] at y8
      exact ⟨by omega, fun t ht => by
        obtain ⟨j, hj⟩ := List.getElem?_of_mem ht
        exact y7 j t (by omega) hj, by omega⟩
theorem szIntS_run {base : Nat} {h : AH} {a : Option Addr} {n : Nat} {left : Int} (hl : n ≤ 9223372036854775807) (h0 : 0 ≤ left) (h1 : left ≤ 1048576) : ∃ z, run (Et base) 89 [.slice a n n, .int .i64 left] h = some (.int .i64 z, h) ∧ z ≤ left ∧ -1 ≤ z ∧ (¬ z < 0 → z + (n : Int) ≤ left) := by
  by_cases hn : left - (n : Int) < 0
  · refine ⟨-1, r89 ?_, by omega, by omega, fun h => absurd (by decide) h⟩
    rw [w64i (by omega) (by omega)]
    exact ifT (decide_eq_true hn) rfl
  · refine ⟨left - (n : Int), r89 ?_, by omega, by omega, fun _ => by omega⟩
    rw [w64i (by omega) (by omega)]
    exact ifF (by simpa using hn) rfl
/-- What an actor's counting down leaves known. -/
def AcB (f : Nat) (A : Ac) : Prop := A.regs.length ≤ 1048576 ∧ A.box.length ≤ 1048576 ∧ A.links.length ≤ 1048576 ∧ (∀ t ∈ A.regs, TmB f t) ∧ (∀ t ∈ A.box, TmB f t)
def AcM (A : Ac) : Prop := A.regs.length ≤ 9223372036854775807 ∧ A.box.length ≤ 9223372036854775807 ∧ A.links.length ≤ 9223372036854775807
theorem szActor_run {base f : Nat} {h : AH} {p : Nat → Prop} {A : Ac} {cs : List Value} {left : Int} (hM : AcM A) (x : AcR h p f A cs) (hb : base ≤ h.length) (hp : ∀ b, p b → b < h.length) (h0 : 0 ≤ left) (h1 : left ≤ 1048576) :
    ∃ z h', run (Et base) 36 [.agg cs.toArray, .int .i64 left] h = some (.int .i64 z, h') ∧ KB NoB h h' ∧ z ≤ left ∧ -1 ≤ z ∧ (¬ z < 0 → AcB f A ∧ z + ((A.regs.length + sumL (tcnt f) A.regs : Nat) : Int) + ((A.box.length + sumL (tcnt f) A.box : Nat) : Int) + (A.links.length : Int) ≤ left) := by
  obtain ⟨a, b, g, rfl, hr, hx, hl, _⟩ := x
  obtain ⟨m1, m2, m3⟩ := hM
  obtain ⟨o1, k1, q1⟩ := box_own (base := base) (t := 56) (h := h) (cs := acV A.pid A.pc a A.regs.length b A.box.length g A.links.length) hb rfl
  generalize hh1 : h ++ [some (⟨acV A.pid A.pc a A.regs.length b A.box.length g A.links.length, 56⟩ : Blk)] = h1' at o1 k1 q1
  obtain ⟨z2, h2, e2, k2, y1, y2, y3⟩ := szTermS_run (base := base) (left := left) m1 (hr.keep k1 fun _ _ h => h) (by omega) (fun b hb => by have := hp b hb; omega) h0 h1
  have n2 := k2.1
  have k02 := kN k1 k2
  have go : ∀ {r : Value × AH}, ((if (decide (z2 < (0 : Int))) = true then some (.int .i64 (-1 : Int), h2) else ((cell h2 (List.length h) 3).bind getS).bind fun l5 => (run (Et base) 61 [(.slice l5.1 l5.2 l5.2), (.int .i64 z2)] h2).bind fun r6 => ((some r6.1).bind (getI .i64)).bind fun n7 =>
      (if (decide (n7 < (0 : Int))) = true then some ((.int .i64 (-1 : Int)), r6.2) else ((cell r6.2 (List.length h) 4).bind getS).bind fun l8 => (run (Et base) 89 [(.slice l8.1 l8.2 l8.2), (.int .i64 n7)] r6.2).bind fun r9 => ((some r9.1).bind (getI .i64)).bind fun n10 => (if (decide (n10 < (0 : Int))) = true then some ((.int .i64 (-1 : Int)), r9.2) else some ((.int .i64 n10), r9.2)))) = some r) →
      run (Et base) 36 [.agg (acV A.pid A.pc a A.regs.length b A.box.length g A.links.length).toArray, .int .i64 left] h = some r := by
    intro r hr
    refine r36 (lets fun y ey => ?_)
    rw [hh1] at ey
    rw [ey]
    exact bS (o1.at0 (i := 2) rfl) (bs e2 (bI rfl hr))
  by_cases c2 : z2 < 0
  · exact ⟨-1, h2, go (ifT (decide_eq_true c2) rfl), k02, by omega, by omega, fun h => absurd (by decide) h⟩
  obtain ⟨b1, b2, b3⟩ := y3 c2
  obtain ⟨z3, h3, e3, k3, u1, u2, u3⟩ := szTermS_run (base := base) (left := z2) m2 (hx.keep k02 fun _ _ h => h) (by omega) (fun b hb => by have := hp b hb; omega) (by omega) (by omega)
  have n3 := k3.1
  have k03 := kN k02 k3
  by_cases c3 : z3 < 0
  · exact ⟨-1, h3, go (ifF (by simpa using c2) (bS ((o1.keepN k2).at0 (i := 3) rfl) (bs e3 (bI rfl (ifT (decide_eq_true c3) rfl))))), k03, by omega, by omega, fun h => absurd (by decide) h⟩
  obtain ⟨d1, d2, d3⟩ := u3 c3
  obtain ⟨z4, e4, v1, v2, v3⟩ := szIntS_run (base := base) (h := h3) (a := g) (n := A.links.length) (left := z3) m3 (by omega) (by omega)
  by_cases c4 : z4 < 0
  · exact ⟨-1, h3, go (ifF (by simpa using c2) (bS ((o1.keepN k2).at0 (i := 3) rfl) (bs e3 (bI rfl (ifF (by simpa using c3) (bS (((o1.keepN k2).keepN k3).at0 (i := 4) rfl) (bs e4 (bI rfl (ifT (decide_eq_true c4) rfl))))))))), k03, by omega, by omega, fun h => absurd (by decide) h⟩
  · have := v3 c4
    exact ⟨z4, h3, go (ifF (by simpa using c2) (bS ((o1.keepN k2).at0 (i := 3) rfl) (bs e3 (bI rfl (ifF (by simpa using c3) (bS (((o1.keepN k2).keepN k3).at0 (i := 4) rfl) (bs e4 (bI rfl (ifF (by simpa using c4) rfl))))))))), k03, by omega, by omega, fun _ => ⟨⟨b1, d1, by omega, b2, d2⟩, by omega⟩⟩

theorem toActor_run {base f : Nat} {h : AH} {p : Nat → Prop} {A : Ac} {cs : List Value} (hB : AcB f A) (x : AcR h p f A cs) (hb : base ≤ h.length) (hp : ∀ b, p b → b < h.length) :
    ∃ cs' h', run (Et base) 38 [.agg cs.toArray] h = some (.agg cs'.toArray, h') ∧ AcD base f (iS h.length h'.length) h' A cs' ∧ KB NoB h h' := by
  obtain ⟨a, b, g, rfl, hr, hx, hl, hlb⟩ := x
  obtain ⟨m1, m2, m3, m4, m5⟩ := hB
  obtain ⟨o1, k1, q1⟩ := box_own (base := base) (t := 56) (h := h) (cs := acV A.pid A.pc a A.regs.length b A.box.length g A.links.length) hb rfl
  generalize hh1 : h ++ [some (⟨acV A.pid A.pc a A.regs.length b A.box.length g A.links.length, 56⟩ : Blk)] = h1 at o1 k1 q1
  obtain ⟨o2, k2, q2⟩ := box_own (base := base) (t := 29) (h := h1) (cs := acV 0 0 none 0 none 0 none 0) (by omega) rfl
  generalize hh2 : h1 ++ [some (⟨acV 0 0 none 0 none 0 none 0, 29⟩ : Blk)] = h2 at o2 k2 q2
  obtain ⟨o3, k3, q3⟩ := box_own (base := base) (t := 29) (h := h2) (cs := acV 0 0 none 0 none 0 none 0) (by omega) rfl
  generalize hh3 : h2 ++ [some (⟨acV 0 0 none 0 none 0 none 0, 29⟩ : Blk)] = h3 at o3 k3 q3
  have p3 := (o1.keepN k2).keepN k3
  have z3 := o2.keepN k3
  have k03 := kN (kN k1 k2) k3
  have nb1 : ∀ {i}, blk (at0 h.length) i → i ≠ h2.length := fun hi => by rw [blk_at0] at hi; omega
  have nb2 : ∀ {i}, blk (at0 h1.length) i → i ≠ h2.length := fun hi => by rw [blk_at0] at hi; omega
  obtain ⟨h4, e4, o4, k4, l4⟩ := o3.wr0 (i := 0) (new := [.int .i64 A.pid]) (by simp) (by simp)
  have p4 := p3.keepB k4 fun i hi => nb1 hi
  have z4 := z3.keepB k4 fun i hi => nb2 hi
  obtain ⟨h5, e5, o5, k5, l5⟩ := o4.wr0 (i := 1) (new := [.int .i64 A.pc]) (by simp [setAt]) (by simp)
  have p5 := p4.keepB k5 fun i hi => nb1 hi
  have z5 := z4.keepB k5 fun i hi => nb2 hi
  have k05 : KB NoB h h5 := kFresh (kFresh k03 k4 fun i hi => by omega) k5 fun i hi => by omega
  obtain ⟨a6, h6, e6, r6, k6⟩ := toTermSD_run (base := base) (toTermD_run f) m1 m4 (hr.keep k05 fun _ _ h => h) (by omega) (fun b hb => by have := hp b hb; omega)
  have n6 := k6.1
  obtain ⟨h7, e7, o7, k7, l7⟩ := (o5.keepN k6).wr0 (i := 2) (new := [.slice a6 A.regs.length A.regs.length]) (by simp [setAt]) (by simp)
  have p7 := (p5.keepN k6).keepB k7 fun i hi => nb1 hi
  have z7 := (z5.keepN k6).keepB k7 fun i hi => nb2 hi
  have r7 := r6.keep (TmD.kp _) k7 fun b hb hk => by omega
  have k07 : KB NoB h h7 := kFresh (kN k05 k6) k7 fun i hi => by omega
  obtain ⟨a8, h8, e8, r8, k8⟩ := toTermSD_run (base := base) (toTermD_run f) m2 m5 (hx.keep k07 fun _ _ h => h) (by omega) (fun b hb => by have := hp b hb; omega)
  have n8 := k8.1
  obtain ⟨h9, e9, o9, k9, l9⟩ := (o7.keepN k8).wr0 (i := 3) (new := [.slice a8 A.box.length A.box.length]) (by simp [setAt]) (by simp)
  have p9 := (p7.keepN k8).keepB k9 fun i hi => nb1 hi
  have z9 := (z7.keepN k8).keepB k9 fun i hi => nb2 hi
  have r9 := (r7.keep (TmD.kp _) k8 fun _ _ h => h).keep (TmD.kp _) k9 fun b hb hk => by omega
  have s9 := r8.keep (TmD.kp _) k9 fun b hb hk => by omega
  have k09 : KB NoB h h9 := kFresh (kN k07 k8) k9 fun i hi => by omega
  obtain ⟨a10, h10, e10, w10, k10, f10⟩ := toIntS_run (base := base) (hl.keepN k09) m3 (by omega)
  have n10 := k10.1
  obtain ⟨h11, e11, o11, k11, l11⟩ := (o9.keepN k10).wr0 (i := 4) (new := [.slice a10 A.links.length A.links.length]) (by simp [setAt]) (by simp)
  have z11 := (z9.keepN k10).keepB k11 fun i hi => nb2 hi
  have r11 := (r9.keep (TmD.kp _) k10 fun _ _ h => h).keep (TmD.kp _) k11 fun b hb hk => by omega
  have s11 := (s9.keep (TmD.kp _) k10 fun _ _ h => h).keep (TmD.kp _) k11 fun b hb hk => by omega
  have w11 := w10.keepB k11 fun b hb => by have := f10 b hb; omega
  have hset : setAt (setAt (setAt (setAt (setAt (acV 0 0 none 0 none 0 none 0) 0 [.int .i64 A.pid]) 1 [.int .i64 A.pc]) 2 [.slice a6 A.regs.length A.regs.length]) 3 [.slice a8 A.box.length A.box.length]) 4 [.slice a10 A.links.length A.links.length] = acV A.pid A.pc a6 A.regs.length a8 A.box.length a10 A.links.length := rfl
  rw [hset] at o11
  obtain ⟨h12, e12, o12, k12, l12⟩ := z11.wr0 (i := 0) (new := acV A.pid A.pc a6 A.regs.length a8 A.box.length a10 A.links.length) (by simp) (by simp)
  have hz : setAt (acV 0 0 none 0 none 0 none 0) 0 (acV A.pid A.pc a6 A.regs.length a8 A.box.length a10 A.links.length) = acV A.pid A.pc a6 A.regs.length a8 A.box.length a10 A.links.length := rfl
  rw [hz] at o12
  have k012 : KB NoB h h12 := kFresh (kFresh (kN k09 k10) k11 fun i hi => by omega) k12 fun i hi => by omega
  refine ⟨acV A.pid A.pc a6 A.regs.length a8 A.box.length a10 A.links.length, h12, r38 (lets fun y ey => ?_), ⟨a6, a8, a10, iS h5.length h6.length, iS h7.length h8.length, iS h9.length h10.length, rfl, r11.keep (TmD.kp _) k12 fun b hb hk => by omega, s11.keep (TmD.kp _) k12 fun b hb hk => by omega, w11.keepB k12 fun b hb => by have := f10 b hb; omega, fun b hb => ⟨f10 b hb, (w10.lt hb).2⟩, fun b hb => by constructor <;> omega, fun b hb => by constructor <;> omega, fun b hb => by constructor <;> omega, fun b h1 h2 => by omega, fun b h1 h2 => by omega, fun b h1 h2 => by omega⟩, k012⟩
  rw [hh1] at ey
  rw [ey]
  refine lets fun y ey => ?_
  rw [hh2] at ey
  rw [ey]
  refine lets fun y ey => ?_
  rw [hh3] at ey
  rw [ey]
  refine bI (p3.at0 (i := 0) rfl) (bs e4 (bI (p4.at0 (i := 1) rfl) (bs e5 (bS (p5.at0 (i := 2) rfl) (bs e6 (bS rfl (bs e7 ?_)))))))
  refine bS (p7.at0 (i := 3) rfl) (bs e8 (bS rfl (bs e9 (bS (p9.at0 (i := 4) rfl) (bs e10 (bS rfl (bs e11 ?_)))))))
  refine bI (o11.at0 (i := 0) rfl) (bI (o11.at0 (i := 1) rfl) (bS (o11.at0 (i := 2) rfl) (bS (o11.at0 (i := 3) rfl) (bS (o11.at0 (i := 4) rfl) (bs e12 ?_)))))
  exact bI (o12.at0 (i := 0) rfl) (bI (o12.at0 (i := 1) rfl) (bS (o12.at0 (i := 2) rfl) (bS (o12.at0 (i := 3) rfl) (bS (o12.at0 (i := 4) rfl) rfl))))
end Go.Proofs.Ytnmjhhipbfngkaa.Am
