/- Are links told of by both; is a system right: the program's answer is the reference's.
Conditions: none. -/
import Derived.Test.YtnmjhhipbfngkaaPlc
set_option linter.unusedSimpArgs false
set_option linter.unusedVariables false
namespace Go.Proofs.Ytnmjhhipbfngkaa.Am
open Go Go.RowKit

def a0 : Ac := ⟨0, 0, [], [], []⟩
theorem aD {l : List Ac} {i : Nat} (hi : i < l.length) : l.getD i a0 = l[i] := by simp [hi]
def badLk (acs : List Ac) (v n : Int) : Bool := if decide (atL n 0 acs ≥ 0) = true then !hasI v (acs.getD (atL n 0 acs).toNat a0).links else false
def anyLk (acs : List Ac) (v : Int) : List Int → Bool
  | [] => false
  | n :: r => badLk acs v n || anyLk acs v r
theorem l11Both_loop {base f pb ab : Nat} {p : Nat → Prop} {P : Pl} {a b c : Option Addr} {A : Ac} {x1 x2 g : Option Addr} (hM : PlM P) (hA : A.links.length ≤ 9223372036854775807) : ∀ (d i : Nat) (h : AH), i + d = A.links.length → AsR h p f P.acs b → Own base 70 h (at0 pb) (plV a P.code.length b P.acs.length P.next c P.out.length) → Own base 29 h (at0 ab) (acV A.pid A.pc x1 A.regs.length x2 A.box.length g A.links.length) → Sl h g (iv .i64 A.links) → base ≤ h.length →
    ∃ h', loopL (B98_0 base) [some (.pointer (at0 pb)), some (.pointer (at0 ab)), some (.int .i64 (i : Int))] h = some (if anyLk P.acs A.pid (A.links.drop i) = true then (1, [some (.bool false)], h') else (2, [], h')) ∧ KB NoB h h' := by
  intro d
  induction d with
  | zero =>
    intro i h hi hs oP oA hl hb
    refine ⟨h, ?_, KB.refl _ _⟩
    rw [List.drop_eq_nil_of_le (by omega), anyLk, if_neg (by decide)]
    refine loop_off (by decide) ?_
    rw [B98_0_eq]
    refine bS (oA.at0 (i := 4) rfl) (ifF ?_ rfl)
    simp; omega
  | succ d ihd =>
    intro i h hi hs oP oA hl hb
    have hlt : i < A.links.length := by omega
    obtain ⟨gd, rfl, gl⟩ := int_get hl hlt
    obtain ⟨h2, e2, k2⟩ := l11At_run (base := base) (P := P) (a := a) (g := c) (v := A.links[i]) hM.2.2.1 hs hb
    have n2 := k2.1
    rw [List.drop_eq_getElem_cons hlt, anyLk]
    have head : ∀ {r : Option (Nat × Slots × AH)}, (if badLk P.acs A.pid A.links[i] = true then some (1, [some (.bool false)], h2) else some (0, [some (.pointer (at0 pb)), some (.pointer (at0 ab)), some (.int .i64 (IntKind.wrap .i64 ((i : Int) + (1 : Int))))], h2)) = r → B98_0 base [some (.pointer (at0 pb)), some (.pointer (at0 ab)), some (.int .i64 (i : Int))] h = r := by
      intro r hr
      rw [B98_0_eq]
      refine bS (oA.at0 (i := 4) rfl) (ifT (decide_eq_true (by omega)) ?_)
      refine bS (oP.at0 (i := 0) rfl) (bS (oP.at0 (i := 1) rfl) (bI (oP.at0 (i := 2) rfl) (bS (oP.at0 (i := 3) rfl) (bS (oA.at0 (i := 4) rfl) (ifT ⟨by omega, by omega⟩ (bs rfl ?_))))))
      simp only [Int.toNat_natCast]
      refine bI gl (bs e2 (bI rfl ?_))
      refine bj (q := ([some (.pointer (at0 pb)), some (.pointer (at0 ab)), some (.int .i64 (i : Int)), some (.bool (badLk P.acs A.pid A.links[i]))], h2)) ?_ (bs rfl (bs rfl (bI rfl (bB rfl hr))))
      unfold badLk
      by_cases cc : atL A.links[i] 0 P.acs ≥ 0
      · rw [decide_eq_true cc, if_pos rfl, if_pos rfl]
        have hlt2 : atL A.links[i] 0 P.acs < (P.acs.length : Int) := by
          rcases atL_lt A.links[i] P.acs 0 with h | ⟨_, h⟩ <;> omega
        have hn : (atL A.links[i] 0 P.acs).toNat < P.acs.length := by omega
        obtain ⟨ad, u1, u2, u3, rfl, _, y0, y1, y2, y3, y4, _, ym⟩ := (hs.keepN k2).get hn
        have eh := l11Has_run (base := base) (v := A.pid) (h := h2) (by have := (hM.2.2.2.1 _ (List.getElem_mem hn)).2.2; omega) ym
        rw [aD hn]
        exact bS ((oP.keepN k2).at0 (i := 1) rfl) (ifT ⟨cc, hlt2⟩ (bs rfl (bS y4 (bI ((oA.keepN k2).at0 (i := 0) rfl) (bs eh (bB rfl rfl))))))
      · rw [decide_eq_false cc, if_neg (by decide), if_neg (by decide)]
    cases cb : badLk P.acs A.pid A.links[i] with
    | true =>
      refine ⟨h2, ?_, k2⟩
      rw [Bool.true_or, if_pos rfl]
      exact loop_off (by decide) (head (by rw [cb]; exact ifT rfl rfl))
    | false =>
      rw [Bool.false_or]
      obtain ⟨h4, y1, y2⟩ := ihd (i + 1) h2 (by omega) (hs.keepN k2) (oP.keepN k2) (oA.keepN k2) (hl.keepN k2) (by omega)
      refine ⟨h4, loop_on (head ?_) y1, kN k2 y2⟩
      rw [cb, w64i (n := (i : Int) + 1) (by omega) (by omega)]
      exact ifF (by decide) rfl
theorem l11Both_run {base f : Nat} {p : Nat → Prop} {P : Pl} {a b c : Option Addr} {i : Nat} {h : AH} (hM : PlM P) (hi : i < P.acs.length) (hs : AsR h p f P.acs b) (hb : base ≤ h.length) :
    ∃ h', run (Et base) 98 [.agg (plV a P.code.length b P.acs.length P.next c P.out.length).toArray, .int .i64 (i : Int)] h = some (.bool (!anyLk P.acs P.acs[i].pid P.acs[i].links), h') ∧ KB NoB h h' := by
  obtain ⟨o1, k1, q1⟩ := box_own (base := base) (t := 70) (h := h) (cs := plV a P.code.length b P.acs.length P.next c P.out.length) hb rfl
  generalize hh1 : h ++ [some (⟨plV a P.code.length b P.acs.length P.next c P.out.length, 70⟩ : Blk)] = h1 at o1 k1 q1
  obtain ⟨ad, x1, x2, g, rfl, _, g0, g1, g2, g3, g4, hm, hl⟩ := (hs.keepN k1).get hi
  obtain ⟨o2, k2, q2⟩ := box_own (base := base) (t := 29) (h := h1) (cs := acV P.acs[i].pid P.acs[i].pc x1 P.acs[i].regs.length x2 P.acs[i].box.length g P.acs[i].links.length) (by omega) rfl
  generalize hh2 : h1 ++ [some (⟨acV P.acs[i].pid P.acs[i].pc x1 P.acs[i].regs.length x2 P.acs[i].box.length g P.acs[i].links.length, 29⟩ : Blk)] = h2 at o2 k2 q2
  have k02 := kN k1 k2
  obtain ⟨h3, e3, k3⟩ := l11Both_loop (base := base) hM (hM.2.2.2.1 _ (List.getElem_mem hi)).2.2 P.acs[i].links.length 0 h2 (by omega) (hs.keepN k02) (o1.keepN k2) o2 (hl.keepN k2) (by omega)
  rw [List.drop_zero, show ((0 : Nat) : Int) = 0 from rfl] at e3
  refine ⟨h3, r98 (lets fun y ey => ?_), kN k02 k3⟩
  rw [hh1] at ey
  rw [ey]
  refine bS (o1.at0 (i := 1) rfl) (ifT ⟨by omega, by omega⟩ (bs rfl ?_))
  simp only [Int.toNat_natCast]
  refine bI g0 (bI g1 (bS g2 (bS g3 (bS g4 (nw (show base ≤ h1.length by omega) rfl fun y ey => ?_)))))
  rw [hh2] at ey
  rw [ey]
  refine bs e3 ?_
  cases anyLk P.acs P.acs[i].pid P.acs[i].links with
  | true => exact ifT rfl (bB rfl rfl)
  | false => exact ifF (show ¬ (2 : Nat) = 1 by decide) (ifT rfl rfl)

def preA (f : Nat) (P : Pl) (i : Nat) : Bool := if (!acOk f P.code (P.acs.getD i a0)) = true then true else if decide ((P.acs.getD i a0).pid ≥ P.next) = true then true else if decide ((i : Int) > (0 : Int)) = true then decide ((P.acs.getD (i - 1) a0).pid ≥ (P.acs.getD i a0).pid) else false
def badA (f : Nat) (P : Pl) (i : Nat) : Bool := if preA f P i = true then true else anyLk P.acs (P.acs.getD i a0).pid (P.acs.getD i a0).links
def anyA (f : Nat) (P : Pl) : Nat → Nat → Bool
  | 0, _ => false
  | d + 1, i => badA f P i || anyA f P d (i + 1)
def plOk (f : Nat) (P : Pl) : Bool := codeOk P.code && (inB P.next 1 90000 && (decide (¬ (P.acs.length : Int) > 20) && (saidOk f P.out && !anyA f P P.acs.length 0)))

theorem specPlainOk_loop {base f pb : Nat} {p : Nat → Prop} {P : Pl} {a b c : Option Addr} (hM : PlM P) : ∀ (d i : Nat) (h : AH), i + d = P.acs.length → AsR h p f P.acs b → Own base 70 h (at0 pb) (plV a P.code.length b P.acs.length P.next c P.out.length) → Sl h a (insR P.code) → base ≤ h.length →
    ∃ h', loopL (B41_0 base) [some (.pointer (at0 pb)), some (.int .i64 (i : Int))] h = some (if anyA f P d i = true then (1, [some (.bool false)], h') else (2, [], h')) ∧ KB NoB h h' := by
  intro d
  have l1 := hM.1
  have l3 := hM.2.2.1
  induction d with
  | zero =>
    intro i h hi hs oP hc hb
    refine ⟨h, ?_, KB.refl _ _⟩
    rw [anyA, if_neg (by decide)]
    refine loop_off (by decide) ?_
    rw [B41_0_eq]
    refine bS (oP.at0 (i := 1) rfl) (ifF ?_ rfl)
    simp; omega
  | succ d ihd =>
    intro i h hi hs oP hc hb
    have hlt : i < P.acs.length := by omega
    obtain ⟨ad, x1, x2, x3, rfl, _, g0, g1, g2, g3, g4, hm, _⟩ := hs.get hlt
    obtain ⟨o1, k1, q1⟩ := box_own (base := base) (t := 29) (h := h) (cs := acV P.acs[i].pid P.acs[i].pc x1 P.acs[i].regs.length x2 P.acs[i].box.length x3 P.acs[i].links.length) hb rfl
    generalize hh1 : h ++ [some (⟨acV P.acs[i].pid P.acs[i].pc x1 P.acs[i].regs.length x2 P.acs[i].box.length x3 P.acs[i].links.length, 29⟩ : Blk)] = h1 at o1 k1 q1
    obtain ⟨h2, e2, k2⟩ := specActorOk_run (base := base) hM.2.1 l1 (hc.keepN k1) (hM.2.2.2.1 _ (List.getElem_mem hlt)) (hm.keep k1 fun _ _ h => h) (by omega)
    have n2 := k2.1
    have k02 := kN k1 k2
    obtain ⟨h3, e3, k3⟩ := l11Both_run (base := base) (a := a) (c := c) hM hlt (hs.keepN k02) (by omega)
    have n3 := k3.1
    have oP1 := oP.keepN k1
    have oP2 := oP1.keepN k2
    have o2 := o1.keepN k2
    have head : ∃ hz, KB NoB h hz ∧ ∀ {r : Option (Nat × Slots × AH)}, (if badA f P i = true then some (1, [some (.bool false)], hz) else some (0, [some (.pointer (at0 pb)), some (.int .i64 (IntKind.wrap .i64 ((i : Int) + (1 : Int))))], hz)) = r → B41_0 base [some (.pointer (at0 pb)), some (.int .i64 (i : Int))] h = r := by
      have hB : badA f P i = if (!acOk f P.code P.acs[i]) = true then true else if decide (P.acs[i].pid ≥ P.next) = true then true else if decide ((i : Int) > (0 : Int)) = true then (if decide ((P.acs.getD (i - 1) a0).pid ≥ P.acs[i].pid) = true then true else anyLk P.acs P.acs[i].pid P.acs[i].links) else anyLk P.acs P.acs[i].pid P.acs[i].links := by
        unfold badA preA
        rw [aD hlt]
        cases acOk f P.code P.acs[i] <;> cases decide (P.acs[i].pid ≥ P.next) <;> cases decide ((i : Int) > (0 : Int)) <;> cases decide ((P.acs.getD (i - 1) a0).pid ≥ P.acs[i].pid) <;> rfl
      rw [hB]
      by_cases c1 : (!acOk f P.code P.acs[i]) = true
      · refine ⟨h2, k02, fun hr => ?_⟩
        rw [if_pos c1] at hr
        rw [B41_0_eq]
        refine bS (oP.at0 (i := 1) rfl) (ifT (decide_eq_true (by omega)) (bS (oP.at0 (i := 1) rfl) (ifT ⟨by omega, by omega⟩ (bs rfl ?_))))
        simp only [Int.toNat_natCast]
        refine bI g0 (bI g1 (bS g2 (bS g3 (bS g4 (nw hb rfl fun y ey => ?_)))))
        rw [hh1] at ey
        rw [ey]
        refine bj (q := ([some (.pointer (at0 pb)), some (.int .i64 (i : Int)), some (.bool true)], h2)) ?_ (bs rfl (bI rfl (bB rfl hr)))
        refine bS (oP1.at0 (i := 0) rfl) (bI (o1.at0 (i := 0) rfl) (bI (o1.at0 (i := 1) rfl) (bS (o1.at0 (i := 2) rfl) (bS (o1.at0 (i := 3) rfl) (bS (o1.at0 (i := 4) rfl) (bs e2 (bB rfl ?_)))))))
        exact ifT c1 rfl
      by_cases c2 : decide (P.acs[i].pid ≥ P.next) = true
      · refine ⟨h2, k02, fun hr => ?_⟩
        rw [if_neg c1, if_pos c2] at hr
        rw [B41_0_eq]
        refine bS (oP.at0 (i := 1) rfl) (ifT (decide_eq_true (by omega)) (bS (oP.at0 (i := 1) rfl) (ifT ⟨by omega, by omega⟩ (bs rfl ?_))))
        simp only [Int.toNat_natCast]
        refine bI g0 (bI g1 (bS g2 (bS g3 (bS g4 (nw hb rfl fun y ey => ?_)))))
        rw [hh1] at ey
        rw [ey]
        refine bj (q := ([some (.pointer (at0 pb)), some (.int .i64 (i : Int)), some (.bool true)], h2)) ?_ (bs rfl (bI rfl (bB rfl hr)))
        refine bS (oP1.at0 (i := 0) rfl) (bI (o1.at0 (i := 0) rfl) (bI (o1.at0 (i := 1) rfl) (bS (o1.at0 (i := 2) rfl) (bS (o1.at0 (i := 3) rfl) (bS (o1.at0 (i := 4) rfl) (bs e2 (bB rfl ?_)))))))
        exact ifF c1 (bI (o2.at0 (i := 0) rfl) (bI (oP2.at0 (i := 2) rfl) (ifT c2 rfl)))
      by_cases c3 : (i : Int) > 0
      · have hw : IntKind.wrap .i64 ((i : Int) - (1 : Int)) = ((i - 1 : Nat) : Int) := by rw [w64i (by omega) (by omega)]; omega
        have hp1 : i - 1 < P.acs.length := by omega
        obtain ⟨ad2, u1, u2, u3, ee, _, y0, _, _, _, _, _, _⟩ := (hs.keepN k02).get hp1
        injection ee with ee
        subst ee
        rw [aD hp1, decide_eq_true c3]
        by_cases c4 : decide (P.acs[i - 1].pid ≥ P.acs[i].pid) = true
        · refine ⟨h2, k02, fun hr => ?_⟩
          rw [if_neg c1, if_neg c2, if_pos rfl, if_pos c4] at hr
          rw [B41_0_eq]
          refine bS (oP.at0 (i := 1) rfl) (ifT (decide_eq_true (by omega)) (bS (oP.at0 (i := 1) rfl) (ifT ⟨by omega, by omega⟩ (bs rfl ?_))))
          simp only [Int.toNat_natCast]
          refine bI g0 (bI g1 (bS g2 (bS g3 (bS g4 (nw hb rfl fun y ey => ?_)))))
          rw [hh1] at ey
          rw [ey]
          refine bj (q := ([some (.pointer (at0 pb)), some (.int .i64 (i : Int)), some (.bool true)], h2)) ?_ (bs rfl (bI rfl (bB rfl hr)))
          refine bS (oP1.at0 (i := 0) rfl) (bI (o1.at0 (i := 0) rfl) (bI (o1.at0 (i := 1) rfl) (bS (o1.at0 (i := 2) rfl) (bS (o1.at0 (i := 3) rfl) (bS (o1.at0 (i := 4) rfl) (bs e2 (bB rfl ?_)))))))
          refine ifF c1 (bI (o2.at0 (i := 0) rfl) (bI (oP2.at0 (i := 2) rfl) (ifF c2 ?_)))
          rw [hw]
          refine ifT (decide_eq_true c3) (bS (oP2.at0 (i := 1) rfl) (ifT ⟨by omega, by omega⟩ (bs rfl ?_)))
          simp only [Int.toNat_natCast]
          exact bI y0 (bI (o2.at0 (i := 0) rfl) (ifT c4 rfl))
        · refine ⟨h3, kN k02 k3, fun hr => ?_⟩
          rw [if_neg c1, if_neg c2, if_pos rfl, if_neg c4] at hr
          rw [B41_0_eq]
          refine bS (oP.at0 (i := 1) rfl) (ifT (decide_eq_true (by omega)) (bS (oP.at0 (i := 1) rfl) (ifT ⟨by omega, by omega⟩ (bs rfl ?_))))
          simp only [Int.toNat_natCast]
          refine bI g0 (bI g1 (bS g2 (bS g3 (bS g4 (nw hb rfl fun y ey => ?_)))))
          rw [hh1] at ey
          rw [ey]
          refine bj (q := ([some (.pointer (at0 pb)), some (.int .i64 (i : Int)), some (.bool (anyLk P.acs P.acs[i].pid P.acs[i].links))], h3)) ?_ (bs rfl (bI rfl (bB rfl hr)))
          refine bS (oP1.at0 (i := 0) rfl) (bI (o1.at0 (i := 0) rfl) (bI (o1.at0 (i := 1) rfl) (bS (o1.at0 (i := 2) rfl) (bS (o1.at0 (i := 3) rfl) (bS (o1.at0 (i := 4) rfl) (bs e2 (bB rfl ?_)))))))
          refine ifF c1 (bI (o2.at0 (i := 0) rfl) (bI (oP2.at0 (i := 2) rfl) (ifF c2 ?_)))
          rw [hw]
          refine ifT (decide_eq_true c3) (bS (oP2.at0 (i := 1) rfl) (ifT ⟨by omega, by omega⟩ (bs rfl ?_)))
          simp only [Int.toNat_natCast]
          refine bI y0 (bI (o2.at0 (i := 0) rfl) (ifF c4 ?_))
          refine bS (oP2.at0 (i := 0) rfl) (bS (oP2.at0 (i := 1) rfl) (bI (oP2.at0 (i := 2) rfl) (bS (oP2.at0 (i := 3) rfl) (bs e3 (bB rfl ?_)))))
          rw [Bool.not_not]
      · refine ⟨h3, kN k02 k3, fun hr => ?_⟩
        rw [decide_eq_false c3] at hr
        rw [if_neg c1, if_neg c2, if_neg (show ¬ (false = true) by decide)] at hr
        rw [B41_0_eq]
        refine bS (oP.at0 (i := 1) rfl) (ifT (decide_eq_true (by omega)) (bS (oP.at0 (i := 1) rfl) (ifT ⟨by omega, by omega⟩ (bs rfl ?_))))
        simp only [Int.toNat_natCast]
        refine bI g0 (bI g1 (bS g2 (bS g3 (bS g4 (nw hb rfl fun y ey => ?_)))))
        rw [hh1] at ey
        rw [ey]
        refine bj (q := ([some (.pointer (at0 pb)), some (.int .i64 (i : Int)), some (.bool (anyLk P.acs P.acs[i].pid P.acs[i].links))], h3)) ?_ (bs rfl (bI rfl (bB rfl hr)))
        refine bS (oP1.at0 (i := 0) rfl) (bI (o1.at0 (i := 0) rfl) (bI (o1.at0 (i := 1) rfl) (bS (o1.at0 (i := 2) rfl) (bS (o1.at0 (i := 3) rfl) (bS (o1.at0 (i := 4) rfl) (bs e2 (bB rfl ?_)))))))
        refine ifF c1 (bI (o2.at0 (i := 0) rfl) (bI (oP2.at0 (i := 2) rfl) (ifF c2 (ifF (by simpa using c3) ?_))))
        refine bS (oP2.at0 (i := 0) rfl) (bS (oP2.at0 (i := 1) rfl) (bI (oP2.at0 (i := 2) rfl) (bS (oP2.at0 (i := 3) rfl) (bs e3 (bB rfl ?_)))))
        rw [Bool.not_not]
    obtain ⟨hz, kz, head⟩ := head
    have nz := kz.1
    rw [anyA]
    cases cb : badA f P i with
    | true =>
      refine ⟨hz, ?_, kz⟩
      rw [Bool.true_or, if_pos rfl]
      exact loop_off (by decide) (head (by rw [cb]; exact ifT rfl rfl))
    | false =>
      rw [Bool.false_or]
      obtain ⟨h4, y1, y2⟩ := ihd (i + 1) hz (by omega) (hs.keepN kz) (oP.keepN kz) (hc.keepN kz) (by omega)
      refine ⟨h4, loop_on (head ?_) y1, kN kz y2⟩
      rw [cb, w64i (n := (i : Int) + 1) (by omega) (by omega)]
      exact ifF (by decide) rfl
theorem specPlainOk_run {base f : Nat} {h : AH} {p : Nat → Prop} {P : Pl} {cs : List Value} (hM : PlM P) (x : PlR h p f P cs) (hb : base ≤ h.length) :
    ∃ h', run (Et base) 41 [.agg cs.toArray] h = some (.bool (plOk f P), h') ∧ KB NoB h h' := by
  obtain ⟨a, b, c, rfl, hc, _, hs, ho⟩ := x
  obtain ⟨o1, k1, q1⟩ := box_own (base := base) (t := 70) (h := h) (cs := plV a P.code.length b P.acs.length P.next c P.out.length) hb rfl
  generalize hh1 : h ++ [some (⟨plV a P.code.length b P.acs.length P.next c P.out.length, 70⟩ : Blk)] = h1 at o1 k1 q1
  obtain ⟨h2, e2, k2⟩ := specCodeOk_run (base := base) hM.2.1 hM.1 (hc.keepN k1) (by omega)
  have n2 := k2.1
  have k02 := kN k1 k2
  have o2 := o1.keepN k2
  have eI := l1In_run (base := base) (h := h2) (x := P.next) (a := 1) (b := 90000)
  obtain ⟨h3, e3, k3⟩ := l11Said_run (base := base) hM.2.2.2.2 (ho.keep k02 fun _ _ h => h) (by omega)
  have n3 := k3.1
  have k03 := kN k02 k3
  obtain ⟨h4, e4, k4⟩ := specPlainOk_loop (base := base) (pb := h.length) hM P.acs.length 0 h3 (by omega) (hs.keepN k03) (o2.keepN k3) (hc.keepN k03) (by omega)
  rw [show ((0 : Nat) : Int) = 0 from rfl] at e4
  unfold plOk
  have fin : ∀ (q : Bool) (hz : AH) {r : Value × AH}, (hq : (if (!codeOk P.code) = true then some (Sum.inl (([some (.pointer (at0 h.length)), some (.bool true)], h2))) else if (!inB P.next 1 90000) = true then some (Sum.inl (([some (.pointer (at0 h.length)), some (.bool true)], h2))) else if decide ((P.acs.length : Int) > 20) = true then some (Sum.inl (([some (.pointer (at0 h.length)), some (.bool true)], h2))) else some (Sum.inl (([some (.pointer (at0 h.length)), some (.bool (!saidOk f P.out))], h3)))) = some (Sum.inl (([some (.pointer (at0 h.length)), some (.bool q)], hz)) : Sum (Slots × AH) (Value × AH))) →
      (if q = true then some ((.bool false), hz) else (loopL (B41_0 base) [some (.pointer (at0 h.length)), some (.int .i64 (0 : Int))] hz).bind fun q15 => (if q15.1 = 1 then ((sget q15.2.1 0).bind getB).bind fun b16 => some ((.bool b16), q15.2.2) else (if q15.1 = 2 then some ((.bool true), q15.2.2) else none))) = some r → run (Et base) 41 [.agg (plV a P.code.length b P.acs.length P.next c P.out.length).toArray] h = some r := by
    intro q hz r hq hr
    refine r41 (lets fun y ey => ?_)
    rw [hh1] at ey
    rw [ey]
    refine bj (q := ([some (.pointer (at0 h.length)), some (.bool q)], hz)) ?_ (bs rfl (bB rfl hr))
    rw [← hq]
    refine bS (o1.at0 (i := 0) rfl) (bs e2 (bB rfl ?_))
    by_cases c1 : (!codeOk P.code) = true
    · rw [if_pos c1, if_pos c1]
    rw [if_neg c1, if_neg c1]
    refine bI (o2.at0 (i := 2) rfl) (bs eI (bB rfl ?_))
    by_cases c2 : (!inB P.next 1 90000) = true
    · rw [if_pos c2, if_pos c2]
    rw [if_neg c2, if_neg c2]
    refine bS (o2.at0 (i := 1) rfl) ?_
    by_cases c3 : decide ((P.acs.length : Int) > 20) = true
    · rw [if_pos c3, if_pos c3]
    rw [if_neg c3, if_neg c3]
    exact bS (o2.at0 (i := 3) rfl) (bs e3 (bB rfl rfl))
  by_cases c1 : codeOk P.code = true
  · rw [c1, Bool.true_and]
    by_cases c2 : inB P.next 1 90000 = true
    · rw [c2, Bool.true_and]
      by_cases c3 : (P.acs.length : Int) > 20
      · refine ⟨h2, fin true h2 (by rw [c1, c2]; simp [c3]) ?_, k02⟩
        simp [c3]
      · rw [decide_eq_true c3, Bool.true_and]
        by_cases c4 : saidOk f P.out = true
        · rw [c4, Bool.true_and]
          refine ⟨h4, fin false h3 (by rw [c1, c2, c4]; simp [c3]) (ifF (by decide) (bs e4 ?_)), kN k03 k4⟩
          cases anyA f P P.acs.length 0 with
          | true => exact ifT rfl (bB rfl rfl)
          | false => exact ifF (show ¬ (2 : Nat) = 1 by decide) (ifT rfl rfl)
        · refine ⟨h3, fin true h3 (by rw [c1, c2]; simp [c3, c4]) ?_, k03⟩
          simp [c4]
    · refine ⟨h2, fin true h2 (by rw [c1]; simp [c2]) ?_, k02⟩
      simp [c2]
  · refine ⟨h2, fin true h2 (by simp [c1]) ?_, k02⟩
    simp [c1]
end Go.Proofs.Ytnmjhhipbfngkaa.Am
