/- Is a system right: the program's answer; the law FnExactPlainOk.
Conditions: none. -/
import Derived.Test.YtnmjhhipbfngkaaPld
import Derived.Test.YtnmjhhipbfngkaaEnTm
set_option linter.unusedSimpArgs false
set_option linter.unusedVariables false
namespace Go.Proofs.Ytnmjhhipbfngkaa.Am
open Go Go.RowKit

theorem implBoth_loop {base f pb ab i : Nat} {p : Nat → Prop} {P : Pl} {a b c bb : Option Addr} {A : Ac} {x1 x2 g : Option Addr} {n : Nat} {v : Int} (hM : PlM P) (hA : A.links.length ≤ 9223372036854775807) : ∀ (d j : Nat) (h : AH), j + d = A.links.length → AsR h p f P.acs b → Own base 70 h (at0 pb) (plV a P.code.length b P.acs.length P.next c P.out.length) → Own base 29 h (at0 ab) (acV A.pid A.pc x1 A.regs.length x2 A.box.length g A.links.length) → Sl h g (iv .i64 A.links) → base ≤ h.length →
    ∃ h', loopL (B43_1 base) [some (.pointer (at0 pb)), some (.pointer (at0 ab)), some (.slice bb n n), some (.int .i64 v), some (.int .i64 (i : Int)), some (.slice g A.links.length A.links.length), some (.int .i64 (A.links.length : Int)), some (.int .i64 (j : Int))] h = some (if anyLk P.acs A.pid (A.links.drop j) = true then (1, [some (.bool false)], h') else (4, [some (.pointer (at0 pb)), some (.slice bb n n), some (.int .i64 v), some (.int .i64 (i : Int))], h')) ∧ KB NoB h h' := by
  intro d
  induction d with
  | zero =>
    intro j h hi hs oP oA hl hb
    refine ⟨h, ?_, KB.refl _ _⟩
    rw [List.drop_eq_nil_of_le (by omega), anyLk, if_neg (by decide)]
    refine loop_off (by decide) ?_
    rw [B43_1_eq]
    refine ifF ?_ rfl
    simp; omega
  | succ d ihd =>
    intro j h hi hs oP oA hl hb
    have hlt : j < A.links.length := by omega
    obtain ⟨gd, rfl, gl⟩ := int_get hl hlt
    obtain ⟨h2, e2, k2⟩ := at_run (base := base) (v := A.links[j]) hM.2.2.1 hs (oP.at0 (i := 1) rfl) hb
    have n2 := k2.1
    rw [List.drop_eq_getElem_cons hlt, anyLk]
    have head : ∀ {r : Option (Nat × Slots × AH)}, (if badLk P.acs A.pid A.links[j] = true then some (1, [some (.bool false)], h2) else some (0, [some (.pointer (at0 pb)), some (.pointer (at0 ab)), some (.slice bb n n), some (.int .i64 v), some (.int .i64 (i : Int)), some (.slice (some gd) A.links.length A.links.length), some (.int .i64 (A.links.length : Int)), some (.int .i64 (IntKind.wrap .i64 ((j : Int) + (1 : Int))))], h2)) = r → B43_1 base [some (.pointer (at0 pb)), some (.pointer (at0 ab)), some (.slice bb n n), some (.int .i64 v), some (.int .i64 (i : Int)), some (.slice (some gd) A.links.length A.links.length), some (.int .i64 (A.links.length : Int)), some (.int .i64 (j : Int))] h = r := by
      intro r hr
      rw [B43_1_eq]
      refine ifT (decide_eq_true (by omega)) (ifT ⟨by omega, by omega⟩ (bs rfl ?_))
      simp only [Int.toNat_natCast]
      refine bI gl (bs e2 (bI rfl ?_))
      refine bj (q := ([some (.pointer (at0 pb)), some (.pointer (at0 ab)), some (.slice bb n n), some (.int .i64 v), some (.int .i64 (i : Int)), some (.slice (some gd) A.links.length A.links.length), some (.int .i64 (A.links.length : Int)), some (.int .i64 (j : Int)), some (.bool (badLk P.acs A.pid A.links[j]))], h2)) ?_ (bs rfl (bs rfl (bS rfl (bI rfl (bI rfl (bS rfl (bI rfl (bI rfl (bB rfl hr)))))))))
      unfold badLk
      by_cases cc : atL A.links[j] 0 P.acs ≥ 0
      · rw [decide_eq_true cc, if_pos rfl, if_pos rfl]
        have hlt2 : atL A.links[j] 0 P.acs < (P.acs.length : Int) := by
          rcases atL_lt A.links[j] P.acs 0 with h | ⟨_, h⟩ <;> omega
        have hn : (atL A.links[j] 0 P.acs).toNat < P.acs.length := by omega
        obtain ⟨ad, u1, u2, u3, rfl, _, y0, y1, y2, y3, y4, _, ym⟩ := (hs.keepN k2).get hn
        have eh := hasInt_run (base := base) (v := A.pid) (h := h2) (by have := (hM.2.2.2.1 _ (List.getElem_mem hn)).2.2; omega) ym
        rw [aD hn]
        exact bS ((oP.keepN k2).at0 (i := 1) rfl) (ifT ⟨cc, hlt2⟩ (bs rfl (bS y4 (bI ((oA.keepN k2).at0 (i := 0) rfl) (bs eh (bB rfl rfl))))))
      · rw [decide_eq_false cc, if_neg (by decide), if_neg (by decide)]
    cases cb : badLk P.acs A.pid A.links[j] with
    | true =>
      refine ⟨h2, ?_, k2⟩
      rw [Bool.true_or, if_pos rfl]
      exact loop_off (by decide) (head (by rw [cb]; exact ifT rfl rfl))
    | false =>
      rw [Bool.false_or]
      obtain ⟨h4, y1, y2⟩ := ihd (j + 1) h2 (by omega) (hs.keepN k2) (oP.keepN k2) (oA.keepN k2) (hl.keepN k2) (by omega)
      refine ⟨h4, loop_on (head ?_) y1, kN k2 y2⟩
      rw [cb, w64i (n := (j : Int) + 1) (by omega) (by omega)]
      exact ifF (by decide) rfl

theorem implPlainOk_loop {base f pb : Nat} {p : Nat → Prop} {P : Pl} {a b c : Option Addr} (hM : PlM P) : ∀ (d i : Nat) (h : AH), i + d = P.acs.length → AsR h p f P.acs b → Own base 70 h (at0 pb) (plV a P.code.length b P.acs.length P.next c P.out.length) → Sl h a (insR P.code) → base ≤ h.length →
    ∃ h', loopL (B43_0 base) [some (.pointer (at0 pb)), some (.slice b P.acs.length P.acs.length), some (.int .i64 (P.acs.length : Int)), some (.int .i64 (i : Int))] h = some (if anyA f P d i = true then (1, [some (.bool false)], h') else (2, [], h')) ∧ KB NoB h h' := by
  intro d
  have l1 := hM.1
  have l3 := hM.2.2.1
  induction d with
  | zero =>
    intro i h hi hs oP hc hb
    refine ⟨h, ?_, KB.refl _ _⟩
    rw [anyA, if_neg (by decide)]
    refine loop_off (by decide) ?_
    rw [B43_0_eq]
    refine ifF ?_ rfl
    simp; omega
  | succ d ihd =>
    intro i h hi hs oP hc hb
    have hlt : i < P.acs.length := by omega
    obtain ⟨ad, x1, x2, x3, rfl, _, g0, g1, g2, g3, g4, hm, hl⟩ := hs.get hlt
    obtain ⟨o1, k1, q1⟩ := box_own (base := base) (t := 29) (h := h) (cs := acV P.acs[i].pid P.acs[i].pc x1 P.acs[i].regs.length x2 P.acs[i].box.length x3 P.acs[i].links.length) hb rfl
    generalize hh1 : h ++ [some (⟨acV P.acs[i].pid P.acs[i].pc x1 P.acs[i].regs.length x2 P.acs[i].box.length x3 P.acs[i].links.length, 29⟩ : Blk)] = h1 at o1 k1 q1
    obtain ⟨h2, e2, k2⟩ := implActorOk_run (base := base) hM.2.1 l1 (hc.keepN k1) (hM.2.2.2.1 _ (List.getElem_mem hlt)) (hm.keep k1 fun _ _ h => h) (by omega)
    have n2 := k2.1
    have k02 := kN k1 k2
    have oP1 := oP.keepN k1
    have oP2 := oP1.keepN k2
    have o2 := o1.keepN k2
    obtain ⟨h3, e3, k3⟩ := implBoth_loop (base := base) (i := i) (bb := some ad) (n := P.acs.length) (v := (P.acs.length : Int)) hM (hM.2.2.2.1 _ (List.getElem_mem hlt)).2.2 P.acs[i].links.length 0 h2 (by omega) (hs.keepN k02) oP2 o2 (hl.keepN k02) (by omega)
    rw [List.drop_zero, show ((0 : Nat) : Int) = 0 from rfl] at e3
    have n3 := k3.1
    have mid : ∀ {r : Option (Nat × Slots × AH)}, (if preA f P i = true then some (1, [some (.bool false)], h2) else
        (loopL (B43_1 base) [some (.pointer (at0 pb)), some (.pointer (at0 h.length)), some (.slice (some ad) P.acs.length P.acs.length), some (.int .i64 (P.acs.length : Int)), some (.int .i64 (i : Int)), some (.slice x3 P.acs[i].links.length P.acs[i].links.length), some (.int .i64 (P.acs[i].links.length : Int)), some (.int .i64 (0 : Int))] h2).bind fun q31 =>
        (if q31.1 = 1 then ((sget q31.2.1 0).bind getB).bind fun b32 => some (1, [some (.bool b32)], q31.2.2)
        else (if q31.1 = 4 then ((sget q31.2.1 0).bind getA).bind fun d33 => ((sget (q31.2.1.tail) 0).bind getS).bind fun l34 => ((sget (q31.2.1.tail.tail) 0).bind (getI .i64)).bind fun n35 => ((sget (q31.2.1.tail.tail.tail) 0).bind (getI .i64)).bind fun n36 => some (0, [some (.pointer (some d33)), some (.slice l34.1 l34.2 l34.2), some (.int .i64 n35), some (.int .i64 (IntKind.wrap .i64 (n36 + (1 : Int))))], q31.2.2) else none))) = r →
        B43_0 base [some (.pointer (at0 pb)), some (.slice (some ad) P.acs.length P.acs.length), some (.int .i64 (P.acs.length : Int)), some (.int .i64 (i : Int))] h = r := by
      intro r hr
      rw [B43_0_eq]
      refine ifT (decide_eq_true (by omega)) (ifT ⟨by omega, by omega⟩ (bs rfl ?_))
      simp only [Int.toNat_natCast]
      refine bI g0 (bI g1 (bS g2 (bS g3 (bS g4 (nw hb rfl fun y ey => ?_)))))
      rw [hh1] at ey
      rw [ey]
      refine bj (q := ([some (.pointer (at0 pb)), some (.pointer (at0 h.length)), some (.slice (some ad) P.acs.length P.acs.length), some (.int .i64 (P.acs.length : Int)), some (.int .i64 (i : Int)), some (.bool (preA f P i))], h2)) ?_ (bs rfl (bs rfl (bS rfl (bI rfl (bI rfl (bB rfl ?_))))))
      · refine bS (oP1.at0 (i := 0) rfl) (bI (o1.at0 (i := 0) rfl) (bI (o1.at0 (i := 1) rfl) (bS (o1.at0 (i := 2) rfl) (bS (o1.at0 (i := 3) rfl) (bS (o1.at0 (i := 4) rfl) (bs e2 (bB rfl ?_)))))))
        unfold preA
        rw [aD hlt]
        by_cases c1 : (!acOk f P.code P.acs[i]) = true
        · rw [if_pos c1, if_pos c1]
        rw [if_neg c1, if_neg c1]
        refine bI (o2.at0 (i := 0) rfl) (bI (oP2.at0 (i := 2) rfl) ?_)
        by_cases c2 : decide (P.acs[i].pid ≥ P.next) = true
        · rw [if_pos c2, if_pos c2]
        rw [if_neg c2, if_neg c2]
        by_cases c3 : (i : Int) > 0
        · have hw : IntKind.wrap .i64 ((i : Int) - (1 : Int)) = ((i - 1 : Nat) : Int) := by rw [w64i (by omega) (by omega)]; omega
          have hp1 : i - 1 < P.acs.length := by omega
          obtain ⟨ad2, u1, u2, u3, ee, _, y0, _, _, _, _, _, _⟩ := (hs.keepN k02).get hp1
          injection ee with ee
          subst ee
          rw [aD hp1, decide_eq_true c3, hw, if_pos rfl, if_pos rfl]
          refine bS (oP2.at0 (i := 1) rfl) (ifT ⟨by omega, by omega⟩ (bs rfl ?_))
          simp only [Int.toNat_natCast]
          exact bI y0 (bI (o2.at0 (i := 0) rfl) rfl)
        · rw [decide_eq_false c3, if_neg (by decide), if_neg (by decide)]
      · by_cases cp : preA f P i = true
        · rw [if_pos cp] at hr ⊢
          exact hr
        · rw [if_neg cp] at hr ⊢
          exact bS (o2.at0 (i := 4) rfl) hr
    rw [anyA]
    unfold badA
    rw [aD hlt]
    by_cases cp : preA f P i = true
    · refine ⟨h2, ?_, k02⟩
      rw [if_pos cp, Bool.true_or, if_pos rfl]
      exact loop_off (by decide) (mid (ifT cp rfl))
    rw [if_neg cp]
    cases cb : anyLk P.acs P.acs[i].pid P.acs[i].links with
    | true =>
      rw [cb, if_pos rfl] at e3
      refine ⟨h3, ?_, kN k02 k3⟩
      rw [Bool.true_or, if_pos rfl]
      exact loop_off (by decide) (mid (ifF cp (bs e3 (ifT rfl (bB rfl rfl)))))
    | false =>
      rw [cb, if_neg (by decide)] at e3
      rw [Bool.false_or]
      have k03 := kN k02 k3
      obtain ⟨h4, y1, y2⟩ := ihd (i + 1) h3 (by omega) (hs.keepN k03) (oP.keepN k03) (hc.keepN k03) (by omega)
      refine ⟨h4, loop_on (mid (ifF cp (bs e3 (ifF (show ¬ (4 : Nat) = 1 by decide) (ifT rfl (bs rfl (bS rfl (bI rfl (bI rfl ?_))))))))) y1, kN k03 y2⟩
      rw [w64i (n := (i : Int) + 1) (by omega) (by omega)]
      rfl
theorem implPlainOk_run {base f : Nat} {h : AH} {p : Nat → Prop} {P : Pl} {cs : List Value} (hM : PlM P) (x : PlR h p f P cs) (hb : base ≤ h.length) :
    ∃ h', run (Et base) 43 [.agg cs.toArray] h = some (.bool (plOk f P), h') ∧ KB NoB h h' := by
  obtain ⟨a, b, c, rfl, hc, _, hs, ho⟩ := x
  obtain ⟨o1, k1, q1⟩ := box_own (base := base) (t := 70) (h := h) (cs := plV a P.code.length b P.acs.length P.next c P.out.length) hb rfl
  generalize hh1 : h ++ [some (⟨plV a P.code.length b P.acs.length P.next c P.out.length, 70⟩ : Blk)] = h1 at o1 k1 q1
  obtain ⟨h2, e2, k2⟩ := implCodeOk_run (base := base) hM.2.1 hM.1 (hc.keepN k1) (by omega)
  have n2 := k2.1
  have k02 := kN k1 k2
  have o2 := o1.keepN k2
  have eI := in_run (base := base) (h := h2) (x := P.next) (a := 1) (b := 90000)
  obtain ⟨h3, e3, k3⟩ := outOk_run (base := base) hM.2.2.2.2 (ho.keep k02 fun _ _ h => h) (by omega)
  have n3 := k3.1
  have k03 := kN k02 k3
  have o3 := o2.keepN k3
  obtain ⟨h4, e4, k4⟩ := implPlainOk_loop (base := base) (pb := h.length) hM P.acs.length 0 h3 (by omega) (hs.keepN k03) o3 (hc.keepN k03) (by omega)
  rw [show ((0 : Nat) : Int) = 0 from rfl] at e4
  unfold plOk
  have fin : ∀ (q : Bool) (hz : AH) {r : Value × AH}, (hq : (if (!codeOk P.code) = true then some (Sum.inl (([some (.pointer (at0 h.length)), some (.bool true)], h2))) else if decide ((P.acs.length : Int) > 20) = true then some (Sum.inl (([some (.pointer (at0 h.length)), some (.bool true)], h2))) else if (!inB P.next 1 90000) = true then some (Sum.inl (([some (.pointer (at0 h.length)), some (.bool true)], h2))) else some (Sum.inl (([some (.pointer (at0 h.length)), some (.bool (!saidOk f P.out))], h3)))) = some (Sum.inl (([some (.pointer (at0 h.length)), some (.bool q)], hz)) : Sum (Slots × AH) (Value × AH))) →
      (if q = true then some ((.bool false), hz) else ((cell hz h.length 1).bind getS).bind fun l15 => (loopL (B43_0 base) [some (.pointer (at0 h.length)), some (.slice l15.1 l15.2 l15.2), some (.int .i64 ((l15.2 : Nat) : Int)), some (.int .i64 (0 : Int))] hz).bind fun q15 => (if q15.1 = 1 then ((sget q15.2.1 0).bind getB).bind fun b16 => some ((.bool b16), q15.2.2) else (if q15.1 = 2 then some ((.bool true), q15.2.2) else none))) = some r → run (Et base) 43 [.agg (plV a P.code.length b P.acs.length P.next c P.out.length).toArray] h = some r := by
    intro q hz r hq hr
    refine r43 (lets fun y ey => ?_)
    rw [hh1] at ey
    rw [ey]
    refine bj (q := ([some (.pointer (at0 h.length)), some (.bool q)], hz)) ?_ (bs rfl (bB rfl hr))
    rw [← hq]
    refine bS (o1.at0 (i := 0) rfl) (bs e2 (bB rfl ?_))
    by_cases c1 : (!codeOk P.code) = true
    · rw [if_pos c1, if_pos c1]
    rw [if_neg c1, if_neg c1]
    refine bS (o2.at0 (i := 1) rfl) ?_
    by_cases c3 : decide ((P.acs.length : Int) > 20) = true
    · rw [if_pos c3, if_pos c3]
    rw [if_neg c3, if_neg c3]
    refine bI (o2.at0 (i := 2) rfl) (bs eI (bB rfl ?_))
    by_cases c2 : (!inB P.next 1 90000) = true
    · rw [if_pos c2, if_pos c2]
    rw [if_neg c2, if_neg c2]
    exact bS (o2.at0 (i := 3) rfl) (bs e3 (bB rfl rfl))
  by_cases c1 : codeOk P.code = true
  · rw [c1, Bool.true_and]
    by_cases c3 : (P.acs.length : Int) > 20
    · refine ⟨h2, fin true h2 (by rw [c1]; simp [c3]) ?_, k02⟩
      simp [c3]
    by_cases c2 : inB P.next 1 90000 = true
    · rw [c2, Bool.true_and, decide_eq_true c3, Bool.true_and]
      by_cases c4 : saidOk f P.out = true
      · rw [c4, Bool.true_and]
        refine ⟨h4, fin false h3 (by rw [c1, c2, c4]; simp [c3]) (ifF (by decide) (bS (o3.at0 (i := 1) rfl) (bs e4 ?_))), kN k03 k4⟩
        cases anyA f P P.acs.length 0 with
        | true => exact ifT rfl (bB rfl rfl)
        | false => exact ifF (show ¬ (2 : Nat) = 1 by decide) (ifT rfl rfl)
      · refine ⟨h3, fin true h3 (by rw [c1, c2]; simp [c3, c4]) ?_, k03⟩
        simp [c4]
    · refine ⟨h2, fin true h2 (by rw [c1]; simp [c2, c3]) ?_, k02⟩
      simp [c2]
  · refine ⟨h2, fin true h2 (by simp [c1]) ?_, k02⟩
    simp [c1]

theorem qP {base t n : Nat} {h : AH} {a b g : Option Addr} {x y z : Nat} {v : Int} (o : Own base t h (at0 n) (plV a x b y v g z)) {β : Type} {f : Option Addr × Nat → Option Addr × Nat → Int → Option Addr × Nat → Option β} {r : Option β} (hf : f (a, x) (b, y) v (g, z) = r) :
    (((Am.cell h n 0).bind getS).bind fun l1 => ((Am.cell h n 1).bind getS).bind fun l2 => ((Am.cell h n 2).bind (getI .i64)).bind fun n3 => ((Am.cell h n 3).bind getS).bind fun l4 => f l1 l2 n3 l4) = r :=
  bS (o.at0 (i := 0) rfl) (bS (o.at0 (i := 1) rfl) (bI (o.at0 (i := 2) rfl) (bS (o.at0 (i := 3) rfl) hf)))

theorem plainOk_law {base f : Nat} {h : AH} {p : Nat → Prop} {P : Pl} {cs : List Value} (hM : PlM P) (x : PlR h p f P cs) (hb : base ≤ h.length) (hp : ∀ b, p b → b < h.length) :
    ∃ h', run (Et base) 8 [.agg cs.toArray] h = some (.bool true, h') := by
  have x0 := x
  obtain ⟨a, b, g, rfl, _, _, _, _⟩ := x0
  generalize hcs : plV a P.code.length b P.acs.length P.next g P.out.length = ca at x
  have lt : ∀ {y : AH}, h.length ≤ y.length → ∀ b, p b → b < y.length := fun hx b hbp => by have := hp b hbp; omega
  obtain ⟨o1, k1, q1⟩ := box_own (base := base) (t := 64) (h := h) (cs := ca) hb rfl
  generalize hh1 : h ++ [some (⟨ca, 64⟩ : Blk)] = h1 at o1 k1 q1
  obtain ⟨z, h2, e2, k2, hz⟩ := szPlain_run (base := base) hM (x.keepN k1) (by omega) (lt (by omega))
  have n2 := k2.1
  rw [← hcs] at o1
  have hh1' : h ++ [some (⟨plV a P.code.length b P.acs.length P.next g P.out.length, 64⟩ : Blk)] = h1 := by rw [hcs]; exact hh1
  by_cases hneg : z < 0
  · refine ⟨h2, ?_⟩
    rw [← hcs]
    refine r8 (lets fun y ey => ?_)
    rw [show y = h1 from ey.trans hh1']
    refine qP o1 ?_
    rw [← hcs] at e2
    exact bs e2 (bI rfl (ifT (decide_eq_true hneg) rfl))
  obtain ⟨hB, _⟩ := hz hneg
  have hL : ∀ A ∈ P.acs, A.Le := fun A hA => (hB.2.2.2.1 A hA).Le
  have k02 := kN k1 k2
  obtain ⟨c3, h3, e3, d3, k3⟩ := toPlain_run (base := base) hB (x.keepN k02) (by omega) (lt k02.1)
  have n3 := k3.1
  have k03 := kN k02 k3
  obtain ⟨h4, e4, k4⟩ := specPlainOk_run (base := base) hM d3.plR (by omega)
  have n4 := k4.1
  have k04 := kN k03 k4
  obtain ⟨c5, h5, e5, d5, k5⟩ := toPlain_run (base := base) hB (x.keepN k04) (by omega) (lt k04.1)
  have n5 := k5.1
  have k05 := kN k04 k5
  obtain ⟨o6, k6, q6⟩ := box_own (base := base) (t := 70) (h := h5) (cs := c5) (by omega) rfl
  generalize hh6 : h5 ++ [some (⟨c5, 70⟩ : Blk)] = h6 at o6 k6 q6
  have d6 := (d5.plR).keepN k6
  obtain ⟨h7, e7, k7⟩ := implPlainOk_run (base := base) hM d6 (by omega)
  have n7 := k7.1
  have k07 := kN (kN k05 k6) k7
  obtain ⟨c8, h8, e8, d8, k8⟩ := toPlain_run (base := base) hB (x.keepN k07) (by omega) (lt k07.1)
  have n8 := k8.1
  obtain ⟨h9, e9, k9⟩ := eqPlain_run (base := base) hM hL ((d6.keepN k7).keepN k8) d8.plR (by omega)
  obtain ⟨a3, s3, b3, t3, v3, g3, w3, rfl⟩ := d3.form
  obtain ⟨a5, s5, b5, t5, v5, g5, w5, rfl⟩ := d5.form
  obtain ⟨a8, s8, b8, t8, v8, g8, w8, rfl⟩ := d8.form
  have p2 := o1.keepN k2
  have p4 := (p2.keepN k3).keepN k4
  have p7 := ((p4.keepN k5).keepN k6).keepN k7
  have o7 := o6.keepN k7
  refine ⟨h9, ?_⟩
  rw [← hcs]
  refine r8 (lets fun y ey => ?_)
  rw [show y = h1 from ey.trans hh1']
  rw [← hcs] at e2 e3 e5 e8
  refine qP o1 (bs e2 (bI rfl (ifF (by simpa using hneg) ?_)))
  refine qP p2 (bs e3 (bs (v := plV a3 s3 b3 t3 v3 g3 w3) rfl (bS rfl (bS rfl (bI rfl (bS rfl (bs e4 (bB rfl ?_))))))))
  refine qP p4 (bs e5 (bs (v := plV a5 s5 b5 t5 v5 g5 w5) rfl (bS rfl (bS rfl (bI rfl (bS rfl (nw (show base ≤ h5.length by omega) rfl fun y ey => ?_)))))))
  rw [hh6] at ey
  rw [ey]
  refine qP o6 (bs e7 (bB rfl (ifF (by simp) ?_)))
  refine qP o7 (qP p7 (bs e8 (bs (v := plV a8 s8 b8 t8 v8 g8 w8) rfl (bS rfl (bS rfl (bI rfl (bS rfl ?_)))))))
  rw [gate_pos (same_keep k8 (o7.at0 (i := 0) rfl))]
  exact bs e9 (bB rfl (ifF (by decide) rfl))

/-! as it is read -/
theorem TsR.le {h : AH} {p : Nat → Prop} {f f' : Nat} (hf : f ≤ f') {l : List Tm} {a : Option Addr} (x : TsR h p f l a) : TsR h p f' l a := by
  obtain ⟨vs, h1, h2, h3, h4⟩ := x
  exact ⟨vs, h1, h2, h3, fun i y hy => (h4 i y hy).le hf⟩
theorem AcR.le {h : AH} {p : Nat → Prop} {f f' : Nat} (hf : f ≤ f') {A : Ac} {cs : List Value} (x : AcR h p f A cs) : AcR h p f' A cs := by
  obtain ⟨a, b, g, e, h1, h2, h3⟩ := x
  exact ⟨a, b, g, e, h1.le hf, h2.le hf, h3⟩
theorem AsR.le {h : AH} {p : Nat → Prop} {f f' : Nat} (hf : f ≤ f') {l : List Ac} {a : Option Addr} (x : AsR h p f l a) : AsR h p f' l a := by
  obtain ⟨vs, h1, h2, h3, h4⟩ := x
  exact ⟨vs, h1, h2, h3, fun i y hy => (h4 i y hy).le hf⟩
set_option maxRecDepth 100000 in
theorem rd_actorF {h : AH} {f : Nat} {cs : List Value} (x : Rd Try.prog h f 56 cs) : ∃ A, AcR h (· < h.length) f A cs ∧ AcM A := by
  have cA : Try.prog.cellsOf 56 = 5 := by kernel_rfl
  have c3 : Try.prog.cellsOf 3 = 1 := by kernel_rfl
  have cT : Try.prog.cellsOf 22 = 1 := by kernel_rfl
  have cI : Try.prog.cellsOf 27 = 1 := by kernel_rfl
  match f, x with
  | 0, x => exact x.elim
  | f + 1, x =>
    simp only [Rd, Try.underlying56] at x
    obtain ⟨hl, hf⟩ := x
    rw [cA] at hl
    match cs, hl with
    | [v0, v1, v2, v3, v4], _ =>
      simp only [List.forall_mem_cons, c3, cT, cI, List.drop_zero, List.drop_succ_cons, List.take_succ_cons, List.take_zero] at hf
      obtain ⟨f0, f1, f2, f3, f4, _⟩ := hf
      obtain ⟨n0, e0, _⟩ := f0.int Try.underlying3
      obtain ⟨n1, e1, _⟩ := f1.int Try.underlying3
      injection e0 with e0 _
      injection e1 with e1 _
      subst e0; subst e1
      obtain ⟨a, R, rfl, m2, s2⟩ := rd_terms f2
      obtain ⟨b, B, rfl, m3, s3⟩ := rd_terms f3
      obtain ⟨g, L, e4, m4, s4, _⟩ := f4.ints Try.underlying27 Try.underlying3 c3
      injection e4 with e4 _
      subst e4
      simp only [maxLen] at m2 m3 m4
      refine ⟨⟨n0, n1, R, B, L⟩, AcR.le (f := f) (by omega) ⟨a, b, g, rfl, s2, s3, s4, ?_⟩, by simp only; omega, by simp only; omega, by simp only; omega⟩
      rcases sl_below s4 with e | e
      · exact .inl (by simpa [iv] using e)
      · exact .inr e
set_option maxRecDepth 100000 in
theorem rd_actors {h : AH} {f : Nat} {v : Value} (x : Rd Try.prog h f 61 [v]) : ∃ a l, v = .slice a (List.length l) (List.length l) ∧ l.length ≤ maxLen ∧ AsR h (· < h.length) f l a ∧ ∀ A ∈ l, AcM A := by
  have cS : Try.prog.cellsOf 56 = 5 := by kernel_rfl
  match f, x with
  | 0, x => exact x.elim
  | f + 1, x =>
    simp only [Rd, Try.underlying61] at x
    obtain ⟨a, n, vs, e, h2, h3, h4, h5⟩ := x
    injection e with e _
    subst e
    rw [cS] at h4 h5
    have each : ∀ i, i < n → ∃ A : Ac, AcR h (· < h.length) f A ((vs.drop (i * 5)).take 5) ∧ AcM A := fun i hi => rd_actorF (h5 i hi)
    let g : Nat → Ac := fun i => if hi : i < n then (each i hi).choose else a0
    have hg : ∀ i, i < n → AcR h (· < h.length) f (g i) ((vs.drop (i * 5)).take 5) ∧ AcM (g i) := by
      intro i hi
      simp only [g, hi, dite_true]
      exact (each i hi).choose_spec
    refine ⟨a, (List.range n).map g, by simp, by simpa using h2, ⟨vs, h3, sl_below h3, by simpa using h4, fun i t hi => ?_⟩, fun A hA => ?_⟩
    · have hlt : i < n := by have := (List.getElem?_eq_some_iff.1 hi).1; simpa using this
      simp [hlt] at hi
      subst hi
      exact (hg i hlt).1.le (by omega)
    · obtain ⟨i, hi, rfl⟩ := List.mem_map.1 hA
      exact (hg i (by simpa using hi)).2
set_option maxRecDepth 100000 in
theorem rd_plain {h : AH} {f : Nat} {cs : List Value} (x : Rd Try.prog h f 64 cs) : ∃ g P, PlR h (· < h.length) g P cs ∧ PlM P := by
  have cP : Try.prog.cellsOf 64 = 4 := by kernel_rfl
  have c3 : Try.prog.cellsOf 3 = 1 := by kernel_rfl
  have cI : Try.prog.cellsOf 39 = 1 := by kernel_rfl
  have cA : Try.prog.cellsOf 61 = 1 := by kernel_rfl
  have cS : Try.prog.cellsOf 62 = 1 := by kernel_rfl
  match f, x with
  | 0, x => exact x.elim
  | f + 1, x =>
    simp only [Rd, Try.underlying64] at x
    obtain ⟨hl, hf⟩ := x
    rw [cP] at hl
    match cs, hl with
    | [v0, v1, v2, v3], _ =>
      simp only [List.forall_mem_cons, c3, cI, cA, cS, List.drop_zero, List.drop_succ_cons, List.take_succ_cons, List.take_zero] at hf
      obtain ⟨f0, f1, f2, f3, _⟩ := hf
      obtain ⟨a, code, rfl, m0, s0, z0⟩ := rd_ins f0
      obtain ⟨b, acs, rfl, m1, s1, z1⟩ := rd_actors f1
      obtain ⟨n2, e2, _⟩ := f2.int Try.underlying3
      injection e2 with e2 _
      subst e2
      obtain ⟨g, c, out, rfl, m3, s3⟩ := rd_saids f3
      simp only [maxLen] at m0 m1 m3 z0
      refine ⟨f + g, ⟨code, acs, n2, out⟩, ⟨a, b, c, rfl, s0, sl_below s0, s1.le (by omega), s3.le (by omega)⟩, by simp only; omega, fun x hx => by have := z0 x hx; omega, by simp only; omega, z1, by simp only; omega⟩
theorem plainOk_entry {base : Nat} {h : AH} {f : Nat} {cs : List Value} (x : Rd Try.prog h f 64 cs) (hb : base ≤ h.length) : ∃ h', run (Et base) 8 [.agg cs.toArray] h = some (.bool true, h') := by
  obtain ⟨g, P, hP, hM⟩ := rd_plain x
  exact plainOk_law hM hP hb fun b hb => hb
end Go.Proofs.Ytnmjhhipbfngkaa.Am
