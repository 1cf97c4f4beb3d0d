/- Is an actor right: the program's answer is the reference's; the law FnExactActorOk.
Conditions: none. -/
import Derived.Test.YtnmjhhipbfngkaaAo
import Derived.Test.YtnmjhhipbfngkaaCo3
import Derived.Test.YtnmjhhipbfngkaaEnI
import Derived.Test.YtnmjhhipbfngkaaEnT
set_option linter.unusedSimpArgs false
set_option linter.unusedVariables false
namespace Go.Proofs.Ytnmjhhipbfngkaa.Am
open Go Go.RowKit

theorem TsR.getT {h : AH} {p : Nat → Prop} {f : Nat} {l : List Tm} {a : Option Addr} (x : TsR h p f l a) {i : Nat} (hi : i < l.length) :
    ∃ ad k n s a2 m, a = some ad ∧ Am.cell h ad.block (ad.off + i * 4) = some (.int .i64 k) ∧ Am.cell h ad.block (ad.off + i * 4 + 1) = some (.int .i64 n) ∧ Am.cell h ad.block (ad.off + i * 4 + 1 + 1) = some (.string s) ∧ Am.cell h ad.block (ad.off + i * 4 + 1 + 1 + 1) = some (.slice a2 m m) ∧ TmR h p f l[i] (termV k n s a2 m) := by
  obtain ⟨ad, c0, c1, c2, c3, e, g0, g1, g2, g3, hm⟩ := x.get hi
  obtain ⟨k, n, s, a2, m, e2⟩ := hm.form
  injection e2 with q0 e2
  injection e2 with q1 e2
  injection e2 with q2 e2
  injection e2 with q3 _
  subst q0; subst q1; subst q2; subst q3
  exact ⟨ad, k, n, s, a2, m, e, g0, g1, g2, g3, hm⟩
def tsB (f : Nat) : List Tm → Bool
  | [] => true
  | t :: r => tOk f t && tsB f r
theorem l9Terms_loop {base f : Nat} {p : Nat → Prop} {l : List Tm} {a : Option Addr} (hl : l.length ≤ 9223372036854775807) : ∀ (d i : Nat) (h : AH), i + d = l.length → TsR h p f l a → base ≤ h.length →
    ∃ h', loopL (B90_0 base) [some (.slice a l.length l.length), some (.int .i64 (i : Int))] h = some (if tsB f (l.drop i) = true then (2, [], h') else (1, [some (.bool false)], h')) ∧ KB NoB h h' := by
  intro d
  induction d with
  | zero =>
    intro i h hi hs hb
    refine ⟨h, ?_, KB.refl _ _⟩
    rw [List.drop_eq_nil_of_le (by omega), show tsB f [] = true from rfl, if_pos rfl]
    refine loop_off (by decide) ?_
    rw [B90_0_eq]
    exact ifF (by simp; omega) rfl
  | succ d ihd =>
    intro i h hi hs hb
    have hlt : i < l.length := by omega
    obtain ⟨ad, k, n, s, a2, m, rfl, g0, g1, g2, g3, hm⟩ := hs.getT hlt
    obtain ⟨h2, e2, k2⟩ := specTermOk_run (base := base) hm hb
    have n2 := k2.1
    rw [List.drop_eq_getElem_cons hlt, tsB]
    have head : ∀ {r : Option (Nat × Slots × AH)}, (if (!tOk f l[i]) = true then some (1, [some (.bool false)], h2) else some (0, [some (.slice (some ad) l.length l.length), some (.int .i64 (IntKind.wrap .i64 ((i : Int) + (1 : Int))))], h2)) = r → B90_0 base [some (.slice (some ad) l.length l.length), some (.int .i64 (i : Int))] h = r := by
      intro r hr
      rw [B90_0_eq]
      refine ifT (decide_eq_true (by omega)) (ifT ⟨by omega, by omega⟩ (bs rfl ?_))
      simp only [Int.toNat_natCast]
      exact bI g0 (bI g1 (bT g2 (bS g3 (bs e2 (bB rfl hr)))))
    cases c : tOk f l[i] with
    | false =>
      refine ⟨h2, ?_, k2⟩
      rw [Bool.false_and, if_neg (by decide)]
      exact loop_off (by decide) (head (by rw [c]; exact ifT rfl rfl))
    | true =>
      rw [Bool.true_and]
      obtain ⟨h3, y1, y2⟩ := ihd (i + 1) h2 (by omega) (hs.keep k2 fun _ _ h => h) (by omega)
      refine ⟨h3, loop_on (head ?_) y1, kN k2 y2⟩
      rw [c, w64i (n := (i : Int) + 1) (by omega) (by omega)]
      exact ifF (by decide) rfl
theorem l9Terms_run {base f : Nat} {h : AH} {p : Nat → Prop} {l : List Tm} {a : Option Addr} (hl : l.length ≤ 9223372036854775807) (hs : TsR h p f l a) (hb : base ≤ h.length) : ∃ h', run (Et base) 90 [.slice a l.length l.length] h = some (.bool (tsB f l), h') ∧ KB NoB h h' := by
  obtain ⟨h1, e1, k1⟩ := l9Terms_loop (base := base) hl l.length 0 h (by omega) hs hb
  rw [List.drop_zero, show ((0 : Nat) : Int) = 0 from rfl] at e1
  refine ⟨h1, ?_, k1⟩
  cases c : tsB f l with
  | false =>
    rw [c, if_neg (by decide)] at e1
    exact r90 (bs e1 (ifT rfl (bB rfl rfl)))
  | true =>
    rw [c, if_pos rfl] at e1
    exact r90 (bs e1 (ifF (show ¬ (2 : Nat) = 1 by decide) (ifT rfl rfl)))
theorem termsOk_loop {base f : Nat} {p : Nat → Prop} {l : List Tm} {a : Option Addr} (hl : l.length ≤ 9223372036854775807) : ∀ (d i : Nat) (h : AH), i + d = l.length → TsR h p f l a → base ≤ h.length →
    ∃ h', loopL (B93_0 base) [some (.slice a l.length l.length), some (.int .i64 (l.length : Int)), some (.int .i64 (i : Int))] h = some (if tsB f (l.drop i) = true then (2, [], h') else (1, [some (.bool false)], h')) ∧ KB NoB h h' := by
  intro d
  induction d with
  | zero =>
    intro i h hi hs hb
    refine ⟨h, ?_, KB.refl _ _⟩
    rw [List.drop_eq_nil_of_le (by omega), show tsB f [] = true from rfl, if_pos rfl]
    refine loop_off (by decide) ?_
    rw [B93_0_eq]
    exact ifF (by simp; omega) rfl
  | succ d ihd =>
    intro i h hi hs hb
    have hlt : i < l.length := by omega
    obtain ⟨ad, k, n, s, a2, m, rfl, g0, g1, g2, g3, hm⟩ := hs.getT hlt
    obtain ⟨o1, k1, q1⟩ := box_own (base := base) (t := 32) (h := h) (cs := termV k n s a2 m) hb rfl
    generalize hh1 : h ++ [some (⟨termV k n s a2 m, 32⟩ : Blk)] = h1 at o1 k1 q1
    obtain ⟨h2, e2, k2⟩ := implTermOk_run (base := base) (h := h1) (TmR.keep k1 (fun _ _ h => h) _ _ _ hm) (by omega)
    have n2 := k2.1
    rw [List.drop_eq_getElem_cons hlt, tsB]
    have head : ∀ {r : Option (Nat × Slots × AH)}, (if (!tOk f l[i]) = true then some (1, [some (.bool false)], h2) else some (0, [some (.slice (some ad) l.length l.length), some (.int .i64 (l.length : Int)), some (.int .i64 (IntKind.wrap .i64 ((i : Int) + (1 : Int))))], h2)) = r → B93_0 base [some (.slice (some ad) l.length l.length), some (.int .i64 (l.length : Int)), some (.int .i64 (i : Int))] h = r := by
      intro r hr
      rw [B93_0_eq]
      refine ifT (decide_eq_true (by omega)) (ifT ⟨by omega, by omega⟩ (bs rfl ?_))
      simp only [Int.toNat_natCast]
      refine bI g0 (bI g1 (bT g2 (bS g3 (nw hb rfl fun y ey => ?_))))
      rw [hh1] at ey
      rw [ey]
      exact q4 o1 (bs e2 (bB rfl hr))
    cases c : tOk f l[i] with
    | false =>
      refine ⟨h2, ?_, kN k1 k2⟩
      rw [Bool.false_and, if_neg (by decide)]
      exact loop_off (by decide) (head (by rw [c]; exact ifT rfl rfl))
    | true =>
      rw [Bool.true_and]
      obtain ⟨h3, y1, y2⟩ := ihd (i + 1) h2 (by omega) (hs.keep (kN k1 k2) fun _ _ h => h) (by omega)
      refine ⟨h3, loop_on (head ?_) y1, kN (kN k1 k2) y2⟩
      rw [c, w64i (n := (i : Int) + 1) (by omega) (by omega)]
      exact ifF (by decide) rfl
theorem termsOk_run {base f : Nat} {h : AH} {p : Nat → Prop} {l : List Tm} {a : Option Addr} (hl : l.length ≤ 9223372036854775807) (hs : TsR h p f l a) (hb : base ≤ h.length) : ∃ h', run (Et base) 93 [.slice a l.length l.length] h = some (.bool (tsB f l), h') ∧ KB NoB h h' := by
  obtain ⟨h1, e1, k1⟩ := termsOk_loop (base := base) hl l.length 0 h (by omega) hs hb
  rw [List.drop_zero, show ((0 : Nat) : Int) = 0 from rfl] at e1
  refine ⟨h1, ?_, k1⟩
  cases c : tsB f l with
  | false =>
    rw [c, if_neg (by decide)] at e1
    exact r93 (bs e1 (ifT rfl (bB rfl rfl)))
  | true =>
    rw [c, if_pos rfl] at e1
    exact r93 (bs e1 (ifF (show ¬ (2 : Nat) = 1 by decide) (ifT rfl rfl)))

/-! links -/
def lkBad (zs : List Int) (v : Int) (i : Nat) : Bool :=
  if (!inB (zs.getD i 0) 1 99999) = true then true else if (zs.getD i 0 == v) = true then true else if decide ((i : Int) > (0 : Int)) = true then decide (zs.getD (i - 1) 0 ≥ zs.getD i 0) else false
def lkAny (zs : List Int) (v : Int) : Nat → Nat → Bool
  | 0, _ => false
  | d + 1, i => lkBad zs v i || lkAny zs v d (i + 1)
def lkOk (zs : List Int) (v : Int) : Bool := !lkAny zs v zs.length 0 && decide ((zs.length : Int) ≤ (50 : Int))
theorem int_at {h : AH} {a : Option Addr} {zs : List Int} (hs : Sl h a (iv .i64 zs)) {i : Nat} (hi : i < zs.length) : ∃ ad, a = some ad ∧ Am.cell h ad.block (ad.off + i * 1) = some (.int .i64 (zs.getD i 0)) := by
  obtain ⟨ad, e, g⟩ := hs.cell (i := i) (v := .int .i64 (zs.getD i 0)) (by simp [iv, hi])
  exact ⟨ad, e, by rw [Nat.mul_one]; exact g⟩
theorem l9Links_loop {base : Nat} {zs : List Int} {v : Int} {a : Option Addr} {h : AH} (hl : zs.length ≤ 9223372036854775807) (hs : Sl h a (iv .i64 zs)) : ∀ (d i : Nat), i + d = zs.length →
    loopL (B91_0 base) [some (.slice a zs.length zs.length), some (.int .i64 v), some (.int .i64 (i : Int))] h = some (if lkAny zs v d i = true then (1, [some (.bool false)], h) else (2, [some (.slice a zs.length zs.length)], h)) := by
  intro d
  induction d with
  | zero =>
    intro i hi
    rw [lkAny, if_neg (by decide)]
    refine loop_off (by decide) ?_
    rw [B91_0_eq]
    exact ifF (by simp; omega) rfl
  | succ d ihd =>
    intro i hi
    have hlt : i < zs.length := by omega
    obtain ⟨ad, rfl, g⟩ := int_at hs hlt
    have eI := l1In_run (base := base) (h := h) (x := zs.getD i 0) (a := 1) (b := 99999)
    have head : ∀ {r : Option (Nat × Slots × AH)}, (if lkBad zs v i = true then some (1, [some (.bool false)], h) else some (0, [some (.slice (some ad) zs.length zs.length), some (.int .i64 v), some (.int .i64 (IntKind.wrap .i64 ((i : Int) + (1 : Int))))], h)) = r → B91_0 base [some (.slice (some ad) zs.length zs.length), some (.int .i64 v), some (.int .i64 (i : Int))] h = r := by
      intro r hr
      rw [B91_0_eq]
      refine ifT (decide_eq_true (by omega)) ?_
      refine bj (q := ([some (.slice (some ad) zs.length zs.length), some (.int .i64 v), some (.int .i64 (i : Int)), some (.bool (lkBad zs v i))], h)) ?_ (bS rfl (bI rfl (bI rfl (bB rfl hr))))
      refine ifT ⟨by omega, by omega⟩ (bs rfl ?_)
      simp only [Int.toNat_natCast]
      refine bI g (bs eI (bB rfl ?_))
      unfold lkBad
      refine itJ (fun b => [some (.slice (some ad) zs.length zs.length), some (.int .i64 v), some (.int .i64 (i : Int)), some (.bool b)]) rfl ?_
      refine ifT ⟨by omega, by omega⟩ (bs rfl (bI g (itJ (fun b => [some (.slice (some ad) zs.length zs.length), some (.int .i64 v), some (.int .i64 (i : Int)), some (.bool b)]) rfl ?_)))
      by_cases c : (i : Int) > 0
      · have hw : IntKind.wrap .i64 ((i : Int) - (1 : Int)) = ((i - 1 : Nat) : Int) := by rw [w64i (by omega) (by omega)]; omega
        obtain ⟨ad2, e2, g2⟩ := int_at hs (i := i - 1) (by omega)
        injection e2 with e2
        subst e2
        rw [decide_eq_true c, hw]
        refine ifT rfl (ifT ⟨by omega, by omega⟩ (bs rfl ?_))
        simp only [Int.toNat_natCast]
        exact bI g2 (ifT ⟨by omega, by omega⟩ (bs rfl (bI g rfl)))
      · rw [decide_eq_false c]
        exact ifF (by decide) rfl
    rw [lkAny]
    cases c : lkBad zs v i with
    | true =>
      rw [Bool.true_or, if_pos rfl]
      exact loop_off (by decide) (head (by rw [c]; exact ifT rfl rfl))
    | false =>
      rw [Bool.false_or, ← ihd (i + 1) (by omega)]
      refine loop_on (head ?_) rfl
      rw [c, w64i (n := (i : Int) + 1) (by omega) (by omega)]
      exact ifF (by decide) rfl
theorem l9Links_run {base : Nat} {zs : List Int} {v : Int} {a : Option Addr} {h : AH} (hl : zs.length ≤ 9223372036854775807) (hs : Sl h a (iv .i64 zs)) : run (Et base) 91 [.slice a zs.length zs.length, .int .i64 v] h = some (.bool (lkOk zs v), h) := by
  have e := l9Links_loop (base := base) (v := v) hl hs zs.length 0 (by omega)
  rw [show ((0 : Nat) : Int) = 0 from rfl] at e
  unfold lkOk
  cases c : lkAny zs v zs.length 0 with
  | true =>
    rw [c, if_pos rfl] at e
    exact r91 (bs e (ifT rfl (bB rfl rfl)))
  | false =>
    rw [c, if_neg (by decide)] at e
    exact r91 (bs e (ifF (show ¬ (2 : Nat) = 1 by decide) (ifT rfl (bS rfl (by simp)))))
theorem linksOk_loop {base : Nat} {zs : List Int} {v : Int} {a : Option Addr} {h : AH} (hl : zs.length ≤ 9223372036854775807) (hs : Sl h a (iv .i64 zs)) : ∀ (d i : Nat), i + d = zs.length →
    loopL (B94_0 base) [some (.slice a zs.length zs.length), some (.int .i64 v), some (.slice a zs.length zs.length), some (.int .i64 (zs.length : Int)), some (.int .i64 (i : Int))] h = some (if lkAny zs v d i = true then (1, [some (.bool false)], h) else (2, [some (.slice a zs.length zs.length)], h)) := by
  intro d
  induction d with
  | zero =>
    intro i hi
    rw [lkAny, if_neg (by decide)]
    refine loop_off (by decide) ?_
    rw [B94_0_eq]
    exact ifF (by simp; omega) rfl
  | succ d ihd =>
    intro i hi
    have hlt : i < zs.length := by omega
    obtain ⟨ad, rfl, g⟩ := int_at hs hlt
    have eI := in_run (base := base) (h := h) (x := zs.getD i 0) (a := 1) (b := 99999)
    have head : ∀ {r : Option (Nat × Slots × AH)}, (if lkBad zs v i = true then some (1, [some (.bool false)], h) else some (0, [some (.slice (some ad) zs.length zs.length), some (.int .i64 v), some (.slice (some ad) zs.length zs.length), some (.int .i64 (zs.length : Int)), some (.int .i64 (IntKind.wrap .i64 ((i : Int) + (1 : Int))))], h)) = r → B94_0 base [some (.slice (some ad) zs.length zs.length), some (.int .i64 v), some (.slice (some ad) zs.length zs.length), some (.int .i64 (zs.length : Int)), some (.int .i64 (i : Int))] h = r := by
      intro r hr
      rw [B94_0_eq]
      refine ifT (decide_eq_true (by omega)) (ifT ⟨by omega, by omega⟩ (bs rfl ?_))
      simp only [Int.toNat_natCast]
      refine bI g ?_
      refine bj (q := ([some (.slice (some ad) zs.length zs.length), some (.int .i64 v), some (.slice (some ad) zs.length zs.length), some (.int .i64 (zs.length : Int)), some (.int .i64 (i : Int)), some (.bool (lkBad zs v i))], h)) ?_ (bS rfl (bI rfl (bS rfl (bI rfl (bI rfl (bB rfl hr))))))
      refine bs eI (bB rfl ?_)
      unfold lkBad
      refine itJ (fun b => [some (.slice (some ad) zs.length zs.length), some (.int .i64 v), some (.slice (some ad) zs.length zs.length), some (.int .i64 (zs.length : Int)), some (.int .i64 (i : Int)), some (.bool b)]) rfl (itJ (fun b => [some (.slice (some ad) zs.length zs.length), some (.int .i64 v), some (.slice (some ad) zs.length zs.length), some (.int .i64 (zs.length : Int)), some (.int .i64 (i : Int)), some (.bool b)]) rfl ?_)
      by_cases c : (i : Int) > 0
      · have hw : IntKind.wrap .i64 ((i : Int) - (1 : Int)) = ((i - 1 : Nat) : Int) := by rw [w64i (by omega) (by omega)]; omega
        obtain ⟨ad2, e2, g2⟩ := int_at hs (i := i - 1) (by omega)
        injection e2 with e2
        subst e2
        rw [decide_eq_true c, hw]
        refine ifT rfl (ifT ⟨by omega, by omega⟩ (bs rfl ?_))
        simp only [Int.toNat_natCast]
        exact bI g2 rfl
      · rw [decide_eq_false c]
        exact ifF (by decide) rfl
    rw [lkAny]
    cases c : lkBad zs v i with
    | true =>
      rw [Bool.true_or, if_pos rfl]
      exact loop_off (by decide) (head (by rw [c]; exact ifT rfl rfl))
    | false =>
      rw [Bool.false_or, ← ihd (i + 1) (by omega)]
      refine loop_on (head ?_) rfl
      rw [c, w64i (n := (i : Int) + 1) (by omega) (by omega)]
      exact ifF (by decide) rfl
theorem linksOk_run {base : Nat} {zs : List Int} {v : Int} {a : Option Addr} {h : AH} (hl : zs.length ≤ 9223372036854775807) (hs : Sl h a (iv .i64 zs)) : run (Et base) 94 [.slice a zs.length zs.length, .int .i64 v] h = some (.bool (lkOk zs v), h) := by
  have e := linksOk_loop (base := base) (v := v) hl hs zs.length 0 (by omega)
  rw [show ((0 : Nat) : Int) = 0 from rfl] at e
  unfold lkOk
  cases c : lkAny zs v zs.length 0 with
  | true =>
    rw [c, if_pos rfl] at e
    exact r94 (bs e (ifT rfl (bB rfl rfl)))
  | false =>
    rw [c, if_neg (by decide)] at e
    exact r94 (bs e (ifF (show ¬ (2 : Nat) = 1 by decide) (ifT rfl (bS rfl (by simp)))))

/-! actors -/
def acOk (f : Nat) (l : List In) (A : Ac) : Bool :=
  codeOk l && (inB A.pid 1 99999 && (inB A.pc 0 (IntKind.wrap .i64 ((l.length : Int) - (1 : Int))) && (((A.regs.length : Int) == (8 : Int)) && (tsB f A.regs && (decide ((A.box.length : Int) ≤ (30 : Int)) && (tsB f A.box && lkOk A.links A.pid))))))
theorem implActorOk_run {base f : Nat} {h : AH} {p : Nat → Prop} {l : List In} {c : Option Addr} {A : Ac} {cs : List Value} (hL : ∀ x ∈ l, x.s.size ≤ 9223372036854775807) (hl : l.length ≤ 9223372036854775807) (hc : Sl h c (insR l)) (hM : AcM A) (x : AcR h p f A cs) (hb : base ≤ h.length) :
    ∃ h', run (Et base) 39 [.slice c l.length l.length, .agg cs.toArray] h = some (.bool (acOk f l A), h') ∧ KB NoB h h' := by
  obtain ⟨a, b, g, rfl, hr, hx, hk, _⟩ := x
  obtain ⟨m1, m2, m3⟩ := hM
  obtain ⟨o1, k1, q1⟩ := box_own (base := base) (t := 29) (h := h) (cs := acV A.pid A.pc a A.regs.length b A.box.length g A.links.length) hb rfl
  generalize hh1 : h ++ [some (⟨acV A.pid A.pc a A.regs.length b A.box.length g A.links.length, 29⟩ : Blk)] = h1 at o1 k1 q1
  obtain ⟨h2, e2, k2⟩ := implCodeOk_run (base := base) hL hl (hc.keepN k1) (by omega)
  have n2 := k2.1
  have o2 := o1.keepN k2
  have k02 := kN k1 k2
  obtain ⟨h3, e3, k3⟩ := termsOk_run (base := base) m1 (hr.keep k02 fun _ _ h => h) (by omega)
  have n3 := k3.1
  have o3 := o2.keepN k3
  have k03 := kN k02 k3
  obtain ⟨h4, e4, k4⟩ := termsOk_run (base := base) m2 (hx.keep k03 fun _ _ h => h) (by omega)
  have o4 := o3.keepN k4
  have k04 := kN k03 k4
  have e5 := linksOk_run (base := base) (v := A.pid) m3 (hk.keepN k04)
  have e6 := in_run (base := base) (h := h2) (x := A.pid) (a := 1) (b := 99999)
  have e7 := in_run (base := base) (h := h2) (x := A.pc) (a := 0) (b := IntKind.wrap .i64 ((l.length : Int) - (1 : Int)))
  have start : ∀ {r : Value × AH}, _ = some r → run (Et base) 39 [.slice c l.length l.length, .agg (acV A.pid A.pc a A.regs.length b A.box.length g A.links.length).toArray] h = some r := fun {r} hr => r39 (lets fun y ey => (by rw [ey, hh1]; exact bs e2 (bB rfl hr)))
  unfold acOk
  cases c1 : codeOk l with
  | false => exact ⟨h2, start (by rw [c1]; exact ifF (by decide) rfl), k02⟩
  | true =>
    cases c2 : inB A.pid 1 99999 with
    | false => rw [c2] at e6; exact ⟨h2, start (by rw [c1]; exact ifT rfl (bI (o2.at0 (i := 0) rfl) (bs e6 (bB rfl (ifF (by decide) rfl))))), k02⟩
    | true =>
      rw [c2] at e6
      cases c3 : inB A.pc 0 (IntKind.wrap .i64 ((l.length : Int) - (1 : Int))) with
      | false => rw [c3] at e7; exact ⟨h2, start (by rw [c1]; exact ifT rfl (bI (o2.at0 (i := 0) rfl) (bs e6 (bB rfl (ifT rfl (bI (o2.at0 (i := 1) rfl) (bs e7 (bB rfl (ifF (by decide) rfl))))))))), k02⟩
      | true =>
        rw [c3] at e7
        cases c4 : (A.regs.length : Int) == (8 : Int) with
        | false => exact ⟨h2, start (by rw [c1]; exact ifT rfl (bI (o2.at0 (i := 0) rfl) (bs e6 (bB rfl (ifT rfl (bI (o2.at0 (i := 1) rfl) (bs e7 (bB rfl (ifT rfl (bS (o2.at0 (i := 2) rfl) (ifF (by simp [c4]) rfl))))))))))), k02⟩
        | true =>
          cases c5 : tsB f A.regs with
          | false => rw [c5] at e3; exact ⟨h3, start (by rw [c1]; exact ifT rfl (bI (o2.at0 (i := 0) rfl) (bs e6 (bB rfl (ifT rfl (bI (o2.at0 (i := 1) rfl) (bs e7 (bB rfl (ifT rfl (bS (o2.at0 (i := 2) rfl) (ifT c4 (bS (o2.at0 (i := 2) rfl) (bs e3 (bB rfl (ifF (by decide) rfl))))))))))))))), k03⟩
          | true =>
            rw [c5] at e3
            by_cases c6 : (A.box.length : Int) ≤ 30
            · rw [decide_eq_true c6]
              cases c7 : tsB f A.box with
              | false => rw [c7] at e4; exact ⟨h4, start (by rw [c1]; exact ifT rfl (bI (o2.at0 (i := 0) rfl) (bs e6 (bB rfl (ifT rfl (bI (o2.at0 (i := 1) rfl) (bs e7 (bB rfl (ifT rfl (bS (o2.at0 (i := 2) rfl) (ifT c4 (bS (o2.at0 (i := 2) rfl) (bs e3 (bB rfl (ifT rfl (bS (o3.at0 (i := 3) rfl) (ifT (decide_eq_true c6) (bS (o3.at0 (i := 3) rfl) (bs e4 (bB rfl (ifF (by decide) rfl))))))))))))))))))))), k04⟩
              | true => rw [c7] at e4; exact ⟨h4, start (by rw [c1]; exact ifT rfl (bI (o2.at0 (i := 0) rfl) (bs e6 (bB rfl (ifT rfl (bI (o2.at0 (i := 1) rfl) (bs e7 (bB rfl (ifT rfl (bS (o2.at0 (i := 2) rfl) (ifT c4 (bS (o2.at0 (i := 2) rfl) (bs e3 (bB rfl (ifT rfl (bS (o3.at0 (i := 3) rfl) (ifT (decide_eq_true c6) (bS (o3.at0 (i := 3) rfl) (bs e4 (bB rfl (ifT rfl (bS (o4.at0 (i := 4) rfl) (bI (o4.at0 (i := 0) rfl) (bs e5 (bB rfl rfl))))))))))))))))))))))))), k04⟩
            · rw [decide_eq_false c6]
              exact ⟨h3, start (by rw [c1]; exact ifT rfl (bI (o2.at0 (i := 0) rfl) (bs e6 (bB rfl (ifT rfl (bI (o2.at0 (i := 1) rfl) (bs e7 (bB rfl (ifT rfl (bS (o2.at0 (i := 2) rfl) (ifT c4 (bS (o2.at0 (i := 2) rfl) (bs e3 (bB rfl (ifT rfl (bS (o3.at0 (i := 3) rfl) (ifF (by simpa using c6) rfl))))))))))))))))), k03⟩
end Go.Proofs.Ytnmjhhipbfngkaa.Am
