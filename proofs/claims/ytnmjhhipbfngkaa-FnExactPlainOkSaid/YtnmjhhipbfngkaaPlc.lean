/- Where an actor stands in a system; is a number in a row; is what was said right.
Conditions: none. -/
import Derived.Test.YtnmjhhipbfngkaaPlb
set_option linter.unusedSimpArgs false
set_option linter.unusedVariables false
namespace Go.Proofs.Ytnmjhhipbfngkaa.Am
open Go Go.RowKit

def hasI (v : Int) : List Int → Bool
  | [] => false
  | x :: r => if (x == v) = true then true else hasI v r
theorem int_get {h : AH} {a : Option Addr} {zs : List Int} (hs : Sl h a (iv .i64 zs)) {i : Nat} (hi : i < zs.length) : ∃ ad, a = some ad ∧ Am.cell h ad.block (ad.off + i * 1) = some (.int .i64 zs[i]) := by
  obtain ⟨ad, e, g⟩ := hs.cell (i := i) (v := .int .i64 zs[i]) (by simp [iv, hi])
  exact ⟨ad, e, by rw [Nat.mul_one]; exact g⟩
theorem l11Has_loop {base : Nat} {zs : List Int} {v : Int} {a : Option Addr} {h : AH} (hl : zs.length ≤ 9223372036854775807) (hs : Sl h a (iv .i64 zs)) : ∀ (d i : Nat), i + d = zs.length →
    loopL (B130_0 base) [some (.slice a zs.length zs.length), some (.int .i64 v), some (.int .i64 (i : Int))] h = some (if hasI v (zs.drop i) = true then (1, [some (.bool true)], h) else (2, [], h)) := by
  intro d
  induction d with
  | zero =>
    intro i hi
    rw [List.drop_eq_nil_of_le (by omega), hasI, if_neg (by decide)]
    refine loop_off (by decide) ?_
    rw [B130_0_eq]
    exact ifF (by simp; omega) rfl
  | succ d ihd =>
    intro i hi
    have hlt : i < zs.length := by omega
    obtain ⟨ad, rfl, g⟩ := int_get hs hlt
    rw [List.drop_eq_getElem_cons hlt, hasI]
    by_cases c : (zs[i] == v) = true
    · rw [if_pos c, if_pos rfl]
      refine loop_off (by decide) ?_
      rw [B130_0_eq]
      refine ifT (decide_eq_true (by omega)) (ifT ⟨by omega, by omega⟩ (bs rfl ?_))
      simp only [Int.toNat_natCast]
      exact bI g (ifT c rfl)
    · rw [if_neg c, ← ihd (i + 1) (by omega)]
      refine loop_on ?_ rfl
      rw [B130_0_eq]
      refine ifT (decide_eq_true (by omega)) (ifT ⟨by omega, by omega⟩ (bs rfl ?_))
      simp only [Int.toNat_natCast]
      refine bI g (ifF c ?_)
      rw [w64i (n := (i : Int) + 1) (by omega) (by omega)]
      rfl
theorem l11Has_run {base : Nat} {zs : List Int} {v : Int} {a : Option Addr} {h : AH} (hl : zs.length ≤ 9223372036854775807) (hs : Sl h a (iv .i64 zs)) : run (Et base) 130 [.slice a zs.length zs.length, .int .i64 v] h = some (.bool (hasI v zs), h) := by
  have e := l11Has_loop (base := base) (v := v) hl hs zs.length 0 (by omega)
  rw [List.drop_zero, show ((0 : Nat) : Int) = 0 from rfl] at e
  cases c : hasI v zs with
  | true =>
    rw [c, if_pos rfl] at e
    exact r130 (bs e (ifT rfl (bB rfl rfl)))
  | false =>
    rw [c, if_neg (by decide)] at e
    exact r130 (bs e (ifF (show ¬ (2 : Nat) = 1 by decide) (ifT rfl rfl)))
theorem hasInt_loop {base : Nat} {zs : List Int} {v : Int} {a : Option Addr} {h : AH} (hl : zs.length ≤ 9223372036854775807) (hs : Sl h a (iv .i64 zs)) : ∀ (d i : Nat), i + d = zs.length →
    loopL (B103_0 base) [some (.int .i64 v), some (.slice a zs.length zs.length), some (.int .i64 (zs.length : Int)), some (.int .i64 (i : Int))] h = some (if hasI v (zs.drop i) = true then (1, [some (.bool true)], h) else (2, [], h)) := by
  intro d
  induction d with
  | zero =>
    intro i hi
    rw [List.drop_eq_nil_of_le (by omega), hasI, if_neg (by decide)]
    refine loop_off (by decide) ?_
    rw [B103_0_eq]
    exact ifF (by simp; omega) rfl
  | succ d ihd =>
    intro i hi
    have hlt : i < zs.length := by omega
    obtain ⟨ad, rfl, g⟩ := int_get hs hlt
    rw [List.drop_eq_getElem_cons hlt, hasI]
    by_cases c : (zs[i] == v) = true
    · rw [if_pos c, if_pos rfl]
      refine loop_off (by decide) ?_
      rw [B103_0_eq]
      refine ifT (decide_eq_true (by omega)) (ifT ⟨by omega, by omega⟩ (bs rfl ?_))
      simp only [Int.toNat_natCast]
      exact bI g (ifT c rfl)
    · rw [if_neg c, ← ihd (i + 1) (by omega)]
      refine loop_on ?_ rfl
      rw [B103_0_eq]
      refine ifT (decide_eq_true (by omega)) (ifT ⟨by omega, by omega⟩ (bs rfl ?_))
      simp only [Int.toNat_natCast]
      refine bI g (ifF c ?_)
      rw [w64i (n := (i : Int) + 1) (by omega) (by omega)]
      rfl
theorem hasInt_run {base : Nat} {zs : List Int} {v : Int} {a : Option Addr} {h : AH} (hl : zs.length ≤ 9223372036854775807) (hs : Sl h a (iv .i64 zs)) : run (Et base) 103 [.slice a zs.length zs.length, .int .i64 v] h = some (.bool (hasI v zs), h) := by
  have e := hasInt_loop (base := base) (v := v) hl hs zs.length 0 (by omega)
  rw [List.drop_zero, show ((0 : Nat) : Int) = 0 from rfl] at e
  cases c : hasI v zs with
  | true =>
    rw [c, if_pos rfl] at e
    exact r103 (bs e (ifT rfl (bB rfl rfl)))
  | false =>
    rw [c, if_neg (by decide)] at e
    exact r103 (bs e (ifF (show ¬ (2 : Nat) = 1 by decide) (ifT rfl rfl)))

/-- Where an actor stands, from i on; -1: nowhere. -/
def atL (v : Int) : Nat → List Ac → Int
  | _, [] => -1
  | i, x :: r => if (x.pid == v) = true then (i : Int) else atL v (i + 1) r
theorem atL_lt (v : Int) : ∀ (l : List Ac) (i : Nat), atL v i l = -1 ∨ ((i : Int) ≤ atL v i l ∧ atL v i l < (i : Int) + (l.length : Int))
  | [], i => .inl rfl
  | x :: r, i => by
    rw [atL]
    split
    · right; constructor
      · omega
      · simp; omega
    · rcases atL_lt v r (i + 1) with h | ⟨h1, h2⟩
      · exact .inl h
      · right; simp; omega
theorem l11At_loop {base f : Nat} {p : Nat → Prop} {l : List Ac} {a : Option Addr} {v : Int} {b : Nat} {h : AH} (hl : l.length ≤ 9223372036854775807) (hs : AsR h p f l a) (hc : Am.cell h b 1 = some (.slice a l.length l.length)) : ∀ (d i : Nat), i + d = l.length →
    ∃ q, loopL (B129_0 base) [some (.int .i64 v), some (.pointer (at0 b)), some (.int .i64 (i : Int))] h = some (q, if q = 1 then [some (.int .i64 (atL v i (l.drop i)))] else [], h) ∧ (q = 1 ∨ (q = 2 ∧ atL v i (l.drop i) = -1)) := by
  intro d
  induction d with
  | zero =>
    intro i hi
    rw [List.drop_eq_nil_of_le (by omega), atL]
    refine ⟨2, loop_off (by decide) ?_, .inr ⟨rfl, rfl⟩⟩
    rw [B129_0_eq]
    exact bS (by simpa using hc) (ifF (by simp; omega) rfl)
  | succ d ihd =>
    intro i hi
    have hlt : i < l.length := by omega
    obtain ⟨ad, x1, x2, x3, rfl, _, g0, g1, g2, g3, g4, hm, _⟩ := hs.get hlt
    rw [List.drop_eq_getElem_cons hlt, atL]
    have hc' : Am.cell h b (0 + 1) = some (.slice (some ad) l.length l.length) := by simpa using hc
    by_cases c : (l[i].pid == v) = true
    · rw [if_pos c]
      refine ⟨1, loop_off (by decide) ?_, .inl rfl⟩
      rw [B129_0_eq]
      refine bS hc' (ifT (decide_eq_true (by omega)) (bS hc' (ifT ⟨by omega, by omega⟩ (bs rfl ?_))))
      simp only [Int.toNat_natCast]
      exact bI g0 (ifT c rfl)
    · rw [if_neg c]
      obtain ⟨q, e, hq⟩ := ihd (i + 1) (by omega)
      refine ⟨q, loop_on ?_ e, hq⟩
      rw [B129_0_eq]
      refine bS hc' (ifT (decide_eq_true (by omega)) (bS hc' (ifT ⟨by omega, by omega⟩ (bs rfl ?_))))
      simp only [Int.toNat_natCast]
      refine bI g0 (ifF c ?_)
      rw [w64i (n := (i : Int) + 1) (by omega) (by omega)]
      rfl
theorem l11At_run {base f : Nat} {p : Nat → Prop} {P : Pl} {a b g : Option Addr} {v : Int} {h : AH} (hl : P.acs.length ≤ 9223372036854775807) (hs : AsR h p f P.acs b) (hb : base ≤ h.length) :
    ∃ h', run (Et base) 129 [.agg (plV a P.code.length b P.acs.length P.next g P.out.length).toArray, .int .i64 v] h = some (.int .i64 (atL v 0 P.acs), h') ∧ KB NoB h h' := by
  obtain ⟨o1, k1, q1⟩ := box_own (base := base) (t := 70) (h := h) (cs := plV a P.code.length b P.acs.length P.next g P.out.length) hb rfl
  generalize hh1 : h ++ [some (⟨plV a P.code.length b P.acs.length P.next g P.out.length, 70⟩ : Blk)] = h1 at o1 k1 q1
  obtain ⟨q, e, hq⟩ := l11At_loop (base := base) (v := v) (b := h.length) hl (hs.keepN k1) (o1.at0 (i := 1) rfl) P.acs.length 0 (by omega)
  rw [List.drop_zero, show ((0 : Nat) : Int) = 0 from rfl] at e
  rw [List.drop_zero] at hq
  refine ⟨h1, r129 (lets fun y ey => ?_), k1⟩
  rw [hh1] at ey
  subst ey
  refine bs e ?_
  rcases hq with rfl | ⟨rfl, e1⟩
  · exact ifT rfl (bI rfl rfl)
  · rw [e1]
    exact ifF (show ¬ (2 : Nat) = 1 by decide) (ifT rfl rfl)
theorem at_loop {base f : Nat} {p : Nat → Prop} {l : List Ac} {a : Option Addr} {v : Int} (hl : l.length ≤ 9223372036854775807) : ∀ (d i : Nat) (h : AH), i + d = l.length → AsR h p f l a → base ≤ h.length →
    ∃ q h', loopL (B102_0 base) [some (.int .i64 v), some (.slice a l.length l.length), some (.int .i64 (l.length : Int)), some (.int .i64 (i : Int))] h = some (q, if q = 1 then [some (.int .i64 (atL v i (l.drop i)))] else [], h') ∧ (q = 1 ∨ (q = 2 ∧ atL v i (l.drop i) = -1)) ∧ KB NoB h h' := by
  intro d
  induction d with
  | zero =>
    intro i h hi hs hb
    rw [List.drop_eq_nil_of_le (by omega), atL]
    refine ⟨2, h, loop_off (by decide) ?_, .inr ⟨rfl, rfl⟩, KB.refl _ _⟩
    rw [B102_0_eq]
    exact ifF (by simp; omega) rfl
  | succ d ihd =>
    intro i h hi hs hb
    have hlt : i < l.length := by omega
    obtain ⟨ad, x1, x2, x3, rfl, _, g0, g1, g2, g3, g4, hm, _⟩ := hs.get hlt
    obtain ⟨o1, k1, q1⟩ := box_own (base := base) (t := 29) (h := h) (cs := acV l[i].pid l[i].pc x1 l[i].regs.length x2 l[i].box.length x3 l[i].links.length) hb rfl
    generalize hh1 : h ++ [some (⟨acV l[i].pid l[i].pc x1 l[i].regs.length x2 l[i].box.length x3 l[i].links.length, 29⟩ : Blk)] = h1 at o1 k1 q1
    rw [List.drop_eq_getElem_cons hlt, atL]
    have head : ∀ {r : Option (Nat × Slots × AH)}, (if (l[i].pid == v) = true then some (1, [some (.int .i64 (i : Int))], h1) else some (0, [some (.int .i64 v), some (.slice (some ad) l.length l.length), some (.int .i64 (l.length : Int)), some (.int .i64 (IntKind.wrap .i64 ((i : Int) + (1 : Int))))], h1)) = r → B102_0 base [some (.int .i64 v), some (.slice (some ad) l.length l.length), some (.int .i64 (l.length : Int)), some (.int .i64 (i : Int))] h = r := by
      intro r hr
      rw [B102_0_eq]
      refine ifT (decide_eq_true (by omega)) (ifT ⟨by omega, by omega⟩ (bs rfl ?_))
      simp only [Int.toNat_natCast]
      refine bI g0 (bI g1 (bS g2 (bS g3 (bS g4 (nw hb rfl fun y ey => ?_)))))
      rw [hh1] at ey
      rw [ey]
      exact bI (o1.at0 (i := 0) rfl) hr
    by_cases c : (l[i].pid == v) = true
    · rw [if_pos c]
      exact ⟨1, h1, loop_off (by decide) (head (ifT c rfl)), .inl rfl, k1⟩
    · rw [if_neg c]
      obtain ⟨q, h2, e, hq, k2⟩ := ihd (i + 1) h1 (by omega) (hs.keepN k1) (by omega)
      refine ⟨q, h2, loop_on (head (ifF c ?_)) e, hq, kN k1 k2⟩
      rw [w64i (n := (i : Int) + 1) (by omega) (by omega)]
      rfl
theorem at_run {base f b : Nat} {p : Nat → Prop} {l : List Ac} {a : Option Addr} {v : Int} {h : AH} (hl : l.length ≤ 9223372036854775807) (hs : AsR h p f l a) (hc : Am.cell h b 1 = some (.slice a l.length l.length)) (hb : base ≤ h.length) :
    ∃ h', run (Et base) 102 [.pointer (at0 b), .int .i64 v] h = some (.int .i64 (atL v 0 l), h') ∧ KB NoB h h' := by
  obtain ⟨q, h1, e, hq, k1⟩ := at_loop (base := base) (v := v) hl l.length 0 h (by omega) hs hb
  rw [List.drop_zero, show ((0 : Nat) : Int) = 0 from rfl] at e
  rw [List.drop_zero] at hq
  refine ⟨h1, r102 (bs rfl (bS (by simpa using hc) (bs e ?_))), k1⟩
  rcases hq with rfl | ⟨rfl, e1⟩
  · exact ifT rfl (bI rfl rfl)
  · rw [e1]
    exact ifF (show ¬ (2 : Nat) = 1 by decide) (ifT rfl rfl)

/-! what was said -/
def badSd (f : Nat) (x : Sd) : Bool := if (!inB x.kind 1 3) = true then true else if (!inB x.pid 1 99999) = true then true else !tOk f x.t
def anyBadS (f : Nat) : List Sd → Bool
  | [] => false
  | x :: r => badSd f x || anyBadS f r
def saidOk (f : Nat) (l : List Sd) : Bool := !anyBadS f l && decide ((l.length : Int) ≤ (500 : Int))
theorem l11Said_loop {base f : Nat} {p : Nat → Prop} {l : List Sd} {a : Option Addr} (hl : l.length ≤ 9223372036854775807) : ∀ (d i : Nat) (h : AH), i + d = l.length → SsR h p f l a → base ≤ h.length →
    ∃ h', loopL (B97_0 base) [some (.slice a l.length l.length), some (.int .i64 (i : Int))] h = some (if anyBadS f (l.drop i) = true then (1, [some (.bool false)], h') else (2, [some (.slice a l.length l.length)], h')) ∧ KB NoB h h' := by
  intro d
  induction d with
  | zero =>
    intro i h hi hs hb
    refine ⟨h, ?_, KB.refl _ _⟩
    rw [List.drop_eq_nil_of_le (by omega), anyBadS, if_neg (by decide)]
    refine loop_off (by decide) ?_
    rw [B97_0_eq]
    exact ifF (by simp; omega) rfl
  | succ d ihd =>
    intro i h hi hs hb
    have hlt : i < l.length := by omega
    obtain ⟨ad, k, n, s, a2, m, rfl, _, g0, g1, g2, g3, g4, g5, hm⟩ := hs.get hlt
    obtain ⟨h2, e2, k2⟩ := specTermOk_run (base := base) hm hb
    have n2 := k2.1
    have eI := l1In_run (base := base) (h := h) (x := l[i].kind) (a := 1) (b := 3)
    have eI2 := l1In_run (base := base) (h := h) (x := l[i].pid) (a := 1) (b := 99999)
    rw [List.drop_eq_getElem_cons hlt, anyBadS]
    have head : ∃ h3, KB NoB h h3 ∧ base ≤ h3.length ∧ ∀ {r : Option (Nat × Slots × AH)}, (if badSd f l[i] = true then some (1, [some (.bool false)], h3) else some (0, [some (.slice (some ad) l.length l.length), some (.int .i64 (IntKind.wrap .i64 ((i : Int) + (1 : Int))))], h3)) = r → B97_0 base [some (.slice (some ad) l.length l.length), some (.int .i64 (i : Int))] h = r := by
      unfold badSd
      by_cases c1 : (!inB l[i].kind 1 3) = true
      · refine ⟨h, KB.refl _ _, hb, fun hr => ?_⟩
        rw [if_pos c1] at hr
        rw [B97_0_eq]
        refine ifT (decide_eq_true (by omega)) (bj (q := ([some (.slice (some ad) l.length l.length), some (.int .i64 (i : Int)), some (.bool true)], h)) ?_ (bS rfl (bI rfl (bB rfl hr))))
        refine ifT ⟨by omega, by omega⟩ (bs rfl ?_)
        simp only [Int.toNat_natCast]
        exact bI g0 (bs eI (bB rfl (ifT c1 rfl)))
      by_cases c2 : (!inB l[i].pid 1 99999) = true
      · refine ⟨h, KB.refl _ _, hb, fun hr => ?_⟩
        rw [if_neg c1, if_pos c2] at hr
        rw [B97_0_eq]
        refine ifT (decide_eq_true (by omega)) (bj (q := ([some (.slice (some ad) l.length l.length), some (.int .i64 (i : Int)), some (.bool true)], h)) ?_ (bS rfl (bI rfl (bB rfl hr))))
        refine ifT ⟨by omega, by omega⟩ (bs rfl ?_)
        simp only [Int.toNat_natCast]
        exact bI g0 (bs eI (bB rfl (ifF c1 (ifT ⟨by omega, by omega⟩ (bs rfl (bI g1 (bs eI2 (bB rfl (ifT c2 rfl)))))))))
      · refine ⟨h2, k2, by omega, fun hr => ?_⟩
        rw [if_neg c1, if_neg c2] at hr
        rw [B97_0_eq]
        refine ifT (decide_eq_true (by omega)) (bj (q := ([some (.slice (some ad) l.length l.length), some (.int .i64 (i : Int)), some (.bool (!tOk f l[i].t))], h2)) ?_ (bS rfl (bI rfl (bB rfl hr))))
        refine ifT ⟨by omega, by omega⟩ (bs rfl ?_)
        simp only [Int.toNat_natCast]
        refine bI g0 (bs eI (bB rfl (ifF c1 (ifT ⟨by omega, by omega⟩ (bs rfl (bI g1 (bs eI2 (bB rfl (ifF c2 (ifT ⟨by omega, by omega⟩ (bs rfl ?_)))))))))))
        exact bI g2 (bI g3 (bT g4 (bS g5 (bs e2 (bB rfl rfl)))))
    obtain ⟨h3, k3, n3, head⟩ := head
    cases c : badSd f l[i] with
    | true =>
      refine ⟨h3, ?_, k3⟩
      rw [Bool.true_or, if_pos rfl]
      exact loop_off (by decide) (head (by rw [c]; exact ifT rfl rfl))
    | false =>
      rw [Bool.false_or]
      obtain ⟨h4, y1, y2⟩ := ihd (i + 1) h3 (by omega) (hs.keep k3 fun _ _ h => h) n3
      refine ⟨h4, loop_on (head ?_) y1, kN k3 y2⟩
      rw [c, w64i (n := (i : Int) + 1) (by omega) (by omega)]
      exact ifF (by decide) rfl
theorem l11Said_run {base f : Nat} {h : AH} {p : Nat → Prop} {l : List Sd} {a : Option Addr} (hl : l.length ≤ 9223372036854775807) (hs : SsR h p f l a) (hb : base ≤ h.length) : ∃ h', run (Et base) 97 [.slice a l.length l.length] h = some (.bool (saidOk f l), h') ∧ KB NoB h h' := by
  obtain ⟨h1, e1, k1⟩ := l11Said_loop (base := base) hl l.length 0 h (by omega) hs hb
  rw [List.drop_zero, show ((0 : Nat) : Int) = 0 from rfl] at e1
  refine ⟨h1, ?_, k1⟩
  unfold saidOk
  cases c : anyBadS f l with
  | true =>
    rw [c, if_pos rfl] at e1
    exact r97 (bs e1 (ifT rfl (bB rfl rfl)))
  | false =>
    rw [c, if_neg (by decide)] at e1
    exact r97 (bs e1 (ifF (show ¬ (2 : Nat) = 1 by decide) (ifT rfl (bS rfl (by simp)))))
theorem outOk_loop {base f : Nat} {p : Nat → Prop} {l : List Sd} {a : Option Addr} (hl : l.length ≤ 9223372036854775807) : ∀ (d i : Nat) (h : AH), i + d = l.length → SsR h p f l a → base ≤ h.length →
    ∃ h', loopL (B101_0 base) [some (.slice a l.length l.length), some (.slice a l.length l.length), some (.int .i64 (l.length : Int)), some (.int .i64 (i : Int))] h = some (if anyBadS f (l.drop i) = true then (1, [some (.bool false)], h') else (2, [some (.slice a l.length l.length)], h')) ∧ KB NoB h h' := by
  intro d
  induction d with
  | zero =>
    intro i h hi hs hb
    refine ⟨h, ?_, KB.refl _ _⟩
    rw [List.drop_eq_nil_of_le (by omega), anyBadS, if_neg (by decide)]
    refine loop_off (by decide) ?_
    rw [B101_0_eq]
    exact ifF (by simp; omega) rfl
  | succ d ihd =>
    intro i h hi hs hb
    have hlt : i < l.length := by omega
    obtain ⟨ad, k, n, s, a2, m, rfl, _, g0, g1, g2, g3, g4, g5, hm⟩ := hs.get hlt
    obtain ⟨o1, k1, q1⟩ := box_own (base := base) (t := 174) (h := h) (cs := saidV l[i].kind l[i].pid k n s a2 m) hb rfl
    generalize hh1 : h ++ [some (⟨saidV l[i].kind l[i].pid k n s a2 m, 174⟩ : Blk)] = h1 at o1 k1 q1
    obtain ⟨h2, e2, k2⟩ := implTermOk_run (base := base) (h := h1) (TmR.keep k1 (fun _ _ h => h) _ _ _ hm) (by omega)
    have n2 := k2.1
    have eI := in_run (base := base) (h := h1) (x := l[i].kind) (a := 1) (b := 3)
    have eI2 := in_run (base := base) (h := h1) (x := l[i].pid) (a := 1) (b := 99999)
    rw [List.drop_eq_getElem_cons hlt, anyBadS]
    have head : ∃ h3, KB NoB h h3 ∧ base ≤ h3.length ∧ ∀ {r : Option (Nat × Slots × AH)}, (if badSd f l[i] = true then some (1, [some (.bool false)], h3) else some (0, [some (.slice (some ad) l.length l.length), some (.slice (some ad) l.length l.length), some (.int .i64 (l.length : Int)), some (.int .i64 (IntKind.wrap .i64 ((i : Int) + (1 : Int))))], h3)) = r → B101_0 base [some (.slice (some ad) l.length l.length), some (.slice (some ad) l.length l.length), some (.int .i64 (l.length : Int)), some (.int .i64 (i : Int))] h = r := by
      have pre : ∀ (b : Bool) (hz : AH) {r : Option (Nat × Slots × AH)}, (if (!inB l[i].kind 1 3) = true then some (Sum.inl ([some (.slice (some ad) l.length l.length), some (.slice (some ad) l.length l.length), some (.int .i64 (l.length : Int)), some (.int .i64 (i : Int)), some (.bool true)], h1)) else if (!inB l[i].pid 1 99999) = true then some (Sum.inl ([some (.slice (some ad) l.length l.length), some (.slice (some ad) l.length l.length), some (.int .i64 (l.length : Int)), some (.int .i64 (i : Int)), some (.bool true)], h1)) else some (Sum.inl ([some (.slice (some ad) l.length l.length), some (.slice (some ad) l.length l.length), some (.int .i64 (l.length : Int)), some (.int .i64 (i : Int)), some (.bool (!tOk f l[i].t))], h2))) = some (Sum.inl (([some (.slice (some ad) l.length l.length), some (.slice (some ad) l.length l.length), some (.int .i64 (l.length : Int)), some (.int .i64 (i : Int)), some (.bool b)], hz)) : Sum (Slots × AH) (Nat × Slots × AH)) →
          (if b = true then some (1, [some (.bool false)], hz) else some (0, [some (.slice (some ad) l.length l.length), some (.slice (some ad) l.length l.length), some (.int .i64 (l.length : Int)), some (.int .i64 (IntKind.wrap .i64 ((i : Int) + (1 : Int))))], hz)) = r → B101_0 base [some (.slice (some ad) l.length l.length), some (.slice (some ad) l.length l.length), some (.int .i64 (l.length : Int)), some (.int .i64 (i : Int))] h = r := by
        intro b hz r hq hr
        rw [B101_0_eq]
        refine ifT (decide_eq_true (by omega)) (ifT ⟨by omega, by omega⟩ (bs rfl ?_))
        simp only [Int.toNat_natCast]
        refine bI g0 (bI g1 (bI g2 (bI g3 (bT g4 (bS g5 (nw hb rfl fun y ey => ?_))))))
        rw [hh1] at ey
        rw [ey]
        refine bj (q := ([some (.slice (some ad) l.length l.length), some (.slice (some ad) l.length l.length), some (.int .i64 (l.length : Int)), some (.int .i64 (i : Int)), some (.bool b)], hz)) ?_ (bS rfl (bS rfl (bI rfl (bI rfl (bB rfl hr)))))
        refine bI (o1.at0 (i := 0) rfl) (bs eI (bB rfl ?_))
        rw [← hq]
        by_cases c1 : (!inB l[i].kind 1 3) = true
        · rw [if_pos c1, if_pos c1]
        rw [if_neg c1, if_neg c1]
        refine bI (o1.at0 (i := 1) rfl) (bs eI2 (bB rfl ?_))
        by_cases c2 : (!inB l[i].pid 1 99999) = true
        · rw [if_pos c2, if_pos c2]
        rw [if_neg c2, if_neg c2]
        exact bI (o1.at0 (i := 2) rfl) (bI (o1.at0 (i := 3) rfl) (bT (o1.at0 (i := 4) rfl) (bS (o1.at0 (i := 5) rfl) (bs e2 (bB rfl rfl)))))
      unfold badSd
      by_cases c1 : (!inB l[i].kind 1 3) = true
      · refine ⟨h1, k1, by omega, fun hr => pre true h1 (if_pos c1) ?_⟩
        rw [if_pos c1] at hr
        exact hr
      by_cases c2 : (!inB l[i].pid 1 99999) = true
      · refine ⟨h1, k1, by omega, fun hr => pre true h1 (by rw [if_neg c1, if_pos c2]) ?_⟩
        rw [if_neg c1, if_pos c2] at hr
        exact hr
      · refine ⟨h2, kN k1 k2, by omega, fun hr => pre (!tOk f l[i].t) h2 (by rw [if_neg c1, if_neg c2]) ?_⟩
        rw [if_neg c1, if_neg c2] at hr
        exact hr
    obtain ⟨h3, k3, n3, head⟩ := head
    cases c : badSd f l[i] with
    | true =>
      refine ⟨h3, ?_, k3⟩
      rw [Bool.true_or, if_pos rfl]
      exact loop_off (by decide) (head (by rw [c]; exact ifT rfl rfl))
    | false =>
      rw [Bool.false_or]
      obtain ⟨h4, y1, y2⟩ := ihd (i + 1) h3 (by omega) (hs.keep k3 fun _ _ h => h) n3
      refine ⟨h4, loop_on (head ?_) y1, kN k3 y2⟩
      rw [c, w64i (n := (i : Int) + 1) (by omega) (by omega)]
      exact ifF (by decide) rfl
theorem outOk_run {base f : Nat} {h : AH} {p : Nat → Prop} {l : List Sd} {a : Option Addr} (hl : l.length ≤ 9223372036854775807) (hs : SsR h p f l a) (hb : base ≤ h.length) : ∃ h', run (Et base) 101 [.slice a l.length l.length] h = some (.bool (saidOk f l), h') ∧ KB NoB h h' := by
  obtain ⟨h1, e1, k1⟩ := outOk_loop (base := base) hl l.length 0 h (by omega) hs hb
  rw [List.drop_zero, show ((0 : Nat) : Int) = 0 from rfl] at e1
  refine ⟨h1, ?_, k1⟩
  unfold saidOk
  cases c : anyBadS f l with
  | true =>
    rw [c, if_pos rfl] at e1
    exact r101 (bs e1 (ifT rfl (bB rfl rfl)))
  | false =>
    rw [c, if_neg (by decide)] at e1
    exact r101 (bs e1 (ifF (show ¬ (2 : Nat) = 1 by decide) (ifT rfl (bS rfl (by simp)))))
end Go.Proofs.Ytnmjhhipbfngkaa.Am
