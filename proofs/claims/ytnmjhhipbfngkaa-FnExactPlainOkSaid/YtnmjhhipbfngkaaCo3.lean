/- Is code right: both loops over all instructions.
Conditions: none. -/
import Derived.Test.YtnmjhhipbfngkaaCo2
set_option linter.unusedSimpArgs false
set_option linter.unusedVariables false
namespace Go.Proofs.Ytnmjhhipbfngkaa.Am
open Go Go.RowKit

def allIns (n : Int) : List In → Bool
  | [] => true
  | x :: r => specB x n && allIns n r
def lastOp (l : List In) : Int := (l.getD (l.length - 1) ⟨0, 0, 0, 0, 0, ⟨#[]⟩⟩).op
def codeOk (l : List In) : Bool := inB (l.length : Int) 1 200 && ((lastOp l == (19 : Int) || lastOp l == (12 : Int)) && allIns (l.length : Int) l)
theorem implCode_loop {base : Nat} {l : List In} {a : Option Addr} (hL : ∀ x ∈ l, x.s.size ≤ 9223372036854775807) (hl : l.length ≤ 9223372036854775807) : ∀ (d i : Nat) (h : AH), i + d = l.length → Sl h a (insR l) → base ≤ h.length →
    ∃ h', loopL (B80_0 base) [some (.slice a l.length l.length), some (.int .i64 (l.length : Int)), some (.slice a l.length l.length), some (.int .i64 (l.length : Int)), some (.int .i64 (i : Int))] h = some (if allIns (l.length : Int) (l.drop i) = true then (2, [some (.slice a l.length l.length), some (.int .i64 (l.length : Int))], h') else (1, [some (.bool false)], h')) ∧ KB NoB h h' := by
  intro d
  induction d with
  | zero =>
    intro i h hi hs hb
    refine ⟨h, ?_, KB.refl _ _⟩
    rw [List.drop_eq_nil_of_le (by omega), show allIns (l.length : Int) [] = true from rfl, if_pos rfl]
    refine loop_off (by decide) ?_
    rw [B80_0_eq]
    exact ifF (by simp; omega) rfl
  | succ d ihd =>
    intro i h hi hs hb
    have hlt : i < l.length := by omega
    obtain ⟨ad, rfl, g0, g1, g2, g3, g4, g5⟩ := In.get hs hlt
    obtain ⟨o1, k1, q1⟩ := box_own (base := base) (t := 116) (h := h) (cs := inV l[i]) hb rfl
    generalize hh1 : h ++ [some (⟨inV l[i], 116⟩ : Blk)] = h1 at o1 k1 q1
    obtain ⟨h2, e2, k2⟩ := implInsOk_run (base := base) (h := h1) (x := l[i]) (n := (l.length : Int)) (hL _ (List.getElem_mem hlt)) (by omega)
    rw [implB_eq] at e2
    have n2 := k2.1
    rw [List.drop_eq_getElem_cons hlt, allIns]
    have head : ∀ {r : Option (Nat × Slots × AH)}, (if (!specB l[i] (l.length : Int)) = true then some (1, [some (.bool false)], h2) else some (0, [some (.slice (some ad) l.length l.length), some (.int .i64 (l.length : Int)), some (.slice (some ad) l.length l.length), some (.int .i64 (l.length : Int)), some (.int .i64 (IntKind.wrap .i64 ((i : Int) + (1 : Int))))], h2)) = r →
        B80_0 base [some (.slice (some ad) l.length l.length), some (.int .i64 (l.length : Int)), some (.slice (some ad) l.length l.length), some (.int .i64 (l.length : Int)), some (.int .i64 (i : Int))] h = r := by
      intro r hr
      rw [B80_0_eq]
      refine ifT (decide_eq_true (by omega)) (ifT ⟨by omega, by omega⟩ (bs rfl ?_))
      simp only [Int.toNat_natCast]
      refine bI g0 (bI g1 (bI g2 (bI g3 (bI g4 (bT g5 (nw hb rfl fun y ey => ?_))))))
      rw [hh1] at ey
      rw [ey]
      exact qi o1 (bs e2 (bB rfl hr))
    cases c : specB l[i] (l.length : Int) with
    | false =>
      refine ⟨h2, ?_, kN k1 k2⟩
      rw [Bool.false_and, if_neg (by decide)]
      exact loop_off (by decide) (head (by rw [c]; exact ifT rfl rfl))
    | true =>
      rw [Bool.true_and]
      obtain ⟨h3, y1, y2⟩ := ihd (i + 1) h2 (by omega) (hs.keepN (kN k1 k2)) (by omega)
      refine ⟨h3, loop_on (head ?_) y1, kN (kN k1 k2) y2⟩
      rw [c, w64i (n := (i : Int) + 1) (by omega) (by omega)]
      exact ifF (by decide) rfl
theorem specCode_loop {base : Nat} {l : List In} {a : Option Addr} (hL : ∀ x ∈ l, x.s.size ≤ 9223372036854775807) (hl : l.length ≤ 9223372036854775807) : ∀ (d i : Nat) (h : AH), i + d = l.length → Sl h a (insR l) → base ≤ h.length →
    ∃ h', loopL (B77_0 base) [some (.slice a l.length l.length), some (.int .i64 (l.length : Int)), some (.int .i64 (i : Int))] h = some (if allIns (l.length : Int) (l.drop i) = true then (2, [], h') else (1, [some (.bool false)], h')) ∧ KB NoB h h' := by
  intro d
  induction d with
  | zero =>
    intro i h hi hs hb
    refine ⟨h, ?_, KB.refl _ _⟩
    rw [List.drop_eq_nil_of_le (by omega), show allIns (l.length : Int) [] = true from rfl, if_pos rfl]
    refine loop_off (by decide) ?_
    rw [B77_0_eq]
    exact ifF (by simp; omega) rfl
  | succ d ihd =>
    intro i h hi hs hb
    have hlt : i < l.length := by omega
    obtain ⟨ad, rfl, g0, g1, g2, g3, g4, g5⟩ := In.get hs hlt
    obtain ⟨h2, e2, k2⟩ := specInsOk_run (base := base) (h := h) (x := l[i]) (n := (l.length : Int)) (hL _ (List.getElem_mem hlt)) (by omega)
    have n2 := k2.1
    rw [List.drop_eq_getElem_cons hlt, allIns]
    have head : ∀ {r : Option (Nat × Slots × AH)}, (if (!specB l[i] (l.length : Int)) = true then some (1, [some (.bool false)], h2) else some (0, [some (.slice (some ad) l.length l.length), some (.int .i64 (l.length : Int)), some (.int .i64 (IntKind.wrap .i64 ((i : Int) + (1 : Int))))], h2)) = r →
        B77_0 base [some (.slice (some ad) l.length l.length), some (.int .i64 (l.length : Int)), some (.int .i64 (i : Int))] h = r := by
      intro r hr
      rw [B77_0_eq]
      refine ifT (decide_eq_true (by omega)) (ifT ⟨by omega, by omega⟩ (bs rfl ?_))
      simp only [Int.toNat_natCast]
      exact bI g0 (bI g1 (bI g2 (bI g3 (bI g4 (bT g5 (bs e2 (bB rfl hr)))))))
    cases c : specB l[i] (l.length : Int) with
    | false =>
      refine ⟨h2, ?_, k2⟩
      rw [Bool.false_and, if_neg (by decide)]
      exact loop_off (by decide) (head (by rw [c]; exact ifT rfl rfl))
    | true =>
      rw [Bool.true_and]
      obtain ⟨h3, y1, y2⟩ := ihd (i + 1) h2 (by omega) (hs.keepN k2) (by omega)
      refine ⟨h3, loop_on (head ?_) y1, kN k2 y2⟩
      rw [c, w64i (n := (i : Int) + 1) (by omega) (by omega)]
      exact ifF (by decide) rfl
theorem last_at {h : AH} {a : Option Addr} {l : List In} (hs : Sl h a (insR l)) (hl : 1 ≤ l.length) (hl2 : l.length ≤ 9223372036854775807) : (0 ≤ IntKind.wrap .i64 ((l.length : Int) - 1) ∧ IntKind.wrap .i64 ((l.length : Int) - 1) < (l.length : Int)) ∧
    ∃ ad, a = some ad ∧ Am.cell h ad.block ((ad.off + Int.toNat (IntKind.wrap .i64 ((l.length : Int) - 1)) * 6) + 0) = some (.int .i64 (lastOp l)) := by
  have hw : IntKind.wrap .i64 ((l.length : Int) - 1) = ((l.length - 1 : Nat) : Int) := by rw [w64i (by omega) (by omega)]; omega
  rw [hw]
  obtain ⟨ad, e, g0, _⟩ := In.get hs (i := l.length - 1) (by omega)
  refine ⟨⟨by omega, by omega⟩, ad, e, ?_⟩
  rw [Int.toNat_natCast, Nat.add_zero, g0]
  unfold lastOp
  rw [List.getD_eq_getElem?_getD, List.getElem?_eq_getElem (by omega)]
  rfl
theorem implCodeOk_run {base : Nat} {h : AH} {l : List In} {a : Option Addr} (hL : ∀ x ∈ l, x.s.size ≤ 9223372036854775807) (hl : l.length ≤ 9223372036854775807) (hs : Sl h a (insR l)) (hb : base ≤ h.length) :
    ∃ h', run (Et base) 80 [.slice a l.length l.length] h = some (.bool (codeOk l), h') ∧ KB NoB h h' := by
  obtain ⟨h1, e1, k1⟩ := implCode_loop (base := base) hL hl l.length 0 h (by omega) hs hb
  rw [List.drop_zero, show ((0 : Nat) : Int) = 0 from rfl] at e1
  refine ⟨h1, ?_, k1⟩
  unfold codeOk
  cases c : allIns (l.length : Int) l with
  | false =>
    rw [c, if_neg (by decide)] at e1
    refine r80 (bs e1 (ifT rfl (bB rfl ?_)))
    rw [Bool.and_false, Bool.and_false]
  | true =>
    rw [c, if_pos rfl] at e1
    refine r80 (bs e1 (ifF (show ¬ (2 : Nat) = 1 by decide) (ifT rfl (bS rfl (bI rfl (bs in_run (bB rfl ?_)))))))
    cases c2 : inB (l.length : Int) 1 200 with
    | false => exact ifF (by decide) rfl
    | true =>
      have hn : 1 ≤ l.length := by unfold inB at c2; simp at c2; omega
      obtain ⟨hin, ad, rfl, g⟩ := last_at (hs.keepN k1) hn hl
      refine ifT rfl (ifT hin (bs rfl (bI g ?_)))
      rw [Bool.and_true, Bool.true_and]
      cases c3 : lastOp l == (19 : Int) with
      | true => exact ifT rfl rfl
      | false => exact ifF (by decide) (ifT hin (bs rfl (bI g (by rw [Bool.false_or]))))
theorem specCodeOk_run {base : Nat} {h : AH} {l : List In} {a : Option Addr} (hL : ∀ x ∈ l, x.s.size ≤ 9223372036854775807) (hl : l.length ≤ 9223372036854775807) (hs : Sl h a (insR l)) (hb : base ≤ h.length) :
    ∃ h', run (Et base) 77 [.slice a l.length l.length] h = some (.bool (codeOk l), h') ∧ KB NoB h h' := by
  have e0 := l1In_run (base := base) (h := h) (x := (l.length : Int)) (a := 1) (b := 200)
  unfold codeOk
  cases c2 : inB (l.length : Int) 1 200 with
  | false =>
    rw [c2] at e0
    exact ⟨h, r77 (bj _ (bs e0 (bB rfl (ifT rfl rfl))) (bS rfl (bI rfl (bB rfl (ifT rfl rfl))))), KB.refl _ _⟩
  | true =>
    rw [c2] at e0
    have hn : 1 ≤ l.length := by unfold inB at c2; simp at c2; omega
    obtain ⟨hin, ad, rfl, g⟩ := last_at hs hn hl
    obtain ⟨h1, e1, k1⟩ := specCode_loop (base := base) hL hl l.length 0 h (by omega) hs hb
    rw [List.drop_zero, show ((0 : Nat) : Int) = 0 from rfl] at e1
    have eJ : ∀ {r : Value × AH}, ((if (!(lastOp l == (19 : Int) || lastOp l == (12 : Int))) = true then some (.bool false, h) else (loopL (B77_0 base) [some (.slice (some ad) l.length l.length), some (.int .i64 (l.length : Int)), some (.int .i64 0)] h).bind fun q11 => (if q11.1 = 1 then ((sget q11.2.1 0).bind getB).bind fun b12 => some ((.bool b12), q11.2.2) else (if q11.1 = 2 then some ((.bool true), q11.2.2) else none))) = some r) →
        run (Et base) 77 [.slice (some ad) l.length l.length] h = some r := by
      intro r hr
      refine r77 (bj (q := ([some (.slice (some ad) l.length l.length), some (.int .i64 (l.length : Int)), some (.bool (!(lastOp l == (19 : Int) || lastOp l == (12 : Int))))], h)) (bs e0 (bB rfl (ifF (by decide) (ifT hin (bs rfl (bI g ?_)))))) (bS rfl (bI rfl (bB rfl hr))))
      cases c3 : lastOp l == (19 : Int) with
      | true => exact ifF (by simp [bne, c3]) rfl
      | false => exact ifT (by simp [bne, c3]) (ifT hin (bs rfl (bI g rfl)))
    cases c3 : (lastOp l == (19 : Int) || lastOp l == (12 : Int)) with
    | false => exact ⟨h, eJ (by rw [c3]; exact ifT rfl rfl), KB.refl _ _⟩
    | true =>
      cases c : allIns (l.length : Int) l with
      | false =>
        rw [c, if_neg (by decide)] at e1
        exact ⟨h1, eJ (by rw [c3]; exact ifF (by decide) (bs e1 (ifT rfl (bB rfl rfl)))), k1⟩
      | true =>
        rw [c, if_pos rfl] at e1
        exact ⟨h1, eJ (by rw [c3]; exact ifF (by decide) (bs e1 (ifF (show ¬ (2 : Nat) = 1 by decide) (ifT rfl rfl)))), k1⟩
end Go.Proofs.Ytnmjhhipbfngkaa.Am
