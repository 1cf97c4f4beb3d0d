/- What the functions of this law compute, lemma by lemma, up to the law.
Conditions: none. -/
import Derived.Test.YtjmkbglnjklbcaaP2
import Derived.IntWalk
import Derived.Laws.BitsLemmas

set_option linter.unusedSimpArgs false
set_option linter.unusedVariables false
namespace Go.Proofs.Ytjmkbglnjklbcaa.Am
open Go Go.RowKit
theorem szW_lead {G : Gn} {w : Int} (hn : Nd G w) : (szW G w == 0) = !leadW w := by
 have hl := tagW_lt w
 unfold szW leadW inB
 by_cases t5 : tagW w = 5
 ·rw [if_pos t5, t5]; rfl
 rw [if_neg t5]
 by_cases t46 : tagW w = 4 ∨ tagW w = 6
 ·rw [if_pos t46]
  have hs : 1 ≤ sz1 G (valW w) := by
   unfold sz1
   rcases t46 with t | t
   ·obtain ⟨v, e, a, b, _⟩ := hn.2.1 t
    rw [e]; simp only; rw [if_pos (by unfold inB; simp; omega)]; omega
   ·obtain ⟨v, e, a, b⟩ := hn.1 t
    rw [e]; simp only; rw [if_pos (by unfold inB; simp; omega)]; omega
  have e1 : (sz1 G (valW w) == 0) = false := by rw [beq_eq_false_iff_ne]; omega
  rw [e1]
  rcases t46 with t | t <;> rw [t] <;> rfl
 ·rw [if_neg t46]
  have : ¬ (4 ≤ tagW w ∧ tagW w ≤ 6) := by omega
  have e2 : (decide (4 ≤ tagW w) && decide (tagW w ≤ 6)) = false := by
   simp only [Bool.and_eq_false_iff, decide_eq_false_iff_not]; omega
  rw [e2]
  rfl
theorem chW_gws {G : Gn} (ho : G.old.length ≤ 1000) {w : Int} (hn : Nd G w) (h6 : tagW w ≠ 6) (hl : leadW w = true) : (gws G (valW w) (szW G w)).drop (if tagW w = 5 then 0 else 1) = chW G w ∧ (gws G (valW w) (szW G w)).length ≤ 9 ∧ (if tagW w = 5 then 0 else 1) ≤ (gws G (valW w) (szW G w)).length := by
 by_cases t5 : tagW w = 5
 ·obtain ⟨a, b⟩ := hn.2.2 t5
  have es : szW G w = 2 := by unfold szW; rw [if_pos t5]
  rw [es, if_pos t5, List.drop_zero]
  have hB : gwB G (valW w) 2 = true := by
   cases h : gwB G (valW w) 2 with
   | true => rfl
   | false =>
    obtain ⟨i, hi, e⟩ := gws_no ho (by omega) h
    cases i with
    | zero => rw [show valW w + ((0 : Nat) : Int) = valW w from by omega] at e; rw [e] at a; cases a
    | succ i =>
     have : i = 0 := by omega
     subst this
     rw [show valW w + ((0 + 1 : Nat) : Int) = valW w + 1 from by omega] at e
     rw [e] at b; cases b
  obtain ⟨x, y, e, e1, e2⟩ := gws_two ho hB
  rw [e]
  refine ⟨?_, by simp, by simp⟩
  unfold chW
  rw [if_pos t5, e1, e2]; rfl
 ·have t4 : tagW w = 4 := by
   unfold leadW inB at hl
   simp only [Bool.and_eq_true, decide_eq_true_eq] at hl
   omega
  obtain ⟨v, e, a, b, hc⟩ := hn.2.1 t4
  have es : szW G w = v + 1 := by
   unfold szW
   rw [if_neg t5, if_pos (.inl t4)]
   unfold sz1
   rw [e]; simp only; rw [if_pos (by unfold inB; simp; omega)]
  rw [es, if_neg t5]
  have hB : gwB G (valW w) (v + 1) = true := by
   cases h : gwB G (valW w) (v + 1) with
   | true => rfl
   | false =>
    obtain ⟨i, hi, e2⟩ := gws_no ho (by omega) h
    cases i with
    | zero => rw [show valW w + ((0 : Nat) : Int) = valW w from by omega, e] at e2; cases e2
    | succ i =>
     have := hc i (by omega)
     rw [show valW w + 1 + (i : Int) = valW w + ((i + 1 : Nat) : Int) from by omega, e2] at this
     cases this
  have hlen := gws_len hB
  refine ⟨?_, by omega, by omega⟩
  unfold chW
  rw [if_neg t5, if_pos t4, e]
  apply List.ext_getElem
  ·simp only [List.length_drop, List.length_map, List.length_range, Option.getD_some]; omega
  ·intro i h1 h2
   simp only [List.length_drop] at h1
   rw [List.getElem_drop, List.getElem_map, List.getElem_range]
   have := gws_at ho hB (i := 1 + i) (by omega)
   rw [show valW w + 1 + (i : Int) = valW w + ((1 + i : Nat) : Int) from by omega, this]
   rfl
def LnR (base : Nat) (oa ya : Option Addr) (G : Gn) (n : Nat) : Prop := ∀ (h : AH) (w fr : Int), wOk w → Fue G n w → wOk fr → GnO base h oa ya G → base ≤ h.length →
 ∃ h', run (Et base) 86 [.agg (gensV oa ya G).toArray, .int .i64 w, .int .i64 fr] h = some (.bool (lnW G n w fr), h') ∧ KB NoB h h'
theorem l6Links_loop {base sb n : Nat} {G : Gn} {oa ya a' : Option Addr} {w fr : Int} {L : List Int} {S V : Fp} {m : Bool} {A : AH → Prop} {h0 : AH} (hL9 : L.length ≤ 9) (hL : ∀ i (hi : i < L.length), (if tagW w = 5 then 0 else 1) ≤ i → wOk L[i] ∧ Fue G n L[i]) (h6 : tagW w ≠ 6) (hfr : wOk fr) (hA : ∀ y, A y → GnO base y oa ya G ∧ Sl y a' (iv .i64 L)) (ih : LnR base oa ya G n) : ∀ (r i : Nat) (h : AH), i + r = L.length → (if tagW w = 5 then 0 else 1) ≤ i → Hs base V h0 h [(sb, 50, gensV oa ya G)] [⟨S, m, A⟩] →
  Wp (loopL (B86_0 base) [some (.int .i64 w), some (.int .i64 fr), some (.pointer (at0 sb)), some (.slice a' L.length L.length), some (.int .i64 (i : Int))] h) fun o => (if (L.drop i).all (fun x => lnW G n x fr) = true then o.1 = 2 else o.1 = 1 ∧ o.2.1 = [some (.bool false)]) ∧ Hs base V h0 o.2.2 [(sb, 50, gensV oa ya G)] [⟨S, m, A⟩] := by
 intro r
 induction r with
 | zero =>
  intro i h hi hf d
  suffices w1 : Wp (B86_0 base [some (.int .i64 w), some (.int .i64 fr), some (.pointer (at0 sb)), some (.slice a' L.length L.length), some (.int .i64 (i : Int))] h) fun o => o = (2, [], h) by
   obtain ⟨o, e, rfl⟩ := w1
   refine ⟨_, loop_off (by decide) e, ?_, d⟩
   rw [List.drop_of_length_le (by omega)]
   rfl
  rw [B86_0_eq]
  refine W.join (W.ifF (by simp; omega) (W.il ?_))
  ((try simp only [n1, n2, n3, n4, n5, n6] at d); (with_reducible repeat first | refine W.a1 d ?_ | refine W.a2 ?_ | refine W.a3 ?_ | refine W.bo ?_ | refine W.a5 d fun hw d lw kw => ?_ | refine W.a6 d ?_ | refine W.a7 ?_ | refine W.a8 ?_))
  exact W.ifF (by decide) (W.ret rfl)
 | succ r ihr =>
  intro i h hi hf d
  have hlt : i < L.length := by omega
  have hx := hL i hlt hf
  have ed : L.drop i = L[i] :: L.drop (i + 1) := List.drop_eq_getElem_cons hlt
  suffices w1 : Wp (B86_0 base [some (.int .i64 w), some (.int .i64 fr), some (.pointer (at0 sb)), some (.slice a' L.length L.length), some (.int .i64 (i : Int))] h) fun o => (if lnW G n L[i] fr = true then o.1 = 0 ∧ o.2.1 = [some (.int .i64 w), some (.int .i64 fr), some (.pointer (at0 sb)), some (.slice a' L.length L.length), some (.int .i64 ((i : Int) + 1))] else o.1 = 1 ∧ o.2.1 = [some (.bool false)]) ∧ Hs base V h0 o.2.2 [(sb, 50, gensV oa ya G)] [⟨S, m, A⟩] by
   obtain ⟨⟨o1, o2, h'⟩, e, y1, d'⟩ := w1
   simp only at y1 d'
   cases hc : lnW G n L[i] fr with
   | true =>
    rw [hc, if_pos rfl] at y1
    obtain ⟨y1, y2⟩ := y1
    subst y1; subst y2
    obtain ⟨o, eo, z1, z2⟩ := ihr (i + 1) h' (by omega) (by omega) d'
    refine ⟨o, loop_on e eo, ?_, z2⟩
    rw [ed, List.all_cons, hc, Bool.true_and]
    exact z1
   | false =>
    rw [hc, if_neg (by decide)] at y1
    obtain ⟨y1, y2⟩ := y1
    subst y1; subst y2
    refine ⟨_, loop_off (by decide) e, ?_, d'⟩
    rw [ed, List.all_cons, hc, Bool.false_and, if_neg (by decide)]
    exact ⟨rfl, rfl⟩
  rw [B86_0_eq]
  refine W.join (W.ifT (decide_eq_true (by omega)) ?_)
  refine W.bs specTag_run ?_
  ((try simp only [n1, n2, n3, n4, n5, n6] at d); (with_reducible repeat first | refine W.a1 d ?_ | refine W.a2 ?_ | refine W.a3 ?_ | refine W.bo ?_ | refine W.a5 d fun hw d lw kw => ?_ | refine W.a6 d ?_ | refine W.a7 ?_ | refine W.a8 ?_))
  refine W.il ?_
  ((try simp only [n1, n2, n3, n4, n5, n6] at d); (with_reducible repeat first | refine W.a1 d ?_ | refine W.a2 ?_ | refine W.a3 ?_ | refine W.bo ?_ | refine W.a5 d fun hw d lw kw => ?_ | refine W.a6 d ?_ | refine W.a7 ?_ | refine W.a8 ?_))
  refine W.ifT (by simpa using h6) ?_
  ((try simp only [n1, n2, n3, n4, n5, n6] at d); (with_reducible repeat first | refine W.a1 d ?_ | refine W.a2 ?_ | refine W.a3 ?_ | refine W.bo ?_ | refine W.a5 d fun hw d lw kw => ?_ | refine W.a6 d ?_ | refine W.a7 ?_ | refine W.a8 ?_))
  obtain ⟨hgn, hsl⟩ := hA _ (d.rs (i := 0) rfl)
  obtain ⟨ad, rfl, g⟩ := hsl.int hlt
  refine W.bs rfl (W.bs (by rw [show Int.toNat (i : Int) * 1 = i from by simp]; exact g) ?_)
  obtain ⟨h1, e1, k1⟩ := ih h L[i] fr hx.1 hx.2 hfr hgn d.ge
  refine W.bs e1 ?_
  have d := d.kN k1
  ((try simp only [n1, n2, n3, n4, n5, n6] at d); (with_reducible repeat first | refine W.a1 d ?_ | refine W.a2 ?_ | refine W.a3 ?_ | refine W.bo ?_ | refine W.a5 d fun hw d lw kw => ?_ | refine W.a6 d ?_ | refine W.a7 ?_ | refine W.a8 ?_))
  cases hc : lnW G n L[i] fr with
  | true =>
   refine W.ifF (by decide) (W.ret ⟨?_, d⟩)
   rw [w64i (n := (i : Int) + 1) (by omega) (by omega), if_pos rfl]
   exact ⟨rfl, rfl⟩
  | false =>
   refine W.ifT rfl (W.ret ⟨?_, d⟩)
   rw [if_neg (by decide)]
   exact ⟨rfl, rfl⟩
theorem l6Links_all {base : Nat} {G : Gn} {oa ya : Option Addr} (hG : G.Ok) (ho : G.old.length ≤ 1000) (hm : 0 ≤ G.mark ∧ G.mark ≤ 1000) : ∀ n, LnR base oa ya G n
 | 0 => fun h w fr _ hf => hf.elim
 | n + 1 => by
  intro h w fr hwk hf hfr x hb
  have ih := l6Links_all (base := base) (oa := oa) (ya := ya) hG ho hm n
  have d := x.inp hb
  have vnn := valW_nn w
  have hsz := szW_le G w
  suffices W : Wp (run (Et base) 86 [.agg (gensV oa ya G).toArray, .int .i64 w, .int .i64 fr] h) fun o => o.1 = .bool (lnW G (n + 1) w fr) ∧ KB NoB h o.2 by
   obtain ⟨⟨o1, o2⟩, e, y1, y2⟩ := W
   simp only at y1 y2
   subst y1
   exact ⟨o2, e, y2⟩
  refine W.of (fun r hx => Am.r86 hx) ?_
  ((try simp only [n1, n2, n3, n4, n5, n6] at d); (with_reducible repeat first | refine W.a1 d ?_ | refine W.a2 ?_ | refine W.a3 ?_ | refine W.bo ?_ | refine W.a5 d fun hw d lw kw => ?_ | refine W.a6 d ?_ | refine W.a7 ?_ | refine W.a8 ?_); (refine W.nD d fun h1 d _ kh1 => ?_); (with_reducible repeat first | refine W.a1 d ?_ | refine W.a2 ?_ | refine W.a3 ?_ | refine W.bo ?_ | refine W.a5 d fun hw d lw kw => ?_ | refine W.a6 d ?_ | refine W.a7 ?_ | refine W.a8 ?_))
  obtain ⟨h2, e2, k2⟩ := l6Size_run (base := base) hG ho hwk (d.rs (i := 0) rfl : GnO base h1 oa ya G) d.ge
  refine W.bs e2 ?_
  have d := d.kN k2
  ((try simp only [n1, n2, n3, n4, n5, n6] at d); (with_reducible repeat first | refine W.a1 d ?_ | refine W.a2 ?_ | refine W.a3 ?_ | refine W.bo ?_ | refine W.a5 d fun hw d lw kw => ?_ | refine W.a6 d ?_ | refine W.a7 ?_ | refine W.a8 ?_))
  rw [szW_lead hf.1]
  refine W.ite (fun c => ?_) (fun c => ?_)
  ·have c : leadW w = false := by simpa using c
   refine W.ret ⟨?_, d.kb⟩
   rw [lnW, c]; rfl
  have c : leadW w = true := by simpa using c
  refine W.bs (specVal_run hwk.2) ?_
  ((try simp only [n1, n2, n3, n4, n5, n6] at d); (with_reducible repeat first | refine W.a1 d ?_ | refine W.a2 ?_ | refine W.a3 ?_ | refine W.bo ?_ | refine W.a5 d fun hw d lw kw => ?_ | refine W.a6 d ?_ | refine W.a7 ?_ | refine W.a8 ?_))
  refine W.ite (fun c2 => ?_) (fun c2 => ?_)
  ·refine W.ret ⟨?_, d.kb⟩
   rw [lnW, c, c2]; rfl
  have c2 : decide (valW w ≥ fr) = false := by simpa using c2
  refine W.joinP (fun q => q.1 = [some (.int .i64 w), some (.int .i64 (nxt G (valW w) fr)), some (.pointer (at0 h.length)), some (.int .i64 (szW G w)), some (.int .i64 (valW w))] ∧ q.2 = h2) ?_ fun q hq => ?_
  ·refine W.ite (fun c3 => ?_) (fun c3 => ?_)
   ·have c3 : valW w < 100000 := by simpa using c3
    refine W.inl ⟨?_, rfl⟩
    unfold nxt; rw [if_pos c3]
   ·have c3 : ¬ valW w < 100000 := by simpa using c3
    refine W.joinP (fun q => q.1 = [some (.int .i64 w), some (.int .i64 fr), some (.pointer (at0 h.length)), some (.int .i64 (szW G w)), some (.int .i64 (valW w)), some (.bool (decide (valW w < 100000 + G.mark ∧ fr > 100000 + G.mark)))] ∧ q.2 = h2) ?_ fun q hq => ?_
    ·((try simp only [n1, n2, n3, n4, n5, n6] at d); (with_reducible repeat first | refine W.a1 d ?_ | refine W.a2 ?_ | refine W.a3 ?_ | refine W.bo ?_ | refine W.a5 d fun hw d lw kw => ?_ | refine W.a6 d ?_ | refine W.a7 ?_ | refine W.a8 ?_))
     rw [w64i (n := 100000 + G.mark) (by omega) (by omega)]
     refine W.ite (fun c4 => ?_) (fun c4 => ?_)
     ·have c4 : valW w < 100000 + G.mark := by simpa using c4
      ((try simp only [n1, n2, n3, n4, n5, n6] at d); (with_reducible repeat first | refine W.a1 d ?_ | refine W.a2 ?_ | refine W.a3 ?_ | refine W.bo ?_ | refine W.a5 d fun hw d lw kw => ?_ | refine W.a6 d ?_ | refine W.a7 ?_ | refine W.a8 ?_))
      rw [w64i (n := 100000 + G.mark) (by omega) (by omega)]
      refine W.inl ⟨?_, rfl⟩
      simp [c4]
     ·have c4 : ¬ valW w < 100000 + G.mark := by simpa using c4
      refine W.inl ⟨?_, rfl⟩
      simp [c4]
    obtain ⟨q1, q2⟩ := q
    obtain ⟨e, eq2⟩ := hq
    simp only at e eq2
    subst e; subst eq2
    ((try simp only [n1, n2, n3, n4, n5, n6] at d); (with_reducible repeat first | refine W.a1 d ?_ | refine W.a2 ?_ | refine W.a3 ?_ | refine W.bo ?_ | refine W.a5 d fun hw d lw kw => ?_ | refine W.a6 d ?_ | refine W.a7 ?_ | refine W.a8 ?_))
    refine W.ite (fun c5 => ?_) (fun c5 => ?_)
    ·have c5 : valW w < 100000 + G.mark ∧ fr > 100000 + G.mark := of_decide_eq_true c5
     ((try simp only [n1, n2, n3, n4, n5, n6] at d); (with_reducible repeat first | refine W.a1 d ?_ | refine W.a2 ?_ | refine W.a3 ?_ | refine W.bo ?_ | refine W.a5 d fun hw d lw kw => ?_ | refine W.a6 d ?_ | refine W.a7 ?_ | refine W.a8 ?_))
     rw [w64i (n := 100000 + G.mark) (by omega) (by omega)]
     refine W.inl ⟨?_, rfl⟩
     unfold nxt; rw [if_neg c3, if_pos c5]
    ·have c5 : ¬ (valW w < 100000 + G.mark ∧ fr > 100000 + G.mark) := fun h => c5 (decide_eq_true h)
     refine W.inl ⟨?_, rfl⟩
     unfold nxt; rw [if_neg c3, if_neg c5]
  obtain ⟨q1, q2⟩ := q
  obtain ⟨e, eq2⟩ := hq
  simp only at e eq2
  subst e; subst eq2
  ((try simp only [n1, n2, n3, n4, n5, n6] at d); (with_reducible repeat first | refine W.a1 d ?_ | refine W.a2 ?_ | refine W.a3 ?_ | refine W.bo ?_ | refine W.a5 d fun hw d lw kw => ?_ | refine W.a6 d ?_ | refine W.a7 ?_ | refine W.a8 ?_))
  obtain ⟨a', h3, e3, s3, k3, x3⟩ := l6Words_run (base := base) (p := valW w) (n := szW G w) hG (valW_ok hwk) ⟨by omega, by omega⟩ (d.rs (i := 0) rfl : GnO base q2 oa ya G) d.ge
  refine W.bs e3 ?_
  have d := d.kN k3
  ((try simp only [n1, n2, n3, n4, n5, n6] at d); (with_reducible repeat first | refine W.a1 d ?_ | refine W.a2 ?_ | refine W.a3 ?_ | refine W.bo ?_ | refine W.a5 d fun hw d lw kw => ?_ | refine W.a6 d ?_ | refine W.a7 ?_ | refine W.a8 ?_))
  refine W.joinP (fun q => q = ([some (.int .i64 w), some (.int .i64 (nxt G (valW w) fr)), some (.pointer (at0 h.length)), some (.slice a' (gws G (valW w) (szW G w)).length (gws G (valW w) (szW G w)).length), some (.int .i64 (((if tagW w = 5 then 0 else 1 : Nat)) : Int))], h3)) ?_ fun q hq => ?_
  ·refine W.bs specTag_run ?_
   ((try simp only [n1, n2, n3, n4, n5, n6] at d); (with_reducible repeat first | refine W.a1 d ?_ | refine W.a2 ?_ | refine W.a3 ?_ | refine W.bo ?_ | refine W.a5 d fun hw d lw kw => ?_ | refine W.a6 d ?_ | refine W.a7 ?_ | refine W.a8 ?_))
   refine W.ite (fun t => ?_) (fun t => ?_)
   ·have t : ¬ tagW w = 5 := by simpa using t
    rw [if_neg t]; exact W.inl rfl
   ·have t : tagW w = 5 := by simpa using t
    rw [if_pos t]; exact W.inl rfl
  subst hq
  ((try simp only [n1, n2, n3, n4, n5, n6] at d); (with_reducible repeat first | refine W.a1 d ?_ | refine W.a2 ?_ | refine W.a3 ?_ | refine W.bo ?_ | refine W.a5 d fun hw d lw kw => ?_ | refine W.a6 d ?_ | refine W.a7 ?_ | refine W.a8 ?_))
  have hfr2 : wOk (nxt G (valW w) fr) := by
   unfold nxt
   split
   ·exact ⟨by decide, by decide⟩
   ·split
    ·exact ⟨by omega, by omega⟩
    ·exact hfr
  have eL : lnW G (n + 1) w fr = (chW G w).all (fun x => lnW G n x (nxt G (valW w) fr)) := by
   rw [lnW, c, c2]; rfl
  rw [eL]
  by_cases t6 : tagW w = 6
  ·have ec : chW G w = [] := by unfold chW; rw [if_neg (by omega), if_neg (by omega)]
   rw [ec]
   suffices w1 : ∀ (i : Nat) (L : List Int), Wp (loopL (B86_0 base) [some (.int .i64 w), some (.int .i64 (nxt G (valW w) fr)), some (.pointer (at0 h.length)), some (.slice a' L.length L.length), some (.int .i64 (i : Int))] h3) fun o => o = (2, [], h3) by
    refine W.wb (w1 _ _) ?_
    rintro o rfl
    exact W.ifF (show ¬ (2 : Nat) = 1 by decide) (W.ifT rfl (W.ret ⟨rfl, d.kb⟩))
   intro i L
   suffices w2 : Wp (B86_0 base [some (.int .i64 w), some (.int .i64 (nxt G (valW w) fr)), some (.pointer (at0 h.length)), some (.slice a' L.length L.length), some (.int .i64 (i : Int))] h3) fun o => o = (2, [], h3) by
    obtain ⟨o, e, rfl⟩ := w2
    exact ⟨_, loop_off (by decide) e, rfl⟩
   rw [B86_0_eq]
   refine W.joinP (fun q => q = ([some (.int .i64 w), some (.int .i64 (nxt G (valW w) fr)), some (.pointer (at0 h.length)), some (.slice a' L.length L.length), some (.int .i64 (i : Int)), some (.bool false)], h3)) ?_ fun q hq => ?_
   ·refine W.ite (fun _ => ?_) (fun _ => W.inl rfl)
    refine W.bs specTag_run ?_
    ((try simp only [n1, n2, n3, n4, n5, n6] at d); (with_reducible repeat first | refine W.a1 d ?_ | refine W.a2 ?_ | refine W.a3 ?_ | refine W.bo ?_ | refine W.a5 d fun hw d lw kw => ?_ | refine W.a6 d ?_ | refine W.a7 ?_ | refine W.a8 ?_))
    refine W.inl ?_
    rw [t6]; rfl
   subst hq
   ((try simp only [n1, n2, n3, n4, n5, n6] at d); (with_reducible repeat first | refine W.a1 d ?_ | refine W.a2 ?_ | refine W.a3 ?_ | refine W.bo ?_ | refine W.a5 d fun hw d lw kw => ?_ | refine W.a6 d ?_ | refine W.a7 ?_ | refine W.a8 ?_))
   exact W.ifF (by decide) (W.ret rfl)
  ·obtain ⟨ec, hl9, hfi⟩ := chW_gws ho hf.1 t6 c
   have hB : gwB G (valW w) (szW G w) = true ∨ gws G (valW w) (szW G w) = [] := by
    cases hb2 : gwB G (valW w) (szW G w) with
    | true => exact .inl rfl
    | false => right; unfold gws; rw [if_neg (by rw [hb2]; decide)]
   have hs3 : ∀ y, GnO base y oa ya G → Sl y a' (iv .i64 (gws G (valW w) (szW G w))) := fun y hy => by
    rcases hB with hB | hB
    ·rw [x3 hB]; exact hy.sl hB
    ·rw [hB]; exact .inl rfl
   refine W.wb (l6Links_loop (base := base) (n := n) (L := gws G (valW w) (szW G w)) (w := w) (A := fun y => GnO base y oa ya G) hl9 (fun i hi hfi2 => ?_) t6 hfr2 (fun y hy => ⟨hy, hs3 y hy⟩) ih ((gws G (valW w) (szW G w)).length - (if tagW w = 5 then 0 else 1)) (if tagW w = 5 then 0 else 1) h3 (by omega) (Nat.le_refl _) d) ?_
   ·have hm : (gws G (valW w) (szW G w))[i] ∈ chW G w := by
     rw [← ec]
     rw [List.mem_iff_getElem]
     refine ⟨i - (if tagW w = 5 then 0 else 1), by rw [List.length_drop]; omega, ?_⟩
     rw [List.getElem_drop]
     congr 1
     omega
    exact ⟨chW_ok hG hm, hf.2 _ hm⟩
   rintro ⟨o1, o2, h4⟩ ⟨y1, d⟩
   simp only at y1 d
   rw [ec] at y1
   cases ha : (chW G w).all (fun x => lnW G n x (nxt G (valW w) fr)) with
   | true =>
    rw [ha, if_pos rfl] at y1
    subst y1
    exact W.ifF (show ¬ (2 : Nat) = 1 by decide) (W.ifT rfl (W.ret ⟨rfl, d.kb⟩))
   | false =>
    rw [ha, if_neg (by decide)] at y1
    obtain ⟨y1, y2⟩ := y1
    subst y1; subst y2
    exact W.ifT rfl (W.bB rfl (W.ret ⟨rfl, d.kb⟩))
end Go.Proofs.Ytjmkbglnjklbcaa.Am
set_option linter.unusedSimpArgs false
set_option linter.unusedVariables false
namespace Go.Proofs.Ytjmkbglnjklbcaa.Am
open Go Go.RowKit
def stV (l : List ByteArray) : List Value := l.map .string
theorem stV_len (l : List ByteArray) : (stV l).length = l.length := List.length_map _
def aix (s : ByteArray) : List ByteArray → Nat → Int
 | [], _ => -1
 | x :: r, i => if (x.toList == s.toList) = true then (i : Int) else aix s r (i + 1)
theorem str_at {h : AH} {a : Option Addr} {l : List ByteArray} (hs : Sl h a (stV l)) {i : Nat} (hi : i < l.length) : ∃ ad, a = some ad ∧ Am.cell h ad.block (ad.off + i) = some (.string l[i]) :=
 hs.cell (i := i) (v := .string l[i]) (by unfold stV; simp [hi])
theorem aix_nn (s : ByteArray) : ∀ (l : List ByteArray) (k : Nat), decide (aix s l k ≥ 0) = l.any fun x => x.toList == s.toList
 | [], k => rfl
 | x :: r, k => by
  rw [aix, List.any_cons]
  cases hc : (x.toList == s.toList) with
  | true => rw [if_pos rfl]; simp
  | false => rw [if_neg (by decide), aix_nn s r (k + 1), Bool.false_or]
theorem aix_eq (s : ByteArray) : ∀ (l : List ByteArray) (k i : Nat) (hi : i < l.length), l[i] = s → (aix s l k != ((k + i : Nat) : Int)) = (l.take i).any fun x => x.toList == s.toList
 | [], k, i, hi, _ => by simp at hi
 | x :: r, k, 0, hi, e => by
  simp only [List.getElem_cons_zero] at e
  subst e
  rw [aix, if_pos (by simp)]
  simp
 | x :: r, k, i + 1, hi, e => by
  rw [aix, List.take_succ_cons, List.any_cons]
  cases hc : (x.toList == s.toList) with
  | true =>
   rw [if_pos rfl, Bool.true_or, bne_iff_ne]
   omega
  | false =>
   rw [if_neg (by decide), Bool.false_or, ← aix_eq s r (k + 1) i (by simpa using hi) (by simpa using e)]
   rw [show k + (i + 1) = k + 1 + i from by omega]
theorem specAtomAt_run {base : Nat} {h : AH} {l : List ByteArray} {a : Option Addr} {s : ByteArray} (hl : l.length ≤ 9223372036854775807) (hs : Sl h a (stV l)) : run (Et base) 140 [.slice a l.length l.length, .string s] h = some (.int .i64 (aix s l 0), h) := by
 have loop : ∀ (r i : Nat), i + r = l.length → loopL (B140_0 base) [some (.slice a l.length l.length), some (.string s), some (.int .i64 (i : Int))] h = some (if aix s (l.drop i) i = -1 then (2, [], h) else (1, [some (.int .i64 (aix s (l.drop i) i))], h)) := by
  intro r
  induction r with
  | zero =>
   intro i hi
   rw [List.drop_of_length_le (by omega)]
   refine loop_off (by decide) ?_
   rw [B140_0_eq]
   exact ifF (by simp; omega) rfl
  | succ r ih =>
   intro i hi
   have hlt : i < l.length := by omega
   obtain ⟨ad, rfl, g⟩ := str_at hs hlt
   rw [List.drop_eq_getElem_cons hlt, aix]
   cases hc : (l[i].toList == s.toList) with
   | true =>
    rw [if_pos rfl, if_neg (by omega)]
    refine loop_off (by decide) ?_
    rw [B140_0_eq]
    refine ifT (decide_eq_true (by omega)) (ifT (by omega) (bs rfl (bT (by rw [show Int.toNat (i : Int) * 1 = i from by simp]; exact g) (ifT hc rfl))))
   | false =>
    simp only [Bool.false_eq_true, if_false]
    refine loop_on ?_ (ih (i + 1) (by omega))
    rw [B140_0_eq]
    refine ifT (decide_eq_true (by omega)) (ifT (by omega) (bs rfl (bT (by rw [show Int.toNat (i : Int) * 1 = i from by simp]; exact g) (ifF (by rw [hc]; decide) ?_))))
    rw [w64i (by omega) (by omega)]
    rfl
 have e := loop l.length 0 (by omega)
 rw [show ((0 : Nat) : Int) = 0 from rfl, List.drop_zero] at e
 refine Am.r140 (bs e ?_)
 by_cases c : aix s l 0 = -1
 ·rw [if_pos c]
  exact ifF (show ¬ (2 : Nat) = 1 by decide) (ifT rfl (by rw [c]))
 ·rw [if_neg c]
  exact ifT rfl (bI rfl rfl)
theorem implAtomAt_run {base : Nat} {h : AH} {l : List ByteArray} {a : Option Addr} {s : ByteArray} (hl : l.length ≤ 9223372036854775807) (hs : Sl h a (stV l)) : run (Et base) 147 [.slice a l.length l.length, .string s] h = some (.int .i64 (aix s l 0), h) := by
 have loop : ∀ (r i : Nat), i + r = l.length → loopL (B147_0 base) [some (.string s), some (.slice a l.length l.length), some (.int .i64 (l.length : Int)), some (.int .i64 (i : Int))] h = some (if aix s (l.drop i) i = -1 then (2, [], h) else (1, [some (.int .i64 (aix s (l.drop i) i))], h)) := by
  intro r
  induction r with
  | zero =>
   intro i hi
   rw [List.drop_of_length_le (by omega)]
   refine loop_off (by decide) ?_
   rw [B147_0_eq]
   exact ifF (by simp; omega) rfl
  | succ r ih =>
   intro i hi
   have hlt : i < l.length := by omega
   obtain ⟨ad, rfl, g⟩ := str_at hs hlt
   rw [List.drop_eq_getElem_cons hlt, aix]
   cases hc : (l[i].toList == s.toList) with
   | true =>
    rw [if_pos rfl, if_neg (by omega)]
    refine loop_off (by decide) ?_
    rw [B147_0_eq]
    refine ifT (decide_eq_true (by omega)) (ifT (by omega) (bs rfl (bT (by rw [show Int.toNat (i : Int) * 1 = i from by simp]; exact g) (ifT hc rfl))))
   | false =>
    simp only [Bool.false_eq_true, if_false]
    refine loop_on ?_ (ih (i + 1) (by omega))
    rw [B147_0_eq]
    refine ifT (decide_eq_true (by omega)) (ifT (by omega) (bs rfl (bT (by rw [show Int.toNat (i : Int) * 1 = i from by simp]; exact g) (ifF (by rw [hc]; decide) ?_))))
    rw [w64i (by omega) (by omega)]
    rfl
 have e := loop l.length 0 (by omega)
 rw [show ((0 : Nat) : Int) = 0 from rfl, List.drop_zero] at e
 refine Am.r147 (bs e ?_)
 by_cases c : aix s l 0 = -1
 ·rw [if_pos c]
  exact ifF (show ¬ (2 : Nat) = 1 by decide) (ifT rfl (by rw [c]))
 ·rw [if_neg c]
  exact ifT rfl (bI rfl rfl)
def atBad (l : List ByteArray) (i : Nat) : Bool := !atomOk (l.getD i ⟨#[]⟩) || (l.take i).any fun x => x.toList == (l.getD i ⟨#[]⟩).toList
def atAny (l : List ByteArray) : Nat → Nat → Bool
 | 0, _ => false
 | r + 1, i => atBad l i || atAny l r (i + 1)
def atsOk (l : List ByteArray) : Bool := !atAny l l.length 0 && decide ((l.length : Int) ≤ 200)
theorem l5Atoms_run {base : Nat} {h : AH} {l : List ByteArray} {a : Option Addr} (hl : l.length ≤ 9223372036854775807) (hz : ∀ s ∈ l, s.size ≤ 9223372036854775807) (hs : Sl h a (stV l)) : run (Et base) 84 [.slice a l.length l.length] h = some (.bool (atsOk l), h) := by
 have loop : ∀ (r i : Nat), i + r = l.length → loopL (B84_0 base) [some (.slice a l.length l.length), some (.int .i64 (i : Int))] h = some (if atAny l r i = true then (1, [some (.bool false)], h) else (2, [some (.slice a l.length l.length)], h)) := by
  intro r
  induction r with
  | zero =>
   intro i hi
   rw [atAny, if_neg (by decide)]
   refine loop_off (by decide) ?_
   rw [B84_0_eq]
   exact ifF (by simp; omega) rfl
  | succ r ih =>
   intro i hi
   have hlt : i < l.length := by omega
   have eg : l.getD i ⟨#[]⟩ = l[i] := by simp [hlt]
   obtain ⟨ad, rfl, g⟩ := str_at hs hlt
   have step : B84_0 base [some (.slice (some ad) l.length l.length), some (.int .i64 (i : Int))] h = some (if atBad l i = true then (1, [some (.bool false)], h) else (0, [some (.slice (some ad) l.length l.length), some (.int .i64 ((i + 1 : Nat) : Int))], h)) := by
    have e1 : IntKind.i64.wrap ((i : Int) + 1) = ((i + 1 : Nat) : Int) := by rw [w64i (by omega) (by omega)]; rfl
    rw [B84_0_eq]
    refine ifT (decide_eq_true (by omega)) ?_
    refine bj (q := ([some (.slice (some ad) l.length l.length), some (.int .i64 (i : Int)), some (.bool (atBad l i))], h)) ?_ ?_
    ·refine ifT (by omega) (bs rfl (bT (by rw [show Int.toNat (i : Int) * 1 = i from by simp]; exact g) ?_))
     refine bs (specAtomOk_run (hz _ (List.getElem_mem _))) (bB rfl ?_)
     unfold atBad
     rw [eg]
     cases hc : atomOk l[i] with
     | false => exact ifT rfl rfl
     | true =>
      refine ifF (by decide) (ifT (by omega) (bs rfl (bT (by rw [show Int.toNat (i : Int) * 1 = i from by simp]; exact g) ?_)))
      refine bs (specAtomAt_run hl hs) (bI rfl ?_)
      have := aix_eq l[i] l 0 i hlt rfl
      rw [Nat.zero_add] at this
      rw [this]
      rfl
    ·refine bS rfl (bI rfl (bB rfl ?_))
     cases atBad l i with
     | true => exact ifT rfl rfl
     | false => exact ifF (by decide) (by rw [e1]; rfl)
   rw [atAny]
   cases hb : atBad l i with
   | true =>
    rw [hb, if_pos rfl] at step
    rw [Bool.true_or, if_pos rfl]
    exact loop_off (by decide) step
   | false =>
    rw [hb, if_neg (by decide)] at step
    rw [Bool.false_or]
    exact loop_on step (ih (i + 1) (by omega))
 have e := loop l.length 0 (by omega)
 rw [show ((0 : Nat) : Int) = 0 from rfl] at e
 refine Am.r84 (bs e ?_)
 unfold atsOk
 cases atAny l l.length 0 with
 | true => exact ifT rfl (bB rfl rfl)
 | false => exact ifF (show ¬ (2 : Nat) = 1 by decide) (ifT rfl (bS rfl rfl))
theorem atomsOk_run {base : Nat} {h : AH} {l : List ByteArray} {a : Option Addr} (hl : l.length ≤ 9223372036854775807) (hz : ∀ s ∈ l, s.size ≤ 9223372036854775807) (hty : TyOk base h a 9) (hs : Sl h a (stV l)) : run (Et base) 88 [.slice a l.length l.length] h = some (.bool (atsOk l), h) := by
 have loop : ∀ (r i : Nat), i + r = l.length → loopL (B88_0 base) [some (.slice a l.length l.length), some (.slice a l.length l.length), some (.int .i64 (l.length : Int)), some (.int .i64 (i : Int))] h = some (if atAny l r i = true then (1, [some (.bool false)], h) else (2, [some (.slice a l.length l.length)], h)) := by
  intro r
  induction r with
  | zero =>
   intro i hi
   rw [atAny, if_neg (by decide)]
   refine loop_off (by decide) ?_
   rw [B88_0_eq]
   exact ifF (by simp; omega) rfl
  | succ r ih =>
   intro i hi
   have hlt : i < l.length := by omega
   have eg : l.getD i ⟨#[]⟩ = l[i] := by simp [hlt]
   obtain ⟨ad, rfl, g⟩ := str_at hs hlt
   have step : B88_0 base [some (.slice (some ad) l.length l.length), some (.slice (some ad) l.length l.length), some (.int .i64 (l.length : Int)), some (.int .i64 (i : Int))] h = some (if atBad l i = true then (1, [some (.bool false)], h) else (0, [some (.slice (some ad) l.length l.length), some (.slice (some ad) l.length l.length), some (.int .i64 (l.length : Int)), some (.int .i64 ((i + 1 : Nat) : Int))], h)) := by
    have e1 : IntKind.i64.wrap ((i : Int) + 1) = ((i + 1 : Nat) : Int) := by rw [w64i (by omega) (by omega)]; rfl
    rw [B88_0_eq]
    refine ifT (decide_eq_true (by omega)) (ifT (by omega) (bs rfl (bT (by rw [show Int.toNat (i : Int) * 1 = i from by simp]; exact g) ?_)))
    refine bj (q := ([some (.slice (some ad) l.length l.length), some (.slice (some ad) l.length l.length), some (.int .i64 (l.length : Int)), some (.int .i64 (i : Int)), some (.bool (atBad l i))], h)) ?_ ?_
    ·refine bs (implAtomOk_run (hz _ (List.getElem_mem _))) (bB rfl ?_)
     unfold atBad
     rw [eg]
     cases hc : atomOk l[i] with
     | false => exact ifT rfl rfl
     | true =>
      refine ifF (by decide) (ifT ⟨by omega, by omega, by omega, hty.ok _⟩ ?_)
      have hp : Sl h (shiftA (some ad) 0) (stV (l.take i)) := by
       have := hs.part (n := 0) (m := i) (by rw [stV_len]; omega)
       rw [List.drop_zero] at this
       unfold stV at this ⊢
       rw [List.map_take]
       exact this
      have hlen : (l.take i).length = i := by rw [List.length_take]; omega
      have e2 := implAtomAt_run (base := base) (l := l.take i) (s := l[i]) (by omega) hp
      rw [hlen] at e2
      refine bs e2 (bI rfl ?_)
      rw [aix_nn]
      rfl
    ·refine bS rfl (bS rfl (bI rfl (bI rfl (bB rfl ?_))))
     cases atBad l i with
     | true => exact ifT rfl rfl
     | false => exact ifF (by decide) (by rw [e1]; rfl)
   rw [atAny]
   cases hb : atBad l i with
   | true =>
    rw [hb, if_pos rfl] at step
    rw [Bool.true_or, if_pos rfl]
    exact loop_off (by decide) step
   | false =>
    rw [hb, if_neg (by decide)] at step
    rw [Bool.false_or]
    exact loop_on step (ih (i + 1) (by omega))
 have e := loop l.length 0 (by omega)
 rw [show ((0 : Nat) : Int) = 0 from rfl] at e
 refine Am.r88 (bs e ?_)
 unfold atsOk
 cases atAny l l.length 0 with
 | true => exact ifT rfl (bB rfl rfl)
 | false => exact ifF (show ¬ (2 : Nat) = 1 by decide) (ifT rfl (bS rfl rfl))
end Go.Proofs.Ytjmkbglnjklbcaa.Am
set_option linter.unusedSimpArgs false
set_option linter.unusedVariables false
namespace Go.Proofs.Ytjmkbglnjklbcaa.Am
open Go Go.RowKit
def rootOk (G : Gn) (ats : List ByteArray) (w : Int) : Bool := (gRd G ats w).2 && dnW G 133 w
def gHead (G : Gn) (ats : List ByteArray) : Bool := if decide ((G.old.length : Int) > 1000) = true then true else if decide ((G.young.length : Int) > 1000) = true then true else if (!inB G.mark 0 G.young.length) = true then true else !atsOk ats
def gOk (G : Gn) (ats : List ByteArray) (roots : List Int) : Bool := !gHead G ats && roots.all (rootOk G ats)
theorem gHead_ok {G : Gn} {ats : List ByteArray} (h : gHead G ats = false) : G.old.length ≤ 1000 ∧ G.young.length ≤ 1000 ∧ (0 ≤ G.mark ∧ G.mark ≤ G.young.length) ∧ atsOk ats = true := by
 unfold gHead at h
 by_cases a : (G.old.length : Int) > 1000
 ·rw [if_pos (decide_eq_true a)] at h; cases h
 rw [if_neg (by simpa using a)] at h
 by_cases b : (G.young.length : Int) > 1000
 ·rw [if_pos (decide_eq_true b)] at h; cases h
 rw [if_neg (by simpa using b)] at h
 cases c : inB G.mark 0 G.young.length with
 | false => rw [c] at h; cases h
 | true =>
  rw [c] at h
  have c : 0 ≤ G.mark ∧ G.mark ≤ G.young.length := by unfold inB at c; simpa using c
  refine ⟨by omega, by omega, c, ?_⟩
  simpa using h
theorem gRd_fue {G : Gn} {ats : List ByteArray} {w : Int} (h : (gRd G ats w).2 = true) : Fue G 133 w := by
 obtain ⟨y, e, _⟩ := gRd_ok h
 exact rdT_fue 6 w 0 y e
abbrev gnD (base : Nat) (V : Fp) (h0 h : AH) (sb : Nat) (oa ya : Option Addr) (G : Gn) (S : Fp) (m : Bool) (A : AH → Prop) : Prop := Hs base V h0 h [(sb, 50, gensV oa ya G)] [⟨S, m, A⟩]
theorem implGensOk_loop {base sb : Nat} {oa ya aa ra : Option Addr} {G : Gn} {ats : List ByteArray} {roots : List Int} {S V : Fp} {m : Bool} {A : AH → Prop} {h0 : AH} (hG : G.Ok) (ha : ats.length ≤ 1048576) (hz : ∀ s ∈ ats, s.size ≤ maxLen) (hr : ∀ w ∈ roots, wOk w) (hrl : roots.length ≤ 9223372036854775807) (hA : ∀ y, A y → RdA base oa ya G aa ats y ∧ Sl y ra (iv .i64 roots)) : ∀ (r i : Nat) (h : AH), i + r = roots.length → gnD base V h0 h sb oa ya G S m A →
  Wp (loopL (B36_0 base) [some (.slice aa ats.length ats.length), some (.pointer (at0 sb)), some (.slice ra roots.length roots.length), some (.int .i64 (roots.length : Int)), some (.int .i64 (i : Int))] h) fun o => (if (roots.drop i).all (rootOk G ats) = true then o.1 = 2 else o.1 = 1 ∧ o.2.1 = [some (.bool false)]) ∧ gnD base V h0 o.2.2 sb oa ya G S m A := by
 intro r
 induction r with
 | zero =>
  intro i h hi d
  suffices w1 : Wp (B36_0 base [some (.slice aa ats.length ats.length), some (.pointer (at0 sb)), some (.slice ra roots.length roots.length), some (.int .i64 (roots.length : Int)), some (.int .i64 (i : Int))] h) fun o => o = (2, [], h) by
   obtain ⟨o, e, rfl⟩ := w1
   refine ⟨_, loop_off (by decide) e, ?_, d⟩
   rw [List.drop_of_length_le (by omega)]
   rfl
  rw [B36_0_eq]
  exact W.ifF (by simp; omega) (W.ret rfl)
 | succ r ihr =>
  intro i h hi d
  have hlt : i < roots.length := by omega
  have hwk := hr roots[i] (List.getElem_mem _)
  have ed : roots.drop i = roots[i] :: roots.drop (i + 1) := List.drop_eq_getElem_cons hlt
  suffices w1 : Wp (B36_0 base [some (.slice aa ats.length ats.length), some (.pointer (at0 sb)), some (.slice ra roots.length roots.length), some (.int .i64 (roots.length : Int)), some (.int .i64 (i : Int))] h) fun o => (if rootOk G ats roots[i] = true then o.1 = 0 ∧ o.2.1 = [some (.slice aa ats.length ats.length), some (.pointer (at0 sb)), some (.slice ra roots.length roots.length), some (.int .i64 (roots.length : Int)), some (.int .i64 ((i : Int) + 1))] else o.1 = 1 ∧ o.2.1 = [some (.bool false)]) ∧ gnD base V h0 o.2.2 sb oa ya G S m A by
   obtain ⟨⟨o1, o2, h'⟩, e, y1, d'⟩ := w1
   simp only at y1 d'
   cases hc : rootOk G ats roots[i] with
   | true =>
    rw [hc, if_pos rfl] at y1
    obtain ⟨y1, y2⟩ := y1
    subst y1; subst y2
    obtain ⟨o, eo, z1, z2⟩ := ihr (i + 1) h' (by omega) d'
    refine ⟨o, loop_on e eo, ?_, z2⟩
    rw [ed, List.all_cons, hc, Bool.true_and]
    exact z1
   | false =>
    rw [hc, if_neg (by decide)] at y1
    obtain ⟨y1, y2⟩ := y1
    subst y1; subst y2
    refine ⟨_, loop_off (by decide) e, ?_, d'⟩
    rw [ed, List.all_cons, hc, Bool.false_and, if_neg (by decide)]
    exact ⟨rfl, rfl⟩
  rw [B36_0_eq]
  refine W.ifT (decide_eq_true (by omega)) (W.ifT (by omega) ?_)
  obtain ⟨hrd, hrs⟩ := hA _ (d.rs (i := 0) rfl)
  obtain ⟨ad, rfl, g⟩ := hrs.int hlt
  refine W.bs rfl (W.bs (by rw [show Int.toNat (i : Int) * 1 = i from by simp]; exact g) ?_)
  ((try simp only [n1, n2, n3, n4, n5, n6] at d); (with_reducible repeat first | refine W.a1 d ?_ | refine W.a2 ?_ | refine W.a3 ?_ | refine W.bo ?_ | refine W.a5 d fun hw d lw kw => ?_ | refine W.a6 d ?_ | refine W.a7 ?_ | refine W.a8 ?_))
  obtain ⟨cs', h1, e1, t1, k1⟩ := implGensRead_run (base := base) hG ha hz hwk hrd d.ge
  refine W.bs e1 ?_
  obtain ⟨z1, z2, z3, z4, z5, rfl⟩ := t1.form
  have d := d.kN k1
  ((try simp only [n1, n2, n3, n4, n5, n6] at d); (with_reducible repeat first | refine W.a1 d ?_ | refine W.a2 ?_ | refine W.a3 ?_ | refine W.bo ?_ | refine W.a5 d fun hw d lw kw => ?_ | refine W.a6 d ?_ | refine W.a7 ?_ | refine W.a8 ?_); (refine W.nD d fun h2 d _ kh2 => ?_); (with_reducible repeat first | refine W.a1 d ?_ | refine W.a2 ?_ | refine W.a3 ?_ | refine W.bo ?_ | refine W.a5 d fun hw d lw kw => ?_ | refine W.a6 d ?_ | refine W.a7 ?_ | refine W.a8 ?_))
  have d := d.tl
  refine W.joinP (fun q => q.1 = [some (.slice aa ats.length ats.length), some (.pointer (at0 sb)), some (.slice (some ad) roots.length roots.length), some (.int .i64 (roots.length : Int)), some (.int .i64 (i : Int)), some (.bool (!rootOk G ats roots[i]))] ∧ gnD base V h0 q.2 sb oa ya G S m A) ?_ fun q hq => ?_
  ·unfold rootOk
   refine W.ite (fun c => ?_) (fun c => ?_)
   ·have c : (gRd G ats roots[i]).2 = false := by simpa using c
    refine W.inl ⟨?_, d⟩
    rw [c]; rfl
   ·have c : (gRd G ats roots[i]).2 = true := by simpa using c
    obtain ⟨h3, e3, k3⟩ := downward_all (base := base) (gb := sb) hG 133 hw roots[i] hwk (gRd_fue c) (d.lt (.head _)) ⟨d.getI (.head _) rfl, d.getI (.head _) rfl, d.getI (.head _) rfl, (hA _ (d.rs (i := 0) rfl)).1.gnO⟩ d.ge
    refine W.bs e3 ?_
    have d := d.kN k3
    ((try simp only [n1, n2, n3, n4, n5, n6] at d); (with_reducible repeat first | refine W.a1 d ?_ | refine W.a2 ?_ | refine W.a3 ?_ | refine W.bo ?_ | refine W.a5 d fun hw d lw kw => ?_ | refine W.a6 d ?_ | refine W.a7 ?_ | refine W.a8 ?_))
    refine W.inl ⟨?_, d⟩
    rw [c]; rfl
  obtain ⟨q1, q2⟩ := q
  obtain ⟨e, d⟩ := hq
  simp only at e d
  subst e
  ((try simp only [n1, n2, n3, n4, n5, n6] at d); (with_reducible repeat first | refine W.a1 d ?_ | refine W.a2 ?_ | refine W.a3 ?_ | refine W.bo ?_ | refine W.a5 d fun hw d lw kw => ?_ | refine W.a6 d ?_ | refine W.a7 ?_ | refine W.a8 ?_))
  cases hc : rootOk G ats roots[i] with
  | true =>
   refine W.ifF (by decide) (W.ret ⟨?_, d⟩)
   rw [w64i (n := (i : Int) + 1) (by omega) (by omega), if_pos rfl]
   exact ⟨rfl, rfl⟩
  | false =>
   refine W.ifT rfl (W.ret ⟨?_, d⟩)
   rw [if_neg (by decide)]
   exact ⟨rfl, rfl⟩
theorem implGensOk_run {base : Nat} {oa ya aa ra : Option Addr} {G : Gn} {ats : List ByteArray} {roots : List Int} {h : AH} (hG : G.Ok) (ha : ats.length ≤ 1048576) (hz : ∀ s ∈ ats, s.size ≤ maxLen) (hr : ∀ w ∈ roots, wOk w) (hrl : roots.length ≤ 9223372036854775807) (x : RdA base oa ya G aa ats h) (xr : Sl h ra (iv .i64 roots)) (xt : TyOk base h ra 3) (hb : base ≤ h.length) :
  ∃ h', run (Et base) 36 [.agg (gensV oa ya G).toArray, .slice aa ats.length ats.length, .slice ra roots.length roots.length] h = some (.bool (gOk G ats roots), h') ∧ KB NoB h h' := by
 have xlt := x.lt
 have d := (Hs.start hb).inp (fun b => b < h.length) (fun y => RdA base oa ya G aa ats y ∧ Sl y ra (iv .i64 roots)) ⟨x, xr⟩ (fun U y y' k hS q => ⟨q.1.keep k fun i hi => hS i (xlt i hi), q.2.keep k fun i hi => hS i (xt.lt i hi)⟩) (fun b hb => hb) (fun x hx => nomatch hx) rfl
 suffices W : Wp (run (Et base) 36 [.agg (gensV oa ya G).toArray, .slice aa ats.length ats.length, .slice ra roots.length roots.length] h) fun o => o.1 = .bool (gOk G ats roots) ∧ KB NoB h o.2 by
  obtain ⟨⟨o1, o2⟩, e, y1, y2⟩ := W
  simp only at y1 y2
  subst y1
  exact ⟨o2, e, y2⟩
 refine W.of (fun r hx => Am.r36 hx) ?_
 ((try simp only [n1, n2, n3, n4, n5, n6] at d); (with_reducible repeat first | refine W.a1 d ?_ | refine W.a2 ?_ | refine W.a3 ?_ | refine W.bo ?_ | refine W.a5 d fun hw d lw kw => ?_ | refine W.a6 d ?_ | refine W.a7 ?_ | refine W.a8 ?_); (refine W.nD d fun h1 d _ kh1 => ?_); (with_reducible repeat first | refine W.a1 d ?_ | refine W.a2 ?_ | refine W.a3 ?_ | refine W.bo ?_ | refine W.a5 d fun hw d lw kw => ?_ | refine W.a6 d ?_ | refine W.a7 ?_ | refine W.a8 ?_))
 apply W.jb (gHead G ats) d
 ·unfold gHead
  ((try simp only [n1, n2, n3, n4, n5, n6] at d); (with_reducible repeat first | refine W.a1 d ?_ | refine W.a2 ?_ | refine W.a3 ?_ | refine W.bo ?_ | refine W.a5 d fun hw d lw kw => ?_ | refine W.a6 d ?_ | refine W.a7 ?_ | refine W.a8 ?_))
  refine W.ite (fun c => ?_) (fun c => ?_)
  ·rw [if_pos c]; exact W.lb rfl rfl (KB.refl _ _)
  rw [if_neg c]
  ((try simp only [n1, n2, n3, n4, n5, n6] at d); (with_reducible repeat first | refine W.a1 d ?_ | refine W.a2 ?_ | refine W.a3 ?_ | refine W.bo ?_ | refine W.a5 d fun hw d lw kw => ?_ | refine W.a6 d ?_ | refine W.a7 ?_ | refine W.a8 ?_))
  refine W.ite (fun c => ?_) (fun c => ?_)
  ·rw [if_pos c]; exact W.lb rfl rfl (KB.refl _ _)
  rw [if_neg c]
  ((try simp only [n1, n2, n3, n4, n5, n6] at d); (with_reducible repeat first | refine W.a1 d ?_ | refine W.a2 ?_ | refine W.a3 ?_ | refine W.bo ?_ | refine W.a5 d fun hw d lw kw => ?_ | refine W.a6 d ?_ | refine W.a7 ?_ | refine W.a8 ?_))
  refine W.bs in_run ?_
  ((try simp only [n1, n2, n3, n4, n5, n6] at d); (with_reducible repeat first | refine W.a1 d ?_ | refine W.a2 ?_ | refine W.a3 ?_ | refine W.bo ?_ | refine W.a5 d fun hw d lw kw => ?_ | refine W.a6 d ?_ | refine W.a7 ?_ | refine W.a8 ?_))
  refine W.ite (fun c => ?_) (fun c => ?_)
  ·rw [if_pos c]; exact W.lb rfl rfl (KB.refl _ _)
  rw [if_neg c]
  have hx := (d.rs (i := 0) rfl : RdA base oa ya G aa ats h1 ∧ Sl h1 ra (iv .i64 roots)).1
  refine W.bs (atomsOk_run (by omega) (fun s hs => by have := hz s hs; unfold maxLen at this; omega) hx.2.2.1 hx.2.2.2.2) ?_
  ((try simp only [n1, n2, n3, n4, n5, n6] at d); (with_reducible repeat first | refine W.a1 d ?_ | refine W.a2 ?_ | refine W.a3 ?_ | refine W.bo ?_ | refine W.a5 d fun hw d lw kw => ?_ | refine W.a6 d ?_ | refine W.a7 ?_ | refine W.a8 ?_))
  exact W.lb rfl rfl (KB.refl _ _)
 intro h2 d n2
 ((try simp only [n1, n2, n3, n4, n5, n6] at d); (with_reducible repeat first | refine W.a1 d ?_ | refine W.a2 ?_ | refine W.a3 ?_ | refine W.bo ?_ | refine W.a5 d fun hw d lw kw => ?_ | refine W.a6 d ?_ | refine W.a7 ?_ | refine W.a8 ?_))
 unfold gOk
 refine W.ite (fun c => ?_) (fun c => ?_)
 ·rw [c]
  exact W.ret ⟨rfl, d.kb⟩
 ·have c : gHead G ats = false := by simpa using c
  rw [c, Bool.not_false, Bool.true_and]
  refine W.wb (implGensOk_loop (base := base) (roots := roots) (A := fun y => RdA base oa ya G aa ats y ∧ Sl y ra (iv .i64 roots)) hG ha hz hr hrl (fun y hy => hy) roots.length 0 h2 (by omega) d) ?_
  rintro ⟨o1, o2, h4⟩ ⟨y1, d⟩
  simp only at y1 d
  rw [List.drop_zero] at y1
  cases hc : roots.all (rootOk G ats) with
  | true =>
   rw [hc, if_pos rfl] at y1
   subst y1
   exact W.ifF (show ¬ (2 : Nat) = 1 by decide) (W.ifT rfl (W.ret ⟨rfl, d.kb⟩))
  | false =>
   rw [hc, if_neg (by decide)] at y1
   obtain ⟨y1, y2⟩ := y1
   subst y1; subst y2
   exact W.ifT rfl (W.bB rfl (W.ret ⟨rfl, d.kb⟩))
theorem specGensOk_loop {base sb : Nat} {oa ya aa ra : Option Addr} {G : Gn} {ats : List ByteArray} {roots : List Int} {S V : Fp} {m : Bool} {A : AH → Prop} {h0 : AH} (hG : G.Ok) (hh : gHead G ats = false) (ha : ats.length ≤ 1048576) (hz : ∀ s ∈ ats, s.size ≤ maxLen) (hr : ∀ w ∈ roots, wOk w) (hrl : roots.length ≤ 9223372036854775807) (hA : ∀ y, A y → RdA base oa ya G aa ats y ∧ Sl y ra (iv .i64 roots)) : ∀ (r i : Nat) (h : AH), i + r = roots.length → gnD base V h0 h sb oa ya G S m A →
  Wp (loopL (B34_0 base) [some (.slice aa ats.length ats.length), some (.slice ra roots.length roots.length), some (.pointer (at0 sb)), some (.int .i64 (i : Int))] h) fun o => (if (roots.drop i).all (rootOk G ats) = true then o.1 = 2 else o.1 = 1 ∧ o.2.1 = [some (.bool false)]) ∧ gnD base V h0 o.2.2 sb oa ya G S m A := by
 obtain ⟨b1, b2, b3, b4⟩ := gHead_ok hh
 intro r
 induction r with
 | zero =>
  intro i h hi d
  suffices w1 : Wp (B34_0 base [some (.slice aa ats.length ats.length), some (.slice ra roots.length roots.length), some (.pointer (at0 sb)), some (.int .i64 (i : Int))] h) fun o => o = (2, [], h) by
   obtain ⟨o, e, rfl⟩ := w1
   refine ⟨_, loop_off (by decide) e, ?_, d⟩
   rw [List.drop_of_length_le (by omega)]
   rfl
  rw [B34_0_eq]
  exact W.ifF (by simp; omega) (W.ret rfl)
 | succ r ihr =>
  intro i h hi d
  have hlt : i < roots.length := by omega
  have hwk := hr roots[i] (List.getElem_mem _)
  have ed : roots.drop i = roots[i] :: roots.drop (i + 1) := List.drop_eq_getElem_cons hlt
  suffices w1 : Wp (B34_0 base [some (.slice aa ats.length ats.length), some (.slice ra roots.length roots.length), some (.pointer (at0 sb)), some (.int .i64 (i : Int))] h) fun o => (if rootOk G ats roots[i] = true then o.1 = 0 ∧ o.2.1 = [some (.slice aa ats.length ats.length), some (.slice ra roots.length roots.length), some (.pointer (at0 sb)), some (.int .i64 ((i : Int) + 1))] else o.1 = 1 ∧ o.2.1 = [some (.bool false)]) ∧ gnD base V h0 o.2.2 sb oa ya G S m A by
   obtain ⟨⟨o1, o2, h'⟩, e, y1, d'⟩ := w1
   simp only at y1 d'
   cases hc : rootOk G ats roots[i] with
   | true =>
    rw [hc, if_pos rfl] at y1
    obtain ⟨y1, y2⟩ := y1
    subst y1; subst y2
    obtain ⟨o, eo, z1, z2⟩ := ihr (i + 1) h' (by omega) d'
    refine ⟨o, loop_on e eo, ?_, z2⟩
    rw [ed, List.all_cons, hc, Bool.true_and]
    exact z1
   | false =>
    rw [hc, if_neg (by decide)] at y1
    obtain ⟨y1, y2⟩ := y1
    subst y1; subst y2
    refine ⟨_, loop_off (by decide) e, ?_, d'⟩
    rw [ed, List.all_cons, hc, Bool.false_and, if_neg (by decide)]
    exact ⟨rfl, rfl⟩
  rw [B34_0_eq]
  refine W.ifT (decide_eq_true (by omega)) ?_
  ((try simp only [n1, n2, n3, n4, n5, n6] at d); (with_reducible repeat first | refine W.a1 d ?_ | refine W.a2 ?_ | refine W.a3 ?_ | refine W.bo ?_ | refine W.a5 d fun hw d lw kw => ?_ | refine W.a6 d ?_ | refine W.a7 ?_ | refine W.a8 ?_))
  obtain ⟨hrd, hrs⟩ := hA _ (d.rs (i := 0) rfl)
  obtain ⟨ad, rfl, g⟩ := hrs.int hlt
  refine W.bs rfl (W.bs (by rw [show Int.toNat (i : Int) * 1 = i from by simp]; exact g) ?_)
  obtain ⟨cs', h1, e1, t1, k1⟩ := specGensRead_run (base := base) hG b1 ha hz hwk hrd d.ge
  refine W.bs e1 ?_
  obtain ⟨z1, z2, z3, z4, z5, rfl⟩ := t1.form
  have d := d.kN k1
  obtain ⟨ad0, e0, gc⟩ := (hA _ (d.rs (i := 0) rfl)).2.cell (i := i) (v := .int .i64 roots[i]) (by simp [iv, hlt])
  injection e0 with e0
  subst e0
  have hlt1 := cell_lt gc
  ((try simp only [n1, n2, n3, n4, n5, n6] at d); (with_reducible repeat first | refine W.a1 d ?_ | refine W.a2 ?_ | refine W.a3 ?_ | refine W.bo ?_ | refine W.a5 d fun hw d lw kw => ?_ | refine W.a6 d ?_ | refine W.a7 ?_ | refine W.a8 ?_))
  refine W.gt (fun a e => by injection e with e; subst e; exact Nat.ne_of_lt hlt1) ?_
  ((try simp only [n1, n2, n3, n4, n5, n6] at d); (with_reducible repeat first | refine W.a1 d ?_ | refine W.a2 ?_ | refine W.a3 ?_ | refine W.bo ?_ | refine W.a5 d fun hw d lw kw => ?_ | refine W.a6 d ?_ | refine W.a7 ?_ | refine W.a8 ?_); (refine W.nD d fun h2 d _ kh2 => ?_); (with_reducible repeat first | refine W.a1 d ?_ | refine W.a2 ?_ | refine W.a3 ?_ | refine W.bo ?_ | refine W.a5 d fun hw d lw kw => ?_ | refine W.a6 d ?_ | refine W.a7 ?_ | refine W.a8 ?_))
  have d := d.tl
  have eD : (gRd G ats roots[i]).2 = true → lnW G 133 roots[i] 200000 = dnW G 133 roots[i] := fun c => by
   have := lnW_dnW hG b2 b3 133 roots[i] 2 (gRd_fue c) (by omega)
   rw [show frm G 2 = 200000 from rfl] at this
   rw [this]
   have hp := (prt_le G (valW roots[i])).2
   have : decide (prt G (valW roots[i]) > 2) = false := by simp; omega
   rw [this, Bool.and_false]; rfl
  refine W.joinP (fun q => q.1 = [some (.slice aa ats.length ats.length), some (.slice (some ad) roots.length roots.length), some (.pointer (at0 sb)), some (.int .i64 (i : Int)), some (.bool (!rootOk G ats roots[i]))] ∧ gnD base V h0 q.2 sb oa ya G S m A) ?_ fun q hq => ?_
  ·unfold rootOk
   rw [← gRs_gRd]
   refine W.ite (fun c => ?_) (fun c => ?_)
   ·have c : (gRs G ats roots[i]).2 = false := by simpa using c
    refine W.inl ⟨?_, d⟩
    rw [c]; rfl
   ·have c : (gRs G ats roots[i]).2 = true := by simpa using c
    have c' : (gRd G ats roots[i]).2 = true := by rw [← gRs_gRd]; exact c
    ((try simp only [n1, n2, n3, n4, n5, n6] at d); (with_reducible repeat first | refine W.a1 d ?_ | refine W.a2 ?_ | refine W.a3 ?_ | refine W.bo ?_ | refine W.a5 d fun hw d lw kw => ?_ | refine W.a6 d ?_ | refine W.a7 ?_ | refine W.a8 ?_))
    obtain ⟨hrd2, hrs2⟩ := hA _ (d.rs (i := 0) rfl)
    obtain ⟨ad2, e2, g2⟩ := hrs2.int hlt
    injection e2 with e2
    subst e2
    refine W.bs (by rw [show Int.toNat (i : Int) * 1 = i from by simp]; exact g2) ?_
    obtain ⟨h3, e3, k3⟩ := l6Links_all (base := base) hG b1 ⟨b3.1, by omega⟩ 133 hw roots[i] 200000 hwk (gRd_fue c') ⟨by decide, by decide⟩ hrd2.gnO d.ge
    refine W.bs e3 ?_
    have d := d.kN k3
    ((try simp only [n1, n2, n3, n4, n5, n6] at d); (with_reducible repeat first | refine W.a1 d ?_ | refine W.a2 ?_ | refine W.a3 ?_ | refine W.bo ?_ | refine W.a5 d fun hw d lw kw => ?_ | refine W.a6 d ?_ | refine W.a7 ?_ | refine W.a8 ?_))
    refine W.inl ⟨?_, d⟩
    rw [c, eD c']; rfl
  obtain ⟨q1, q2⟩ := q
  obtain ⟨e, d⟩ := hq
  simp only at e d
  subst e
  ((try simp only [n1, n2, n3, n4, n5, n6] at d); (with_reducible repeat first | refine W.a1 d ?_ | refine W.a2 ?_ | refine W.a3 ?_ | refine W.bo ?_ | refine W.a5 d fun hw d lw kw => ?_ | refine W.a6 d ?_ | refine W.a7 ?_ | refine W.a8 ?_))
  cases hc : rootOk G ats roots[i] with
  | true =>
   refine W.ifF (by decide) (W.ret ⟨?_, d⟩)
   rw [w64i (n := (i : Int) + 1) (by omega) (by omega), if_pos rfl]
   exact ⟨rfl, rfl⟩
  | false =>
   refine W.ifT rfl (W.ret ⟨?_, d⟩)
   rw [if_neg (by decide)]
   exact ⟨rfl, rfl⟩
theorem specGensOk_run {base : Nat} {oa ya aa ra : Option Addr} {G : Gn} {ats : List ByteArray} {roots : List Int} {h : AH} (hG : G.Ok) (ha : ats.length ≤ 1048576) (hz : ∀ s ∈ ats, s.size ≤ maxLen) (hr : ∀ w ∈ roots, wOk w) (hrl : roots.length ≤ 9223372036854775807) (x : RdA base oa ya G aa ats h) (xr : Sl h ra (iv .i64 roots)) (xt : TyOk base h ra 3) (hb : base ≤ h.length) :
  ∃ h', run (Et base) 34 [.agg (gensV oa ya G).toArray, .slice aa ats.length ats.length, .slice ra roots.length roots.length] h = some (.bool (gOk G ats roots), h') ∧ KB NoB h h' := by
 have xlt := x.lt
 have d := (Hs.start hb).inp (fun b => b < h.length) (fun y => RdA base oa ya G aa ats y ∧ Sl y ra (iv .i64 roots)) ⟨x, xr⟩ (fun U y y' k hS q => ⟨q.1.keep k fun i hi => hS i (xlt i hi), q.2.keep k fun i hi => hS i (xt.lt i hi)⟩) (fun b hb => hb) (fun x hx => nomatch hx) rfl
 suffices W : Wp (run (Et base) 34 [.agg (gensV oa ya G).toArray, .slice aa ats.length ats.length, .slice ra roots.length roots.length] h) fun o => o.1 = .bool (gOk G ats roots) ∧ KB NoB h o.2 by
  obtain ⟨⟨o1, o2⟩, e, y1, y2⟩ := W
  simp only at y1 y2
  subst y1
  exact ⟨o2, e, y2⟩
 refine W.of (fun r hx => Am.r34 hx) ?_
 ((try simp only [n1, n2, n3, n4, n5, n6] at d); (with_reducible repeat first | refine W.a1 d ?_ | refine W.a2 ?_ | refine W.a3 ?_ | refine W.bo ?_ | refine W.a5 d fun hw d lw kw => ?_ | refine W.a6 d ?_ | refine W.a7 ?_ | refine W.a8 ?_); (refine W.nD d fun h1 d _ kh1 => ?_); (with_reducible repeat first | refine W.a1 d ?_ | refine W.a2 ?_ | refine W.a3 ?_ | refine W.bo ?_ | refine W.a5 d fun hw d lw kw => ?_ | refine W.a6 d ?_ | refine W.a7 ?_ | refine W.a8 ?_))
 apply W.jb (gHead G ats) d
 ·unfold gHead
  ((try simp only [n1, n2, n3, n4, n5, n6] at d); (with_reducible repeat first | refine W.a1 d ?_ | refine W.a2 ?_ | refine W.a3 ?_ | refine W.bo ?_ | refine W.a5 d fun hw d lw kw => ?_ | refine W.a6 d ?_ | refine W.a7 ?_ | refine W.a8 ?_))
  refine W.ite (fun c => ?_) (fun c => ?_)
  ·rw [if_pos c]; exact W.lb rfl rfl (KB.refl _ _)
  rw [if_neg c]
  ((try simp only [n1, n2, n3, n4, n5, n6] at d); (with_reducible repeat first | refine W.a1 d ?_ | refine W.a2 ?_ | refine W.a3 ?_ | refine W.bo ?_ | refine W.a5 d fun hw d lw kw => ?_ | refine W.a6 d ?_ | refine W.a7 ?_ | refine W.a8 ?_))
  refine W.ite (fun c => ?_) (fun c => ?_)
  ·rw [if_pos c]; exact W.lb rfl rfl (KB.refl _ _)
  rw [if_neg c]
  ((try simp only [n1, n2, n3, n4, n5, n6] at d); (with_reducible repeat first | refine W.a1 d ?_ | refine W.a2 ?_ | refine W.a3 ?_ | refine W.bo ?_ | refine W.a5 d fun hw d lw kw => ?_ | refine W.a6 d ?_ | refine W.a7 ?_ | refine W.a8 ?_))
  refine W.bs l1In_run ?_
  ((try simp only [n1, n2, n3, n4, n5, n6] at d); (with_reducible repeat first | refine W.a1 d ?_ | refine W.a2 ?_ | refine W.a3 ?_ | refine W.bo ?_ | refine W.a5 d fun hw d lw kw => ?_ | refine W.a6 d ?_ | refine W.a7 ?_ | refine W.a8 ?_))
  refine W.ite (fun c => ?_) (fun c => ?_)
  ·rw [if_pos c]; exact W.lb rfl rfl (KB.refl _ _)
  rw [if_neg c]
  have hx := (d.rs (i := 0) rfl : RdA base oa ya G aa ats h1 ∧ Sl h1 ra (iv .i64 roots)).1
  refine W.bs (l5Atoms_run (by omega) (fun s hs => by have := hz s hs; unfold maxLen at this; omega) hx.2.2.2.2) ?_
  ((try simp only [n1, n2, n3, n4, n5, n6] at d); (with_reducible repeat first | refine W.a1 d ?_ | refine W.a2 ?_ | refine W.a3 ?_ | refine W.bo ?_ | refine W.a5 d fun hw d lw kw => ?_ | refine W.a6 d ?_ | refine W.a7 ?_ | refine W.a8 ?_))
  exact W.lb rfl rfl (KB.refl _ _)
 intro h2 d n2
 ((try simp only [n1, n2, n3, n4, n5, n6] at d); (with_reducible repeat first | refine W.a1 d ?_ | refine W.a2 ?_ | refine W.a3 ?_ | refine W.bo ?_ | refine W.a5 d fun hw d lw kw => ?_ | refine W.a6 d ?_ | refine W.a7 ?_ | refine W.a8 ?_))
 unfold gOk
 refine W.ite (fun c => ?_) (fun c => ?_)
 ·rw [c]
  exact W.ret ⟨rfl, d.kb⟩
 ·have c : gHead G ats = false := by simpa using c
  rw [c, Bool.not_false, Bool.true_and]
  refine W.wb (specGensOk_loop (base := base) (roots := roots) (A := fun y => RdA base oa ya G aa ats y ∧ Sl y ra (iv .i64 roots)) hG c ha hz hr hrl (fun y hy => hy) roots.length 0 h2 (by omega) d) ?_
  rintro ⟨o1, o2, h4⟩ ⟨y1, d⟩
  simp only at y1 d
  rw [List.drop_zero] at y1
  cases hc : roots.all (rootOk G ats) with
  | true =>
   rw [hc, if_pos rfl] at y1
   subst y1
   exact W.ifF (show ¬ (2 : Nat) = 1 by decide) (W.ifT rfl (W.ret ⟨rfl, d.kb⟩))
  | false =>
   rw [hc, if_neg (by decide)] at y1
   obtain ⟨y1, y2⟩ := y1
   subst y1; subst y2
   exact W.ifT rfl (W.bB rfl (W.ret ⟨rfl, d.kb⟩))
end Go.Proofs.Ytjmkbglnjklbcaa.Am
set_option linter.unusedSimpArgs false
set_option linter.unusedVariables false
namespace Go.Proofs.Ytjmkbglnjklbcaa.Am
open Go Go.RowKit
theorem toStringS_loop {base : Nat} {a0 : Option Addr} {zs : List ByteArray} (hn : zs.length ≤ 140737488355328) {a : Option Addr} : ∀ (d i : Nat) (h : AH), i + d = zs.length → Sl h a0 (stV zs) → (∀ b, blk a0 b → ¬ blk a b) → ∀ rest : List ByteArray, rest.length = d → Own base 9 h a (stV (zs.take i ++ rest)) →
  ∃ h', loopL (B16_0 base) [some (.slice a0 zs.length zs.length), some (.slice a zs.length zs.length), some (.int .i64 (i : Int))] h = some (2, [some (.slice a zs.length zs.length)], h') ∧ Own base 9 h' a (stV zs) ∧ KB (blk a) h h' := by
 intro d
 induction d with
 | zero =>
  intro i h hi hs hb rest hr ho
  have e : zs.take i ++ rest = zs := by
   rw [List.eq_nil_of_length_eq_zero hr, List.append_nil, List.take_of_length_le (by omega)]
  rw [e] at ho
  refine ⟨h, ?_, ho, KB.refl _ _⟩
  rw [loopL_eq, B16_0_eq]
  have : ¬ ((i : Int) < (zs.length : Int)) := by omega
  simp [this]
 | succ d ih =>
  intro i h hi hs hb rest hr ho
  have hlt : i < zs.length := by omega
  obtain ⟨ad, h1, h2⟩ := str_at hs hlt
  match rest, hr with
  | z :: rest, hr =>
   obtain ⟨ad2, h', g1, g2, g3, g4, g5⟩ := ho.wr (i := i) (new := [.string zs[i]]) (by rw [stV_len]; simp; omega) (by simp)
   have e : setAt (stV (zs.take i ++ z :: rest)) i [.string zs[i]] = stV (zs.take (i + 1) ++ rest) := by
    have e1 : (stV (zs.take i)).length = i := by rw [stV_len]; simp; omega
    have ea : ∀ x y : List ByteArray, stV (x ++ y) = stV x ++ stV y := fun x y => List.map_append
    rw [ea]
    simp only [setAt, List.length_singleton]
    have e2 : (stV (zs.take i) ++ stV (z :: rest)).take i = stV (zs.take i) := by
     rw [List.take_append_of_le_length (by omega), List.take_of_length_le (by omega)]
    have e3 : (stV (zs.take i) ++ stV (z :: rest)).drop (i + 1) = stV rest := by
     rw [List.drop_append, e1]
     have : i + 1 - i = 1 := by omega
     rw [this, List.drop_of_length_le (by omega)]
     rfl
    rw [e2, e3, List.take_succ_eq_append_getElem hlt, ea, ea]
    rfl
   rw [e] at g3
   obtain ⟨h'', k1, k2, k3⟩ := ih (i + 1) h' (by omega) (hs.keep g4 hb) hb rest (by simpa using hr) g3
   refine ⟨h'', ?_, k2, KB.trans g4 k3 (fun _ _ h => h) (fun _ _ h => h)⟩
   rw [loopL_eq, B16_0_eq]
   have c1 : ((i : Int) < (zs.length : Int)) := by omega
   subst h1; subst g1
   rw [w64i (by omega) (by omega)]
   have hc : (((i : Int) + 1 : Int)) = ((i + 1 : Nat) : Int) := by omega
   have h2' : (Am.cell h ad.block (ad.off + i)).bind getStr = some zs[i] := by rw [h2]; rfl
   simp only [c1, decide_true, if_true, Option.bind_some, Int.toNat_natCast, Nat.mul_one, h2', g2, hc]
   rw [if_pos ⟨by omega, trivial⟩, if_pos ⟨by omega, trivial⟩]
   simp only [Option.bind_some, if_true]
   exact k1
theorem toStringS_run {base : Nat} {h : AH} {a0 : Option Addr} {zs : List ByteArray} (hs : Sl h a0 (stV zs)) (hn : zs.length ≤ 1048576) (hb : base ≤ h.length) :
  ∃ a h', run (Et base) 16 [.slice a0 zs.length zs.length] h = some (.slice a zs.length zs.length, h') ∧ Own base 9 h' a (stV zs) ∧ KB NoB h h' ∧ ∀ b, blk a b → h.length ≤ b ∧ b < h'.length := by
 have hrep : ∀ n, rep [Value.string ⟨#[]⟩] n = stV (List.replicate n ⟨#[]⟩) := by
  intro n
  induction n with
  | zero => rfl
  | succ n ih => simp only [rep, ih]; rfl
 have hown := Own.new base 9 h (rep [Value.string ⟨#[]⟩] zs.length) hb
 rw [hrep] at hown
 have hk : KB NoB h (h ++ [some ⟨rep [Value.string ⟨#[]⟩] zs.length, 9⟩]) := KB.push _ _ _
 have hsep : ∀ b, blk a0 b → zs = [] ∨ ¬ blk (some (⟨h.length, 0, none⟩ : Addr)) b := by
  intro b hb'
  rcases hs with e | ⟨ad, k, h1, h2, _⟩
  ·left
   have := congrArg List.length e
   rw [stV_len] at this
   exact List.eq_nil_of_length_eq_zero (by simpa using this)
  ·right
   rw [blk_new]
   obtain ⟨ad', e1, e2⟩ := hb'
   rw [h1] at e1
   injection e1 with e1
   subst e1; subst e2
   have := hget_lt h2
   omega
 have main : ∃ h', loopL (B16_0 base) [some (.slice a0 zs.length zs.length), some (.slice (some ⟨h.length, 0, none⟩) zs.length zs.length), some (.int .i64 ((0 : Nat) : Int))] (h ++ [some ⟨rep [Value.string ⟨#[]⟩] zs.length, 9⟩]) = some (2, [some (.slice (some ⟨h.length, 0, none⟩) zs.length zs.length)], h') ∧ Own base 9 h' (some ⟨h.length, 0, none⟩) (stV zs) ∧ KB (blk (some (⟨h.length, 0, none⟩ : Addr))) (h ++ [some ⟨rep [Value.string ⟨#[]⟩] zs.length, 9⟩]) h' := by
  by_cases hz : zs = []
  ·subst hz
   refine ⟨_, ?_, by simpa [hrep] using hown, KB.refl _ _⟩
   rw [loopL_eq, B16_0_eq]
   simp
  ·exact toStringS_loop (by omega) zs.length 0 _ (by omega) (hs.keep hk fun _ _ h => h.elim) (fun b hb' => (hsep b hb').resolve_left hz) (List.replicate zs.length ⟨#[]⟩) (by simp) (by simpa [hrep] using hown)
 obtain ⟨h', m1, m2, m3⟩ := main
 have hlen : h.length + 1 ≤ h'.length := by have := m3.1; simp at this; omega
 refine ⟨some ⟨h.length, 0, none⟩, h', Am.r16 ?_, m2, KB.trans hk m3 (fun _ _ h => h) (fun i hi h => by rw [blk_new] at h; omega), fun b hb' => by rw [blk_new] at hb'; omega⟩
 rw [if_pos ⟨rfl, by omega, by omega, by omega⟩]
 simp only [Int.toNat_natCast, Option.bind_some]
 rw [show ((0 : Nat) : Int) = 0 from rfl] at m1
 rw [m1]
 simp [sget, getS]
theorem eqStringS_run {base : Nat} {h : AH} {a b : Option Addr} {l : List ByteArray} (hl : l.length ≤ 9223372036854775807) (hx : Sl h a (stV l)) (hy : Sl h b (stV l)) : run (Et base) 20 [.slice a l.length l.length, .slice b l.length l.length] h = some (.bool true, h) := by
 have loop : ∀ (r i : Nat), i + r = l.length → loopL (B20_0 base) [some (.slice a l.length l.length), some (.slice b l.length l.length), some (.int .i64 (i : Int))] h = some (2, [], h) := by
  intro r
  induction r with
  | zero =>
   intro i hi
   refine loop_off (by decide) ?_
   rw [B20_0_eq]
   exact ifF (by simp; omega) rfl
  | succ r ih =>
   intro i hi
   have hlt : i < l.length := by omega
   obtain ⟨ad, rfl, g⟩ := str_at hx hlt
   obtain ⟨ad2, rfl, g2⟩ := str_at hy hlt
   refine loop_on ?_ (ih (i + 1) (by omega))
   rw [B20_0_eq]
   refine ifT (decide_eq_true (by omega)) (ifT (by omega) (bs rfl (bT (by rw [show Int.toNat (i : Int) * 1 = i from by simp]; exact g) (ifT (by omega) (bs rfl (bT (by rw [show Int.toNat (i : Int) * 1 = i from by simp]; exact g2) (ifF (by simp) ?_)))))))
   rw [w64i (by omega) (by omega)]
   rfl
 have e := loop l.length 0 (by omega)
 rw [show ((0 : Nat) : Int) = 0 from rfl] at e
 exact Am.r20 (ifF (by simp) (bs e (ifF (show ¬ (2 : Nat) = 1 by decide) (ifT rfl rfl))))
theorem szStringS_run {base : Nat} {h : AH} {a : Option Addr} {l : List ByteArray} {left : Int} (hl : l.length ≤ 9223372036854775807) (hz : ∀ s ∈ l, s.size ≤ maxLen) (hs : Sl h a (stV l)) (h0 : 0 ≤ left) (h1 : left ≤ 1048576) : ∃ z, run (Et base) 12 [.slice a l.length l.length, .int .i64 left] h = some (.int .i64 z, h) ∧ z ≤ left ∧ -1 ≤ z ∧ (¬ z < 0 → z + (l.length : Int) ≤ left) := by
 by_cases hn : left - (l.length : Int) < 0
 ·refine ⟨-1, Am.r12 ?_, by omega, by omega, fun h => absurd (by decide) h⟩
  rw [w64i (by omega) (by omega)]
  exact ifT (decide_eq_true hn) rfl
 ·have loop : ∀ (r i : Nat) (z : Int), i + r = l.length → 0 ≤ z → z ≤ left - (l.length : Int) → ∃ z', z' ≤ left - (l.length : Int) ∧ -1 ≤ z' ∧ (loopL (B12_0 base) [some (.slice a l.length l.length), some (.int .i64 z), some (.int .i64 (i : Int))] h = some (1, [some (.int .i64 (-1))], h) ∧ z' = -1 ∨ loopL (B12_0 base) [some (.slice a l.length l.length), some (.int .i64 z), some (.int .i64 (i : Int))] h = some (2, [some (.int .i64 z')], h)) := by
   intro r
   induction r with
   | zero =>
    intro i z hi z0 z1
    refine ⟨z, z1, by omega, .inr (loop_off (by decide) ?_)⟩
    rw [B12_0_eq]
    exact ifF (by simp; omega) rfl
   | succ r ih =>
    intro i z hi z0 z1
    have hlt : i < l.length := by omega
    have hsz := hz l[i] (List.getElem_mem _)
    unfold maxLen at hsz
    obtain ⟨ad, rfl, g⟩ := str_at hs hlt
    by_cases hc : z - (l[i].size : Int) < 0
    ·refine ⟨-1, by omega, by omega, .inl ⟨loop_off (by decide) ?_, rfl⟩⟩
     rw [B12_0_eq]
     refine ifT (decide_eq_true (by omega)) (ifT (by omega) (bs rfl (bT (by rw [show Int.toNat (i : Int) * 1 = i from by simp]; exact g) ?_)))
     rw [w64i (by omega) (by omega)]
     exact ifT (decide_eq_true hc) rfl
    ·obtain ⟨z', q1, q2, q3⟩ := ih (i + 1) (z - (l[i].size : Int)) (by omega) (by omega) (by omega)
     have step : B12_0 base [some (.slice (some ad) l.length l.length), some (.int .i64 z), some (.int .i64 (i : Int))] h = some (0, [some (.slice (some ad) l.length l.length), some (.int .i64 (z - (l[i].size : Int))), some (.int .i64 ((i + 1 : Nat) : Int))], h) := by
      rw [B12_0_eq]
      refine ifT (decide_eq_true (by omega)) (ifT (by omega) (bs rfl (bT (by rw [show Int.toNat (i : Int) * 1 = i from by simp]; exact g) ?_)))
      rw [w64i (n := z - (l[i].size : Int)) (by omega) (by omega)]
      refine ifF (by simpa using hc) ?_
      rw [w64i (n := (i : Int) + 1) (by omega) (by omega)]
      rfl
     refine ⟨z', q1, q2, ?_⟩
     rcases q3 with ⟨q3, q4⟩ | q3
     ·exact .inl ⟨loop_on step q3, q4⟩
     ·exact .inr (loop_on step q3)
  obtain ⟨z', q1, q2, q3⟩ := loop l.length 0 (left - (l.length : Int)) (by omega) (by omega) (by omega)
  rw [show ((0 : Nat) : Int) = 0 from rfl] at q3
  refine ⟨z', Am.r12 ?_, by omega, q2, fun _ => by omega⟩
  rw [w64i (by omega) (by omega)]
  refine ifF (by simpa using hn) ?_
  rcases q3 with ⟨q3, rfl⟩ | q3
  ·exact bs q3 (ifT rfl (bI rfl rfl))
  ·exact bs q3 (ifF (show ¬ (2 : Nat) = 1 by decide) (ifT rfl (bI rfl rfl)))
theorem szGens_run {base : Nat} {h : AH} {oa ya : Option Addr} {G : Gn} {left : Int} (h1 : G.old.length ≤ 9223372036854775807) (h2 : G.young.length ≤ 9223372036854775807) (hb : base ≤ h.length) (l0 : 0 ≤ left) (l1 : left ≤ 1048576) :
  ∃ z h', run (Et base) 27 [.agg (gensV oa ya G).toArray, .int .i64 left] h = some (.int .i64 z, h') ∧ KB NoB h h' ∧ z ≤ left ∧ -1 ≤ z ∧ (¬ z < 0 → z + (G.old.length : Int) + (G.young.length : Int) ≤ left) := by
 have d := Hs.start hb
 suffices W : Wp (run (Et base) 27 [.agg (gensV oa ya G).toArray, .int .i64 left] h) fun o => ∃ z, o.1 = .int .i64 z ∧ KB NoB h o.2 ∧ z ≤ left ∧ -1 ≤ z ∧ (¬ z < 0 → z + (G.old.length : Int) + (G.young.length : Int) ≤ left) by
  obtain ⟨⟨o1, o2⟩, e, z, y1, y2⟩ := W
  simp only at y1 y2
  subst y1
  exact ⟨z, o2, e, y2⟩
 refine W.of (fun r hx => Am.r27 hx) ?_
 ((try simp only [n1, n2, n3, n4, n5, n6] at d); (with_reducible repeat first | refine W.a1 d ?_ | refine W.a2 ?_ | refine W.a3 ?_ | refine W.bo ?_ | refine W.a5 d fun hw d lw kw => ?_ | refine W.a6 d ?_ | refine W.a7 ?_ | refine W.a8 ?_); (refine W.nD d fun p1 d _ kp1 => ?_); (with_reducible repeat first | refine W.a1 d ?_ | refine W.a2 ?_ | refine W.a3 ?_ | refine W.bo ?_ | refine W.a5 d fun hw d lw kw => ?_ | refine W.a6 d ?_ | refine W.a7 ?_ | refine W.a8 ?_))
 obtain ⟨z1, e1, a1, a2, a3⟩ := szIntS_run (base := base) (h := p1) (a := oa) (n := G.old.length) (left := left) h1 l0 l1
 refine W.bs e1 ?_
 ((try simp only [n1, n2, n3, n4, n5, n6] at d); (with_reducible repeat first | refine W.a1 d ?_ | refine W.a2 ?_ | refine W.a3 ?_ | refine W.bo ?_ | refine W.a5 d fun hw d lw kw => ?_ | refine W.a6 d ?_ | refine W.a7 ?_ | refine W.a8 ?_))
 refine W.ite (fun c => W.ret ⟨-1, rfl, d.kb, by omega, by omega, fun h => absurd (by decide) h⟩) (fun c => ?_)
 have c : ¬ z1 < 0 := by simpa using c
 ((try simp only [n1, n2, n3, n4, n5, n6] at d); (with_reducible repeat first | refine W.a1 d ?_ | refine W.a2 ?_ | refine W.a3 ?_ | refine W.bo ?_ | refine W.a5 d fun hw d lw kw => ?_ | refine W.a6 d ?_ | refine W.a7 ?_ | refine W.a8 ?_))
 obtain ⟨z2, e2, b1, b2, b3⟩ := szIntS_run (base := base) (h := p1) (a := ya) (n := G.young.length) (left := z1) h2 (by omega) (by omega)
 refine W.bs e2 ?_
 ((try simp only [n1, n2, n3, n4, n5, n6] at d); (with_reducible repeat first | refine W.a1 d ?_ | refine W.a2 ?_ | refine W.a3 ?_ | refine W.bo ?_ | refine W.a5 d fun hw d lw kw => ?_ | refine W.a6 d ?_ | refine W.a7 ?_ | refine W.a8 ?_))
 refine W.ite (fun c => W.ret ⟨-1, rfl, d.kb, by omega, by omega, fun h => absurd (by decide) h⟩) (fun c => ?_)
 have c : ¬ z2 < 0 := by simpa using c
 have := a3 (by omega)
 have := b3 c
 exact W.ret ⟨z2, rfl, d.kb, by omega, by omega, fun _ => by omega⟩
theorem toGens_run {base : Nat} {h : AH} {oa ya : Option Addr} {G : Gn} (h1 : G.old.length ≤ 1048576) (h2 : G.young.length ≤ 1048576) (x : GnS h oa ya G) (hb : base ≤ h.length) :
  ∃ a b h', run (Et base) 29 [.agg (gensV oa ya G).toArray] h = some (.agg (gensV a b G).toArray, h') ∧ Own base 3 h' a (iv .i64 G.old) ∧ Own base 3 h' b (iv .i64 G.young) ∧ KB NoB h h' ∧ (∀ i, blk a i ∨ blk b i → h.length ≤ i ∧ i < h'.length) ∧ (∀ i, blk a i → ¬ blk b i) := by
 have d := Hs.start hb
 suffices W : Wp (run (Et base) 29 [.agg (gensV oa ya G).toArray] h) fun o => ∃ a b, o.1 = .agg (gensV a b G).toArray ∧ Own base 3 o.2 a (iv .i64 G.old) ∧ Own base 3 o.2 b (iv .i64 G.young) ∧ KB NoB h o.2 ∧ (∀ i, blk a i ∨ blk b i → h.length ≤ i ∧ i < o.2.length) ∧ (∀ i, blk a i → ¬ blk b i) by
  obtain ⟨⟨o1, o2⟩, e, a, b, y1, y2⟩ := W
  simp only at y1 y2
  subst y1
  exact ⟨a, b, o2, e, y2⟩
 refine W.of (fun r hx => Am.r29 hx) ?_
 ((try simp only [n1, n2, n3, n4, n5, n6] at d); (with_reducible repeat first | refine W.a1 d ?_ | refine W.a2 ?_ | refine W.a3 ?_ | refine W.bo ?_ | refine W.a5 d fun hw d lw kw => ?_ | refine W.a6 d ?_ | refine W.a7 ?_ | refine W.a8 ?_); (refine W.nD d fun p1 d _ kp1 => ?_); (with_reducible repeat first | refine W.a1 d ?_ | refine W.a2 ?_ | refine W.a3 ?_ | refine W.bo ?_ | refine W.a5 d fun hw d lw kw => ?_ | refine W.a6 d ?_ | refine W.a7 ?_ | refine W.a8 ?_); (refine W.nD d fun p2 d _ kp2 => ?_); (with_reducible repeat first | refine W.a1 d ?_ | refine W.a2 ?_ | refine W.a3 ?_ | refine W.bo ?_ | refine W.a5 d fun hw d lw kw => ?_ | refine W.a6 d ?_ | refine W.a7 ?_ | refine W.a8 ?_); (refine W.nD d fun p3 d _ kp3 => ?_); (with_reducible repeat first | refine W.a1 d ?_ | refine W.a2 ?_ | refine W.a3 ?_ | refine W.bo ?_ | refine W.a5 d fun hw d lw kw => ?_ | refine W.a6 d ?_ | refine W.a7 ?_ | refine W.a8 ?_))
 obtain ⟨a, h4, e4, o4, k4, q4⟩ := toIntS_run (base := base) (x.1.keepN d.kb) h1 d.ge
 refine W.bs e4 ?_
 have n3 : h.length ≤ p3.length := d.kb.1
 have d := d.call k4 (blk a) (fun y => Own base 3 y a (iv .i64 G.old)) o4 (fun U y y' k hs x => x.keep k hs) (fun b hb => ⟨q4 b hb, (o4.lt hb).2⟩)
 ((try simp only [n1, n2, n3, n4, n5, n6] at d); (with_reducible repeat first | refine W.a1 d ?_ | refine W.a2 ?_ | refine W.a3 ?_ | refine W.bo ?_ | refine W.a5 d fun hw d lw kw => ?_ | refine W.a6 d ?_ | refine W.a7 ?_ | refine W.a8 ?_))
 have n4 : h4.length = List.length hw := by omega
 obtain ⟨b, h6, e6, o6, k6, q6⟩ := toIntS_run (base := base) (x.2.keepN d.kb) h2 d.ge
 refine W.bs e6 ?_
 have d := d.call k6 (blk b) (fun y => Own base 3 y b (iv .i64 G.young)) o6 (fun U y y' k hs x => x.keep k hs) (fun i hi => ⟨q6 i hi, (o6.lt hi).2⟩)
 have hal := d.rlt (i := 0) rfl
 have hbl := d.rlt (i := 1) rfl
 have hf := d.rfr (i := 0) rfl rfl
 have hf2 := d.rfr (i := 1) rfl rfl
 have hle := d.kb.1
 ((try simp only [n1, n2, n3, n4, n5, n6] at d); (with_reducible repeat first | refine W.a1 d ?_ | refine W.a2 ?_ | refine W.a3 ?_ | refine W.bo ?_ | refine W.a5 d fun hw d lw kw => ?_ | refine W.a6 d ?_ | refine W.a7 ?_ | refine W.a8 ?_))
 have hh : ∀ i, blk a i → i < List.length hw := fun i hi => d.rlt (i := 0) rfl i hi
 have hh2 : ∀ i, blk b i → i < List.length hw := fun i hi => d.rlt (i := 1) rfl i hi
 refine W.ret ⟨a, b, rfl, d.rs (i := 0) rfl, d.rs (i := 1) rfl, d.kb, fun i hi => ?_, fun i hi hi2 => ?_⟩
 ·rcases hi with hi | hi
  ·exact ⟨(hf i hi).resolve_left fun h => h, hh i hi⟩
  ·exact ⟨(hf2 i hi).resolve_left fun h => h, hh2 i hi⟩
 ·have dj := d.dj
  rw [List.pairwise_cons] at dj
  exact dj.1 _ (.head _) rfl i hi hi2
theorem eqGens_run {base : Nat} {h : AH} {oa ya oa2 ya2 : Option Addr} {G : Gn} (h1 : G.old.length ≤ 1048576) (h2 : G.young.length ≤ 1048576) (x : GnS h oa ya G) (y : GnS h oa2 ya2 G) (hb : base ≤ h.length) :
  ∃ h', run (Et base) 31 [.agg (gensV oa ya G).toArray, .agg (gensV oa2 ya2 G).toArray] h = some (.bool true, h') ∧ KB NoB h h' := by
 have d := Hs.start hb
 suffices W : Wp (run (Et base) 31 [.agg (gensV oa ya G).toArray, .agg (gensV oa2 ya2 G).toArray] h) fun o => o.1 = .bool true ∧ KB NoB h o.2 by
  obtain ⟨⟨o1, o2⟩, e, y1, y2⟩ := W
  simp only at y1 y2
  subst y1
  exact ⟨o2, e, y2⟩
 refine W.of (fun r hx => Am.r31 hx) ?_
 ((try simp only [n1, n2, n3, n4, n5, n6] at d); (with_reducible repeat first | refine W.a1 d ?_ | refine W.a2 ?_ | refine W.a3 ?_ | refine W.bo ?_ | refine W.a5 d fun hw d lw kw => ?_ | refine W.a6 d ?_ | refine W.a7 ?_ | refine W.a8 ?_); (refine W.nD d fun p1 d _ kp1 => ?_); (with_reducible repeat first | refine W.a1 d ?_ | refine W.a2 ?_ | refine W.a3 ?_ | refine W.bo ?_ | refine W.a5 d fun hw d lw kw => ?_ | refine W.a6 d ?_ | refine W.a7 ?_ | refine W.a8 ?_); (refine W.nD d fun p2 d _ kp2 => ?_); (with_reducible repeat first | refine W.a1 d ?_ | refine W.a2 ?_ | refine W.a3 ?_ | refine W.bo ?_ | refine W.a5 d fun hw d lw kw => ?_ | refine W.a6 d ?_ | refine W.a7 ?_ | refine W.a8 ?_))
 refine W.bs (eqIntS_run (base := base) (x.1.keepN d.kb) (y.1.keepN d.kb) (by omega)) ?_
 ((try simp only [n1, n2, n3, n4, n5, n6] at d); (with_reducible repeat first | refine W.a1 d ?_ | refine W.a2 ?_ | refine W.a3 ?_ | refine W.bo ?_ | refine W.a5 d fun hw d lw kw => ?_ | refine W.a6 d ?_ | refine W.a7 ?_ | refine W.a8 ?_))
 refine W.ifF (by simp) ?_
 ((try simp only [n1, n2, n3, n4, n5, n6] at d); (with_reducible repeat first | refine W.a1 d ?_ | refine W.a2 ?_ | refine W.a3 ?_ | refine W.bo ?_ | refine W.a5 d fun hw d lw kw => ?_ | refine W.a6 d ?_ | refine W.a7 ?_ | refine W.a8 ?_))
 refine W.bs (eqIntS_run (base := base) (x.2.keepN d.kb) (y.2.keepN d.kb) (by omega)) ?_
 ((try simp only [n1, n2, n3, n4, n5, n6] at d); (with_reducible repeat first | refine W.a1 d ?_ | refine W.a2 ?_ | refine W.a3 ?_ | refine W.bo ?_ | refine W.a5 d fun hw d lw kw => ?_ | refine W.a6 d ?_ | refine W.a7 ?_ | refine W.a8 ?_))
 refine W.ifF (by simp) ?_
 ((try simp only [n1, n2, n3, n4, n5, n6] at d); (with_reducible repeat first | refine W.a1 d ?_ | refine W.a2 ?_ | refine W.a3 ?_ | refine W.bo ?_ | refine W.a5 d fun hw d lw kw => ?_ | refine W.a6 d ?_ | refine W.a7 ?_ | refine W.a8 ?_))
 refine W.ifF (by simp) ?_
 exact W.ret ⟨rfl, d.kb⟩
end Go.Proofs.Ytjmkbglnjklbcaa.Am
set_option linter.unusedSimpArgs false
set_option linter.unusedVariables false
namespace Go.Proofs.Ytjmkbglnjklbcaa.Am
open Go Go.RowKit
def AtO (base : Nat) (a : Option Addr) (ats : List ByteArray) (y : AH) : Prop := TyOk base y a 9 ∧ Sl y a (stV ats)
def InO (base : Nat) (a : Option Addr) (l : List Int) (y : AH) : Prop := TyOk base y a 3 ∧ Sl y a (iv .i64 l)
theorem AtO.keep {base : Nat} {a : Option Addr} {ats : List ByteArray} (U : Fp) (h h' : AH) (k : KB U h h') (hS : ∀ b, blk a b → ¬ U b) (x : AtO base a ats h) : AtO base a ats h' := ⟨x.1.keep k hS, x.2.keep k hS⟩
theorem InO.keep {base : Nat} {a : Option Addr} {l : List Int} (U : Fp) (h h' : AH) (k : KB U h h') (hS : ∀ b, blk a b → ¬ U b) (x : InO base a l h) : InO base a l h' := ⟨x.1.keep k hS, x.2.keep k hS⟩
abbrev rGn (base : Nat) (a b : Option Addr) (G : Gn) : Rs := ⟨fun i => blk a i ∨ blk b i, true, fun y => GnO base y a b G⟩
abbrev rAt (base : Nat) (a : Option Addr) (ats : List ByteArray) : Rs := ⟨blk a, true, AtO base a ats⟩
abbrev rIn_ (base : Nat) (a : Option Addr) (l : List Int) : Rs := ⟨blk a, true, InO base a l⟩
theorem mkRdA {base : Nat} {a b c : Option Addr} {G : Gn} {ats : List ByteArray} {y : AH} (x : GnO base y a b G) (z : AtO base c ats y) : RdA base a b G c ats y := ⟨x.1, x.2.1, z.1, x.2.2, z.2⟩
theorem Hs.toGens {base : Nat} {V : Fp} {h0 h : AH} {D : Ds} {R : List Rs} {oa ya : Option Addr} {G : Gn} (d : Hs base V h0 h D R) (h1 : G.old.length ≤ 1048576) (h2 : G.young.length ≤ 1048576) (x : GnS h oa ya G) :
  ∃ a b h', run (Et base) 29 [.agg (gensV oa ya G).toArray] h = some (.agg (gensV a b G).toArray, h') ∧ Hs base V h0 h' D (R ++ [rGn base a b G]) ∧ KB NoB h h' := by
 obtain ⟨a, b, h', e, o1, o2, k, q, _⟩ := toGens_run (base := base) h1 h2 x d.ge
 exact ⟨a, b, h', e, d.call k _ (fun y => GnO base y a b G) ⟨TyOk.own o1, TyOk.own o2, o1.sl, o2.sl⟩ (fun U y y' k hS x => x.keep k hS) q, k⟩
theorem Hs.toAts {base : Nat} {V : Fp} {h0 h : AH} {D : Ds} {R : List Rs} {aa : Option Addr} {ats : List ByteArray} (d : Hs base V h0 h D R) (h1 : ats.length ≤ 1048576) (x : Sl h aa (stV ats)) :
  ∃ a h', run (Et base) 16 [.slice aa ats.length ats.length] h = some (.slice a ats.length ats.length, h') ∧ Hs base V h0 h' D (R ++ [rAt base a ats]) ∧ KB NoB h h' := by
 obtain ⟨a, h', e, o1, k, q⟩ := toStringS_run (base := base) x h1 d.ge
 exact ⟨a, h', e, d.call k _ (AtO base a ats) ⟨TyOk.own o1, o1.sl⟩ AtO.keep q, k⟩
theorem Hs.toIns {base : Nat} {V : Fp} {h0 h : AH} {D : Ds} {R : List Rs} {aa : Option Addr} {l : List Int} (d : Hs base V h0 h D R) (h1 : l.length ≤ 1048576) (x : Sl h aa (iv .i64 l)) :
  ∃ a h', run (Et base) 35 [.slice aa l.length l.length] h = some (.slice a l.length l.length, h') ∧ Hs base V h0 h' D (R ++ [rIn_ base a l]) ∧ KB NoB h h' := by
 obtain ⟨a, h', e, o1, k, q⟩ := toIntS_run (base := base) x h1 d.ge
 exact ⟨a, h', e, d.call k _ (InO base a l) ⟨TyOk.own o1, o1.sl⟩ InO.keep fun b hb => ⟨q b hb, (o1.lt hb).2⟩, k⟩
theorem rd_ints {h : AH} {f : Nat} {v : Value} (x : Rd Try.prog h f 22 [v]) : ∃ a l, v = .slice a (List.length l) (List.length l) ∧ l.length ≤ maxLen ∧ Sl h a (iv .i64 l) ∧ ∀ n ∈ l, wOk n := by
 obtain ⟨a, zs, e, h1, h2, h3⟩ := x.ints Try.underlying22 Try.underlying3 (by kernel_rfl)
 injection e with e _
 refine ⟨a, zs, e, h1, h2, fun n hn => ?_⟩
 have := h3 n hn
 simp only [Lit.wf, Bool.and_eq_true, decide_eq_true_eq] at this
 exact ⟨this.1, this.2⟩
theorem strs_of : ∀ (vs : List Value), (∀ i, i < vs.length → ∃ s, vs[i]? = some (.string s) ∧ s.size ≤ maxLen) → ∃ l, vs = stV l ∧ ∀ s ∈ l, s.size ≤ maxLen
 | [], _ => ⟨[], rfl, fun s hs => by cases hs⟩
 | v :: vs, h => by
  obtain ⟨s, e, hs⟩ := h 0 (by simp)
  obtain ⟨l, e2, h2⟩ := strs_of vs fun i hi => by
   have := h (i + 1) (by simp; omega)
   simpa using this
  simp only [List.getElem?_cons_zero] at e
  injection e with e
  refine ⟨s :: l, by rw [e, e2]; rfl, fun t ht => ?_⟩
  rcases List.mem_cons.1 ht with rfl | ht
  ·exact hs
  ·exact h2 t ht
theorem rd_strs {h : AH} {f : Nat} {v : Value} (x : Rd Try.prog h f 25 [v]) : ∃ a l, v = .slice a (List.length l) (List.length l) ∧ l.length ≤ maxLen ∧ Sl h a (stV l) ∧ ∀ s ∈ l, s.size ≤ maxLen := by
 have c9 : Try.prog.cellsOf 9 = 1 := by kernel_rfl
 obtain ⟨g, a, n, vs, e, h1, h2, h3, h4⟩ := x.slice Try.underlying25
 rw [c9] at h3 h4
 simp only [Nat.mul_one] at h3 h4
 obtain ⟨l, e2, hl⟩ := strs_of vs fun i hi => by
  obtain ⟨s, e, hs⟩ := (h4 i (by omega)).str Try.underlying9
  refine ⟨s, ?_, hs⟩
  have := congrArg (·[0]?) e
  simp only [List.getElem?_take_of_lt (show 0 < 1 by decide), List.getElem?_drop, Nat.add_zero, List.getElem?_cons_zero] at this
  exact this
 injection e with e _
 have hn : l.length = n := by rw [← h3, e2, stV_len]
 subst e2
 exact ⟨a, l, by rw [hn]; exact e, by omega, h2, hl⟩
set_option maxRecDepth 100000 in
theorem rd_gens {h : AH} {f : Nat} {cs : List Value} (x : Rd Try.prog h f 48 cs) : ∃ a b G, cs = gensV a b G ∧ G.old.length ≤ maxLen ∧ G.young.length ≤ maxLen ∧ GnS h a b G ∧ (∀ n ∈ G.old, wOk n) ∧ ∀ n ∈ G.young, wOk n := by
 have cT : Try.prog.cellsOf 48 = 3 := by kernel_rfl
 have c3 : Try.prog.cellsOf 3 = 1 := by kernel_rfl
 have cL : Try.prog.cellsOf 22 = 1 := by kernel_rfl
 match f, x with
 | 0, x => exact x.elim
 | f + 1, x =>
  simp only [Rd, Try.underlying48] at x
  obtain ⟨hl, hf⟩ := x
  rw [cT] at hl
  match cs, hl with
  | [v0, v1, v2], _ =>
   simp only [List.forall_mem_cons, c3, cL, List.drop_zero, List.drop_succ_cons, List.take_succ_cons, List.take_zero] at hf
   obtain ⟨f0, f1, f2, _⟩ := hf
   obtain ⟨a, l, rfl, h1, h2, h3⟩ := rd_ints f0
   obtain ⟨b, y, rfl, h4, h5, h6⟩ := rd_ints f1
   obtain ⟨n2, e2, _⟩ := f2.int Try.underlying3
   injection e2 with e2 _
   subst e2
   exact ⟨a, b, ⟨l, y, n2⟩, rfl, h1, h4, ⟨h2, h5⟩, h3, h6⟩
end Go.Proofs.Ytjmkbglnjklbcaa.Am
set_option linter.unusedSimpArgs false
set_option linter.unusedVariables false
namespace Go.Proofs.Ytjmkbglnjklbcaa.Am
open Go Go.RowKit
structure Cx where
 pid : Int
 pc : Int
 regs : List Int
 box : List Int
 links : List Int
 home : Int
abbrev cxV (r b l : Option Addr) (C : Cx) : List Value := [.int .i64 C.pid, .int .i64 C.pc, .slice r C.regs.length C.regs.length, .slice b C.box.length C.box.length, .slice l C.links.length C.links.length, .int .i64 C.home]
def CxS (h : AH) (r b l : Option Addr) (C : Cx) : Prop := Sl h r (iv .i64 C.regs) ∧ Sl h b (iv .i64 C.box) ∧ Sl h l (iv .i64 C.links)
def CxO (base : Nat) (r b l : Option Addr) (C : Cx) (h : AH) : Prop := InO base r C.regs h ∧ InO base b C.box h ∧ InO base l C.links h
theorem CxS.keepN {h h' : AH} {r b l : Option Addr} {C : Cx} (x : CxS h r b l C) (k : KB NoB h h') : CxS h' r b l C := ⟨x.1.keepN k, x.2.1.keepN k, x.2.2.keepN k⟩
theorem CxO.cl {base : Nat} {h : AH} {r b l : Option Addr} {C : Cx} (x : CxO base r b l C h) : CxS h r b l C := ⟨x.1.2, x.2.1.2, x.2.2.2⟩
theorem CxO.keep {base : Nat} {r b l : Option Addr} {C : Cx} (U : Fp) (h h' : AH) (k : KB U h h') (hS : ∀ i, blk r i ∨ blk b i ∨ blk l i → ¬ U i) (x : CxO base r b l C h) : CxO base r b l C h' :=
 ⟨x.1.keep U _ _ k fun i hi => hS i (.inl hi), x.2.1.keep U _ _ k fun i hi => hS i (.inr (.inl hi)), x.2.2.keep U _ _ k fun i hi => hS i (.inr (.inr hi))⟩
abbrev rCx (base : Nat) (r b l : Option Addr) (C : Cx) : Rs := ⟨fun i => blk r i ∨ blk b i ∨ blk l i, true, CxO base r b l C⟩
def Cx.Le (C : Cx) : Prop := C.regs.length ≤ 1048576 ∧ C.box.length ≤ 1048576 ∧ C.links.length ≤ 1048576
theorem Hs.appN {base t sz bytes i n m : Nat} {V S : Fp} {h0 h : AH} {D : Ds} {R : List Rs} {a : Option Addr} {olds new : List Value} {src : Option (List Value)} (d : Hs base V h0 h D R) (ei : R[i]? = some ⟨S, true, fun x => Own base t x a olds⟩) (hS : ∀ b, blk a b → S b) (hn : olds.length = n * sz) (hsz : 0 < sz) (hs : src = some new) (h1 : (n + m) * bytes ≤ 140737488355328) (h2 : n + m ≤ 9223372036854775807) (hm : new.length = m * sz) :
  ∃ a' h', Am.app base h t sz bytes a n src m = some (.slice a' (n + m) (n + m), h') ∧ Hs base V h0 h' D (R.set i ⟨blk a', true, fun y => Own base t y a' (olds ++ new)⟩) ∧ KB (blk a) h h' := by
 obtain ⟨a', h', e, o, k, q⟩ := Own.app (x := d.rs ei) (bytes := bytes) (m := m) hn hsz hs d.ge h1 h2 hm
 refine ⟨a', h', e, d.upd (Upd.at ei) rfl rfl k (fun b hb => .inl (hS b hb)) o (fun U y y' ky hs x => x.keep ky hs) (fun b hb => ?_), k⟩
 rcases q with ⟨_, e, _⟩ | q
 ·have hb : blk a' b := hb
  rw [e] at hb
  exact .inl (hS b hb)
 ·have e := q b hb
  have := (o.lt hb).2
  exact .inr ⟨by omega, this⟩
theorem implRootsC_run {base : Nat} {h : AH} {r b l : Option Addr} {C : Cx} (hC : C.Le) (x : CxS h r b l C) (hb : base ≤ h.length) :
  ∃ a' h', run (Et base) 115 [.agg (cxV r b l C).toArray] h = some (.slice a' (C.regs ++ C.box).length (C.regs ++ C.box).length, h') ∧ InO base a' (C.regs ++ C.box) h' ∧ KB NoB h h' := by
 obtain ⟨c1, c2, c3⟩ := hC
 have d := Hs.start hb
 suffices W : Wp (run (Et base) 115 [.agg (cxV r b l C).toArray] h) fun o => ∃ a', o.1 = .slice a' (C.regs ++ C.box).length (C.regs ++ C.box).length ∧ InO base a' (C.regs ++ C.box) o.2 ∧ KB NoB h o.2 by
  obtain ⟨⟨o1, o2⟩, e, a', y1, y2, y3⟩ := W
  simp only at y1 y2 y3
  subst y1
  exact ⟨a', o2, e, y2, y3⟩
 refine W.of (fun r hx => Am.r115 hx) ?_
 ((try simp only [n1, n2, n3, n4, n5, n6] at d); (with_reducible repeat first | refine W.a1 d ?_ | refine W.a2 ?_ | refine W.a3 ?_ | refine W.bo ?_ | refine W.a5 d fun hw d lw kw => ?_ | refine W.a6 d ?_ | refine W.a7 ?_ | refine W.a8 ?_); (refine W.nD d fun p1 d _ kp1 => ?_); (with_reducible repeat first | refine W.a1 d ?_ | refine W.a2 ?_ | refine W.a3 ?_ | refine W.bo ?_ | refine W.a5 d fun hw d lw kw => ?_ | refine W.a6 d ?_ | refine W.a7 ?_ | refine W.a8 ?_))
 obtain ⟨a, h2, e2, o2, k2, q2⟩ := copyIntsO_run (base := base) (x.1.keepN d.kb) (by omega) d.ge
 refine W.bs e2 ?_
 have d := d.call k2 (blk a) (fun y => Own base 3 y a (iv .i64 C.regs)) o2 (fun U y y' k hs x => x.keep k hs) (fun i hi => ⟨q2 i hi, (o2.lt hi).2⟩)
 ((try simp only [n1, n2, n3, n4, n5, n6] at d); (with_reducible repeat first | refine W.a1 d ?_ | refine W.a2 ?_ | refine W.a3 ?_ | refine W.bo ?_ | refine W.a5 d fun hw d lw kw => ?_ | refine W.a6 d ?_ | refine W.a7 ?_ | refine W.a8 ?_))
 have hr : rawAt h2 b (C.box.length * 1) = some (iv .i64 C.box) := by
  have := (x.2.1.keepN d.kb).raw (iv_leaf _ _)
  simpa using this
 obtain ⟨a3, h3, e3, d, k3⟩ := d.appN (i := 0) (n := C.regs.length) (m := C.box.length) (sz := 1) (bytes := 8) rfl (fun b hb => hb) (by simp) (by decide) hr (by omega) (by omega) (by simp)
 refine W.bs e3 ?_
 have o3 : Own base 3 h3 a3 (iv .i64 C.regs ++ iv .i64 C.box) := d.rs (i := 0) rfl
 rw [iv_append] at o3
 refine W.bS rfl (W.ret ⟨a3, ?_, ⟨TyOk.own o3, o3.sl⟩, d.kb⟩)
 rw [List.length_append]
theorem specRootsC_run {base : Nat} {h : AH} {r b l : Option Addr} {C : Cx} (hC : C.Le) (x : CxS h r b l C) (hb : base ≤ h.length) :
  ∃ a' h', run (Et base) 113 [.agg (cxV r b l C).toArray] h = some (.slice a' (C.regs ++ C.box).length (C.regs ++ C.box).length, h') ∧ InO base a' (C.regs ++ C.box) h' ∧ KB NoB h h' := by
 obtain ⟨c1, c2, c3⟩ := hC
 have d := Hs.start hb
 suffices W : Wp (run (Et base) 113 [.agg (cxV r b l C).toArray] h) fun o => ∃ a', o.1 = .slice a' (C.regs ++ C.box).length (C.regs ++ C.box).length ∧ InO base a' (C.regs ++ C.box) o.2 ∧ KB NoB h o.2 by
  obtain ⟨⟨o1, o2⟩, e, a', y1, y2, y3⟩ := W
  simp only at y1 y2 y3
  subst y1
  exact ⟨a', o2, e, y2, y3⟩
 refine W.of (fun r hx => Am.r113 hx) ?_
 ((try simp only [n1, n2, n3, n4, n5, n6] at d); (with_reducible repeat first | refine W.a1 d ?_ | refine W.a2 ?_ | refine W.a3 ?_ | refine W.bo ?_ | refine W.a5 d fun hw d lw kw => ?_ | refine W.a6 d ?_ | refine W.a7 ?_ | refine W.a8 ?_); (refine W.nD d fun p1 d _ kp1 => ?_); (with_reducible repeat first | refine W.a1 d ?_ | refine W.a2 ?_ | refine W.a3 ?_ | refine W.bo ?_ | refine W.a5 d fun hw d lw kw => ?_ | refine W.a6 d ?_ | refine W.a7 ?_ | refine W.a8 ?_); (refine W.nD d fun p2 d _ kp2 => ?_); (with_reducible repeat first | refine W.a1 d ?_ | refine W.a2 ?_ | refine W.a3 ?_ | refine W.bo ?_ | refine W.a5 d fun hw d lw kw => ?_ | refine W.a6 d ?_ | refine W.a7 ?_ | refine W.a8 ?_))
 have d := d.unbox (Del.at (i := 0) rfl)
 simp only [n5, n6] at d
 have hr1 : rawAt p2 r (C.regs.length * 1) = some (iv .i64 C.regs) := by
  have := (x.1.keepN d.kb).raw (iv_leaf _ _)
  simpa using this
 obtain ⟨a2, h2, e2, d, k2⟩ := d.appN (i := 0) (n := 0) (m := C.regs.length) (sz := 1) (bytes := 8) (a := at0 p1.length) rfl (fun b hb => (blk_at0.1 hb)) (by simp) (by decide) hr1 (by omega) (by omega) (by simp)
 simp only [List.nil_append, Nat.zero_add] at e2 d
 refine W.bs e2 ?_
 ((try simp only [n1, n2, n3, n4, n5, n6] at d); (with_reducible repeat first | refine W.a1 d ?_ | refine W.a2 ?_ | refine W.a3 ?_ | refine W.bo ?_ | refine W.a5 d fun hw d lw kw => ?_ | refine W.a6 d ?_ | refine W.a7 ?_ | refine W.a8 ?_))
 have hr : rawAt h2 b (C.box.length * 1) = some (iv .i64 C.box) := by
  have := (x.2.1.keepN d.kb).raw (iv_leaf _ _)
  simpa using this
 obtain ⟨a3, h3, e3, d, k3⟩ := d.appN (i := 0) (n := C.regs.length) (m := C.box.length) (sz := 1) (bytes := 8) rfl (fun b hb => hb) (by simp) (by decide) hr (by omega) (by omega) (by simp)
 refine W.bs e3 ?_
 have o3 : Own base 3 h3 a3 (iv .i64 C.regs ++ iv .i64 C.box) := d.rs (i := 0) rfl
 rw [iv_append] at o3
 refine W.bS rfl (W.ret ⟨a3, ?_, ⟨TyOk.own o3, o3.sl⟩, d.kb⟩)
 rw [List.length_append]
theorem toCellC_run {base : Nat} {h : AH} {r b l : Option Addr} {C : Cx} (hC : C.Le) (x : CxS h r b l C) (hb : base ≤ h.length) :
  ∃ r' b' l' h', run (Et base) 45 [.agg (cxV r b l C).toArray] h = some (.agg (cxV r' b' l' C).toArray, h') ∧ CxO base r' b' l' C h' ∧ KB NoB h h' ∧ (∀ i, blk r' i ∨ blk b' i ∨ blk l' i → h.length ≤ i ∧ i < h'.length) := by
 obtain ⟨c1, c2, c3⟩ := hC
 have d := Hs.start hb
 suffices W : Wp (run (Et base) 45 [.agg (cxV r b l C).toArray] h) fun o => ∃ r' b' l', o.1 = .agg (cxV r' b' l' C).toArray ∧ CxO base r' b' l' C o.2 ∧ KB NoB h o.2 ∧ (∀ i, blk r' i ∨ blk b' i ∨ blk l' i → h.length ≤ i ∧ i < o.2.length) by
  obtain ⟨⟨o1, o2⟩, e, r', b', l', y1, y2⟩ := W
  simp only at y1 y2
  subst y1
  exact ⟨r', b', l', o2, e, y2⟩
 refine W.of (fun r hx => Am.r45 hx) ?_
 ((try simp only [n1, n2, n3, n4, n5, n6] at d); (with_reducible repeat first | refine W.a1 d ?_ | refine W.a2 ?_ | refine W.a3 ?_ | refine W.bo ?_ | refine W.a5 d fun hw d lw kw => ?_ | refine W.a6 d ?_ | refine W.a7 ?_ | refine W.a8 ?_); (refine W.nD d fun p1 d _ kp1 => ?_); (with_reducible repeat first | refine W.a1 d ?_ | refine W.a2 ?_ | refine W.a3 ?_ | refine W.bo ?_ | refine W.a5 d fun hw d lw kw => ?_ | refine W.a6 d ?_ | refine W.a7 ?_ | refine W.a8 ?_); (refine W.nD d fun p2 d _ kp2 => ?_); (with_reducible repeat first | refine W.a1 d ?_ | refine W.a2 ?_ | refine W.a3 ?_ | refine W.bo ?_ | refine W.a5 d fun hw d lw kw => ?_ | refine W.a6 d ?_ | refine W.a7 ?_ | refine W.a8 ?_); (refine W.nD d fun p3 d _ kp3 => ?_); (with_reducible repeat first | refine W.a1 d ?_ | refine W.a2 ?_ | refine W.a3 ?_ | refine W.bo ?_ | refine W.a5 d fun hw d lw kw => ?_ | refine W.a6 d ?_ | refine W.a7 ?_ | refine W.a8 ?_))
 obtain ⟨r', h4, e4, d, _⟩ := d.toIns c1 (x.1.keepN d.kb)
 refine W.bs e4 ?_
 ((try simp only [n1, n2, n3, n4, n5, n6] at d); (with_reducible repeat first | refine W.a1 d ?_ | refine W.a2 ?_ | refine W.a3 ?_ | refine W.bo ?_ | refine W.a5 d fun hw d lw kw => ?_ | refine W.a6 d ?_ | refine W.a7 ?_ | refine W.a8 ?_))
 obtain ⟨b', h5, e5, d, _⟩ := d.toIns c2 (x.2.1.keepN d.kb)
 refine W.bs e5 ?_
 ((try simp only [n1, n2, n3, n4, n5, n6] at d); (with_reducible repeat first | refine W.a1 d ?_ | refine W.a2 ?_ | refine W.a3 ?_ | refine W.bo ?_ | refine W.a5 d fun hw d lw kw => ?_ | refine W.a6 d ?_ | refine W.a7 ?_ | refine W.a8 ?_))
 obtain ⟨l', h6, e6, d, _⟩ := d.toIns c3 (x.2.2.keepN d.kb)
 refine W.bs e6 ?_
 ((try simp only [n1, n2, n3, n4, n5, n6] at d); (with_reducible repeat first | refine W.a1 d ?_ | refine W.a2 ?_ | refine W.a3 ?_ | refine W.bo ?_ | refine W.a5 d fun hw d lw kw => ?_ | refine W.a6 d ?_ | refine W.a7 ?_ | refine W.a8 ?_))
 have f0 := d.rfr (i := 0) rfl rfl
 have f1 := d.rfr (i := 1) rfl rfl
 have f2 := d.rfr (i := 2) rfl rfl
 have l0 := d.rlt (i := 0) rfl
 have l1 := d.rlt (i := 1) rfl
 have l2 := d.rlt (i := 2) rfl
 refine W.ret ⟨r', b', l', rfl, ⟨d.rs (i := 0) rfl, d.rs (i := 1) rfl, d.rs (i := 2) rfl⟩, d.kb, fun i hi => ?_⟩
 rcases hi with hi | hi | hi
 ·exact ⟨(f0 i hi).resolve_left fun h => h, l0 i hi⟩
 ·exact ⟨(f1 i hi).resolve_left fun h => h, l1 i hi⟩
 ·exact ⟨(f2 i hi).resolve_left fun h => h, l2 i hi⟩
theorem Hs.toCx {base : Nat} {V : Fp} {h0 h : AH} {D : Ds} {R : List Rs} {r b l : Option Addr} {C : Cx} (d : Hs base V h0 h D R) (hC : C.Le) (x : CxS h r b l C) :
  ∃ r' b' l' h', run (Et base) 45 [.agg (cxV r b l C).toArray] h = some (.agg (cxV r' b' l' C).toArray, h') ∧ Hs base V h0 h' D (R ++ [rCx base r' b' l' C]) ∧ KB NoB h h' := by
 obtain ⟨r', b', l', h', e, o, k, q⟩ := toCellC_run (base := base) hC x d.ge
 exact ⟨r', b', l', h', e, d.call k _ (CxO base r' b' l' C) o CxO.keep q, k⟩
theorem szCellC_run {base : Nat} {h : AH} {r b l : Option Addr} {C : Cx} {left : Int} (m1 : C.regs.length ≤ maxLen) (m2 : C.box.length ≤ maxLen) (m3 : C.links.length ≤ maxLen) (hb : base ≤ h.length) (l0 : 0 ≤ left) (l1 : left ≤ 1048576) :
  ∃ z h', run (Et base) 43 [.agg (cxV r b l C).toArray, .int .i64 left] h = some (.int .i64 z, h') ∧ KB NoB h h' ∧ z ≤ left ∧ -1 ≤ z ∧ (¬ z < 0 → C.Le) := by
 have d := Hs.start hb
 suffices W : Wp (run (Et base) 43 [.agg (cxV r b l C).toArray, .int .i64 left] h) fun o => ∃ z, o.1 = .int .i64 z ∧ KB NoB h o.2 ∧ z ≤ left ∧ -1 ≤ z ∧ (¬ z < 0 → C.Le) by
  obtain ⟨⟨o1, o2⟩, e, z, y1, y2⟩ := W
  simp only at y1 y2
  subst y1
  exact ⟨z, o2, e, y2⟩
 refine W.of (fun r hx => Am.r43 hx) ?_
 ((try simp only [n1, n2, n3, n4, n5, n6] at d); (with_reducible repeat first | refine W.a1 d ?_ | refine W.a2 ?_ | refine W.a3 ?_ | refine W.bo ?_ | refine W.a5 d fun hw d lw kw => ?_ | refine W.a6 d ?_ | refine W.a7 ?_ | refine W.a8 ?_); (refine W.nD d fun p1 d _ kp1 => ?_); (with_reducible repeat first | refine W.a1 d ?_ | refine W.a2 ?_ | refine W.a3 ?_ | refine W.bo ?_ | refine W.a5 d fun hw d lw kw => ?_ | refine W.a6 d ?_ | refine W.a7 ?_ | refine W.a8 ?_))
 obtain ⟨z1, e1, a1, a2, a3⟩ := szIntS_run (base := base) (h := p1) (a := r) (n := C.regs.length) (left := left) m1 l0 l1
 refine W.bs e1 ?_
 ((try simp only [n1, n2, n3, n4, n5, n6] at d); (with_reducible repeat first | refine W.a1 d ?_ | refine W.a2 ?_ | refine W.a3 ?_ | refine W.bo ?_ | refine W.a5 d fun hw d lw kw => ?_ | refine W.a6 d ?_ | refine W.a7 ?_ | refine W.a8 ?_))
 refine W.ite (fun c => W.ret ⟨-1, rfl, d.kb, by omega, by omega, fun h => absurd (by decide) h⟩) (fun c => ?_)
 have c : ¬ z1 < 0 := by simpa using c
 ((try simp only [n1, n2, n3, n4, n5, n6] at d); (with_reducible repeat first | refine W.a1 d ?_ | refine W.a2 ?_ | refine W.a3 ?_ | refine W.bo ?_ | refine W.a5 d fun hw d lw kw => ?_ | refine W.a6 d ?_ | refine W.a7 ?_ | refine W.a8 ?_))
 obtain ⟨z2, e2, b1, b2, b3⟩ := szIntS_run (base := base) (h := p1) (a := b) (n := C.box.length) (left := z1) m2 (by omega) (by omega)
 refine W.bs e2 ?_
 ((try simp only [n1, n2, n3, n4, n5, n6] at d); (with_reducible repeat first | refine W.a1 d ?_ | refine W.a2 ?_ | refine W.a3 ?_ | refine W.bo ?_ | refine W.a5 d fun hw d lw kw => ?_ | refine W.a6 d ?_ | refine W.a7 ?_ | refine W.a8 ?_))
 refine W.ite (fun c => W.ret ⟨-1, rfl, d.kb, by omega, by omega, fun h => absurd (by decide) h⟩) (fun c2 => ?_)
 have c2 : ¬ z2 < 0 := by simpa using c2
 ((try simp only [n1, n2, n3, n4, n5, n6] at d); (with_reducible repeat first | refine W.a1 d ?_ | refine W.a2 ?_ | refine W.a3 ?_ | refine W.bo ?_ | refine W.a5 d fun hw d lw kw => ?_ | refine W.a6 d ?_ | refine W.a7 ?_ | refine W.a8 ?_))
 obtain ⟨z3, e3, d1, d2, d3⟩ := szIntS_run (base := base) (h := p1) (a := l) (n := C.links.length) (left := z2) m3 (by omega) (by omega)
 refine W.bs e3 ?_
 ((try simp only [n1, n2, n3, n4, n5, n6] at d); (with_reducible repeat first | refine W.a1 d ?_ | refine W.a2 ?_ | refine W.a3 ?_ | refine W.bo ?_ | refine W.a5 d fun hw d lw kw => ?_ | refine W.a6 d ?_ | refine W.a7 ?_ | refine W.a8 ?_))
 refine W.ite (fun c => W.ret ⟨-1, rfl, d.kb, by omega, by omega, fun h => absurd (by decide) h⟩) (fun c3 => ?_)
 have c3 : ¬ z3 < 0 := by simpa using c3
 have := a3 c
 have := b3 c2
 have := d3 c3
 exact W.ret ⟨z3, rfl, d.kb, by omega, by omega, fun _ => ⟨by omega, by omega, by omega⟩⟩
theorem eqCellC_run {base : Nat} {h : AH} {r b l r2 b2 l2 : Option Addr} {C : Cx} (hC : C.Le) (x : CxS h r b l C) (y : CxS h r2 b2 l2 C) (hb : base ≤ h.length) :
  ∃ h', run (Et base) 48 [.agg (cxV r b l C).toArray, .agg (cxV r2 b2 l2 C).toArray] h = some (.bool true, h') ∧ KB NoB h h' := by
 obtain ⟨c1, c2, c3⟩ := hC
 have d := Hs.start hb
 suffices W : Wp (run (Et base) 48 [.agg (cxV r b l C).toArray, .agg (cxV r2 b2 l2 C).toArray] h) fun o => o.1 = .bool true ∧ KB NoB h o.2 by
  obtain ⟨⟨o1, o2⟩, e, y1, y2⟩ := W
  simp only at y1 y2
  subst y1
  exact ⟨o2, e, y2⟩
 refine W.of (fun r hx => Am.r48 hx) ?_
 ((try simp only [n1, n2, n3, n4, n5, n6] at d); (with_reducible repeat first | refine W.a1 d ?_ | refine W.a2 ?_ | refine W.a3 ?_ | refine W.bo ?_ | refine W.a5 d fun hw d lw kw => ?_ | refine W.a6 d ?_ | refine W.a7 ?_ | refine W.a8 ?_); (refine W.nD d fun p1 d _ kp1 => ?_); (with_reducible repeat first | refine W.a1 d ?_ | refine W.a2 ?_ | refine W.a3 ?_ | refine W.bo ?_ | refine W.a5 d fun hw d lw kw => ?_ | refine W.a6 d ?_ | refine W.a7 ?_ | refine W.a8 ?_); (refine W.nD d fun p2 d _ kp2 => ?_); (with_reducible repeat first | refine W.a1 d ?_ | refine W.a2 ?_ | refine W.a3 ?_ | refine W.bo ?_ | refine W.a5 d fun hw d lw kw => ?_ | refine W.a6 d ?_ | refine W.a7 ?_ | refine W.a8 ?_))
 refine W.ifF (by simp) ?_
 ((try simp only [n1, n2, n3, n4, n5, n6] at d); (with_reducible repeat first | refine W.a1 d ?_ | refine W.a2 ?_ | refine W.a3 ?_ | refine W.bo ?_ | refine W.a5 d fun hw d lw kw => ?_ | refine W.a6 d ?_ | refine W.a7 ?_ | refine W.a8 ?_))
 refine W.ifF (by simp) ?_
 ((try simp only [n1, n2, n3, n4, n5, n6] at d); (with_reducible repeat first | refine W.a1 d ?_ | refine W.a2 ?_ | refine W.a3 ?_ | refine W.bo ?_ | refine W.a5 d fun hw d lw kw => ?_ | refine W.a6 d ?_ | refine W.a7 ?_ | refine W.a8 ?_))
 refine W.bs (eqIntS_run (base := base) (x.1.keepN d.kb) (y.1.keepN d.kb) (by omega)) ?_
 ((try simp only [n1, n2, n3, n4, n5, n6] at d); (with_reducible repeat first | refine W.a1 d ?_ | refine W.a2 ?_ | refine W.a3 ?_ | refine W.bo ?_ | refine W.a5 d fun hw d lw kw => ?_ | refine W.a6 d ?_ | refine W.a7 ?_ | refine W.a8 ?_))
 refine W.ifF (by simp) ?_
 ((try simp only [n1, n2, n3, n4, n5, n6] at d); (with_reducible repeat first | refine W.a1 d ?_ | refine W.a2 ?_ | refine W.a3 ?_ | refine W.bo ?_ | refine W.a5 d fun hw d lw kw => ?_ | refine W.a6 d ?_ | refine W.a7 ?_ | refine W.a8 ?_))
 refine W.bs (eqIntS_run (base := base) (x.2.1.keepN d.kb) (y.2.1.keepN d.kb) (by omega)) ?_
 ((try simp only [n1, n2, n3, n4, n5, n6] at d); (with_reducible repeat first | refine W.a1 d ?_ | refine W.a2 ?_ | refine W.a3 ?_ | refine W.bo ?_ | refine W.a5 d fun hw d lw kw => ?_ | refine W.a6 d ?_ | refine W.a7 ?_ | refine W.a8 ?_))
 refine W.ifF (by simp) ?_
 ((try simp only [n1, n2, n3, n4, n5, n6] at d); (with_reducible repeat first | refine W.a1 d ?_ | refine W.a2 ?_ | refine W.a3 ?_ | refine W.bo ?_ | refine W.a5 d fun hw d lw kw => ?_ | refine W.a6 d ?_ | refine W.a7 ?_ | refine W.a8 ?_))
 refine W.bs (eqIntS_run (base := base) (x.2.2.keepN d.kb) (y.2.2.keepN d.kb) (by omega)) ?_
 ((try simp only [n1, n2, n3, n4, n5, n6] at d); (with_reducible repeat first | refine W.a1 d ?_ | refine W.a2 ?_ | refine W.a3 ?_ | refine W.bo ?_ | refine W.a5 d fun hw d lw kw => ?_ | refine W.a6 d ?_ | refine W.a7 ?_ | refine W.a8 ?_))
 refine W.ifF (by simp) ?_
 ((try simp only [n1, n2, n3, n4, n5, n6] at d); (with_reducible repeat first | refine W.a1 d ?_ | refine W.a2 ?_ | refine W.a3 ?_ | refine W.bo ?_ | refine W.a5 d fun hw d lw kw => ?_ | refine W.a6 d ?_ | refine W.a7 ?_ | refine W.a8 ?_))
 refine W.ifF (by simp) ?_
 exact W.ret ⟨rfl, d.kb⟩
end Go.Proofs.Ytjmkbglnjklbcaa.Am
set_option linter.unusedSimpArgs false
set_option linter.unusedVariables false
namespace Go.Proofs.Ytjmkbglnjklbcaa.Am
open Go Go.RowKit
def cxHead (l : List In) (C : Cx) : Bool := if (!codeOk l) = true then true else if (!inB C.pid 1 99999) = true then true else if (!inB C.pc 0 ((l.length : Int) - 1)) = true then true else if ((C.regs.length : Int) != 8) = true then true else decide ((C.box.length : Int) > 30)
def cxOk (l : List In) (C : Cx) (G : Gn) (ats : List ByteArray) : Bool := if codeOk l = true then if inB C.pid 1 99999 = true then if inB C.pc 0 ((l.length : Int) - 1) = true then if ((C.regs.length : Int) == 8) = true then if decide ((C.box.length : Int) ≤ 30) = true then if lkOk C.links C.pid = true then gOk G ats (C.regs ++ C.box) else false else false else false else false else false else false
theorem cxOk_eq (l : List In) (C : Cx) (G : Gn) (ats : List ByteArray) : cxOk l C G ats = if cxHead l C = true then false else if lkOk C.links C.pid = true then gOk G ats (C.regs ++ C.box) else false := by
 unfold cxOk cxHead
 cases codeOk l with
 | false => rfl
 | true =>
  cases inB C.pid 1 99999 with
  | false => rfl
  | true =>
   cases inB C.pc 0 ((l.length : Int) - 1) with
   | false => rfl
   | true =>
    by_cases h8 : (C.regs.length : Int) = 8
    ·have e1 : ((C.regs.length : Int) == 8) = true := by simpa using h8
     have e2 : ((C.regs.length : Int) != 8) = false := by simpa using h8
     rw [e1, e2]
     by_cases h30 : (C.box.length : Int) ≤ 30
     ·have e3 : decide ((C.box.length : Int) ≤ 30) = true := decide_eq_true h30
      have e4 : decide ((C.box.length : Int) > 30) = false := decide_eq_false (by omega)
      rw [e3, e4]; rfl
     ·have e3 : decide ((C.box.length : Int) ≤ 30) = false := decide_eq_false h30
      have e4 : decide ((C.box.length : Int) > 30) = true := decide_eq_true (by omega)
      rw [e3, e4]; rfl
    ·have e1 : ((C.regs.length : Int) == 8) = false := by simpa using h8
     have e2 : ((C.regs.length : Int) != 8) = true := by simpa using h8
     rw [e1, e2]; rfl
theorem implCellOk_run {base : Nat} {h : AH} {ca r b lk oa ya aa : Option Addr} {l : List In} {C : Cx} {G : Gn} {ats : List ByteArray} (hL : ∀ x ∈ l, x.s.size ≤ 9223372036854775807) (hl : l.length ≤ 9223372036854775807) (hC : C.Le) (hG : G.Ok) (ha : ats.length ≤ 1048576) (hz : ∀ s ∈ ats, s.size ≤ maxLen) (hr : ∀ w ∈ C.regs ++ C.box, wOk w) (xi : Sl h ca (insR l)) (xc : CxS h r b lk C) (x : RdA base oa ya G aa ats h) (hb : base ≤ h.length) :
  ∃ h', run (Et base) 55 [.slice ca l.length l.length, .agg (cxV r b lk C).toArray, .agg (gensV oa ya G).toArray, .slice aa ats.length ats.length] h = some (.bool (cxOk l C G ats), h') ∧ KB NoB h h' := by
 have d := Hs.start hb
 suffices W : Wp (run (Et base) 55 [.slice ca l.length l.length, .agg (cxV r b lk C).toArray, .agg (gensV oa ya G).toArray, .slice aa ats.length ats.length] h) fun o => o.1 = .bool (cxOk l C G ats) ∧ KB NoB h o.2 by
  obtain ⟨⟨o1, o2⟩, e, y1, y2⟩ := W
  simp only at y1 y2
  subst y1
  exact ⟨o2, e, y2⟩
 refine W.of (fun r hx => Am.r55 hx) ?_
 unfold cxOk
 ((try simp only [n1, n2, n3, n4, n5, n6] at d); (with_reducible repeat first | refine W.a1 d ?_ | refine W.a2 ?_ | refine W.a3 ?_ | refine W.bo ?_ | refine W.a5 d fun hw d lw kw => ?_ | refine W.a6 d ?_ | refine W.a7 ?_ | refine W.a8 ?_); (refine W.nD d fun p1 d _ kp1 => ?_); (with_reducible repeat first | refine W.a1 d ?_ | refine W.a2 ?_ | refine W.a3 ?_ | refine W.bo ?_ | refine W.a5 d fun hw d lw kw => ?_ | refine W.a6 d ?_ | refine W.a7 ?_ | refine W.a8 ?_); (refine W.nD d fun p2 d _ kp2 => ?_); (with_reducible repeat first | refine W.a1 d ?_ | refine W.a2 ?_ | refine W.a3 ?_ | refine W.bo ?_ | refine W.a5 d fun hw d lw kw => ?_ | refine W.a6 d ?_ | refine W.a7 ?_ | refine W.a8 ?_))
 obtain ⟨h3, e3, k3⟩ := implCodeOk_run (base := base) hL hl (xi.keepN d.kb) d.ge
 refine W.bs e3 ?_
 have d := d.kN k3
 ((try simp only [n1, n2, n3, n4, n5, n6] at d); (with_reducible repeat first | refine W.a1 d ?_ | refine W.a2 ?_ | refine W.a3 ?_ | refine W.bo ?_ | refine W.a5 d fun hw d lw kw => ?_ | refine W.a6 d ?_ | refine W.a7 ?_ | refine W.a8 ?_))
 refine W.ite (fun c => ?_) (fun c => by rw [if_neg c]; exact W.ret ⟨rfl, d.kb⟩)
 rw [if_pos c]
 ((try simp only [n1, n2, n3, n4, n5, n6] at d); (with_reducible repeat first | refine W.a1 d ?_ | refine W.a2 ?_ | refine W.a3 ?_ | refine W.bo ?_ | refine W.a5 d fun hw d lw kw => ?_ | refine W.a6 d ?_ | refine W.a7 ?_ | refine W.a8 ?_))
 refine W.bs in_run ?_
 ((try simp only [n1, n2, n3, n4, n5, n6] at d); (with_reducible repeat first | refine W.a1 d ?_ | refine W.a2 ?_ | refine W.a3 ?_ | refine W.bo ?_ | refine W.a5 d fun hw d lw kw => ?_ | refine W.a6 d ?_ | refine W.a7 ?_ | refine W.a8 ?_))
 refine W.ite (fun c => ?_) (fun c => by rw [if_neg c]; exact W.ret ⟨rfl, d.kb⟩)
 rw [if_pos c]
 ((try simp only [n1, n2, n3, n4, n5, n6] at d); (with_reducible repeat first | refine W.a1 d ?_ | refine W.a2 ?_ | refine W.a3 ?_ | refine W.bo ?_ | refine W.a5 d fun hw d lw kw => ?_ | refine W.a6 d ?_ | refine W.a7 ?_ | refine W.a8 ?_))
 rw [w64i (n := (l.length : Int) - 1) (by omega) (by omega)]
 refine W.bs in_run ?_
 ((try simp only [n1, n2, n3, n4, n5, n6] at d); (with_reducible repeat first | refine W.a1 d ?_ | refine W.a2 ?_ | refine W.a3 ?_ | refine W.bo ?_ | refine W.a5 d fun hw d lw kw => ?_ | refine W.a6 d ?_ | refine W.a7 ?_ | refine W.a8 ?_))
 refine W.ite (fun c => ?_) (fun c => by rw [if_neg c]; exact W.ret ⟨rfl, d.kb⟩)
 rw [if_pos c]
 ((try simp only [n1, n2, n3, n4, n5, n6] at d); (with_reducible repeat first | refine W.a1 d ?_ | refine W.a2 ?_ | refine W.a3 ?_ | refine W.bo ?_ | refine W.a5 d fun hw d lw kw => ?_ | refine W.a6 d ?_ | refine W.a7 ?_ | refine W.a8 ?_))
 refine W.ite (fun c => ?_) (fun c => by rw [if_neg c]; exact W.ret ⟨rfl, d.kb⟩)
 rw [if_pos c]
 ((try simp only [n1, n2, n3, n4, n5, n6] at d); (with_reducible repeat first | refine W.a1 d ?_ | refine W.a2 ?_ | refine W.a3 ?_ | refine W.bo ?_ | refine W.a5 d fun hw d lw kw => ?_ | refine W.a6 d ?_ | refine W.a7 ?_ | refine W.a8 ?_))
 refine W.ite (fun c => ?_) (fun c => by rw [if_neg c]; exact W.ret ⟨rfl, d.kb⟩)
 rw [if_pos c]
 ((try simp only [n1, n2, n3, n4, n5, n6] at d); (with_reducible repeat first | refine W.a1 d ?_ | refine W.a2 ?_ | refine W.a3 ?_ | refine W.bo ?_ | refine W.a5 d fun hw d lw kw => ?_ | refine W.a6 d ?_ | refine W.a7 ?_ | refine W.a8 ?_))
 have hC' := hC
 obtain ⟨c1, c2, c3⟩ := hC'
 refine W.bs (linksOk_run (base := base) (by omega) ((xc.keepN d.kb).2.2)) ?_
 ((try simp only [n1, n2, n3, n4, n5, n6] at d); (with_reducible repeat first | refine W.a1 d ?_ | refine W.a2 ?_ | refine W.a3 ?_ | refine W.bo ?_ | refine W.a5 d fun hw d lw kw => ?_ | refine W.a6 d ?_ | refine W.a7 ?_ | refine W.a8 ?_))
 refine W.ite (fun c => ?_) (fun c => by rw [if_neg c]; exact W.ret ⟨rfl, d.kb⟩)
 rw [if_pos c]
 ((try simp only [n1, n2, n3, n4, n5, n6] at d); (with_reducible repeat first | refine W.a1 d ?_ | refine W.a2 ?_ | refine W.a3 ?_ | refine W.bo ?_ | refine W.a5 d fun hw d lw kw => ?_ | refine W.a6 d ?_ | refine W.a7 ?_ | refine W.a8 ?_))
 obtain ⟨ra, h4, e4, o4, k4⟩ := implRootsC_run (base := base) hC (xc.keepN d.kb) d.ge
 refine W.bs e4 ?_
 have d := d.kN k4
 ((try simp only [n1, n2, n3, n4, n5, n6] at d); (with_reducible repeat first | refine W.a1 d ?_ | refine W.a2 ?_ | refine W.a3 ?_ | refine W.bo ?_ | refine W.a5 d fun hw d lw kw => ?_ | refine W.a6 d ?_ | refine W.a7 ?_ | refine W.a8 ?_))
 obtain ⟨h5, e5, k5⟩ := implGensOk_run (base := base) hG ha hz hr (by rw [List.length_append]; omega) (x.keepN d.kb) o4.2 o4.1 d.ge
 refine W.bs e5 ?_
 have d := d.kN k5
 ((try simp only [n1, n2, n3, n4, n5, n6] at d); (with_reducible repeat first | refine W.a1 d ?_ | refine W.a2 ?_ | refine W.a3 ?_ | refine W.bo ?_ | refine W.a5 d fun hw d lw kw => ?_ | refine W.a6 d ?_ | refine W.a7 ?_ | refine W.a8 ?_))
 exact W.ret ⟨rfl, d.kb⟩
theorem specCellOk_run {base : Nat} {h : AH} {ca r b lk oa ya aa : Option Addr} {l : List In} {C : Cx} {G : Gn} {ats : List ByteArray} (hL : ∀ x ∈ l, x.s.size ≤ 9223372036854775807) (hl : l.length ≤ 9223372036854775807) (hC : C.Le) (hG : G.Ok) (ha : ats.length ≤ 1048576) (hz : ∀ s ∈ ats, s.size ≤ maxLen) (hr : ∀ w ∈ C.regs ++ C.box, wOk w) (xi : Sl h ca (insR l)) (xc : CxS h r b lk C) (x : RdA base oa ya G aa ats h) (hb : base ≤ h.length) :
  ∃ h', run (Et base) 53 [.slice ca l.length l.length, .agg (cxV r b lk C).toArray, .agg (gensV oa ya G).toArray, .slice aa ats.length ats.length] h = some (.bool (cxOk l C G ats), h') ∧ KB NoB h h' := by
 have d := Hs.start hb
 have hC' := hC
 obtain ⟨c1, c2, c3⟩ := hC'
 suffices W : Wp (run (Et base) 53 [.slice ca l.length l.length, .agg (cxV r b lk C).toArray, .agg (gensV oa ya G).toArray, .slice aa ats.length ats.length] h) fun o => o.1 = .bool (cxOk l C G ats) ∧ KB NoB h o.2 by
  obtain ⟨⟨o1, o2⟩, e, y1, y2⟩ := W
  simp only at y1 y2
  subst y1
  exact ⟨o2, e, y2⟩
 refine W.of (fun r hx => Am.r53 hx) ?_
 rw [cxOk_eq]
 ((try simp only [n1, n2, n3, n4, n5, n6] at d); (with_reducible repeat first | refine W.a1 d ?_ | refine W.a2 ?_ | refine W.a3 ?_ | refine W.bo ?_ | refine W.a5 d fun hw d lw kw => ?_ | refine W.a6 d ?_ | refine W.a7 ?_ | refine W.a8 ?_); (refine W.nD d fun p1 d _ kp1 => ?_); (with_reducible repeat first | refine W.a1 d ?_ | refine W.a2 ?_ | refine W.a3 ?_ | refine W.bo ?_ | refine W.a5 d fun hw d lw kw => ?_ | refine W.a6 d ?_ | refine W.a7 ?_ | refine W.a8 ?_); (refine W.nD d fun p2 d _ kp2 => ?_); (with_reducible repeat first | refine W.a1 d ?_ | refine W.a2 ?_ | refine W.a3 ?_ | refine W.bo ?_ | refine W.a5 d fun hw d lw kw => ?_ | refine W.a6 d ?_ | refine W.a7 ?_ | refine W.a8 ?_))
 apply W.jb (cxHead l C) d
 ·obtain ⟨h3, e3, k3⟩ := specCodeOk_run (base := base) hL hl (xi.keepN d.kb) d.ge
  unfold cxHead
  refine W.bs e3 ?_
  have d := d.kN k3
  ((try simp only [n1, n2, n3, n4, n5, n6] at d); (with_reducible repeat first | refine W.a1 d ?_ | refine W.a2 ?_ | refine W.a3 ?_ | refine W.bo ?_ | refine W.a5 d fun hw d lw kw => ?_ | refine W.a6 d ?_ | refine W.a7 ?_ | refine W.a8 ?_))
  refine W.ite (fun c => ?_) (fun c => ?_)
  ·rw [if_pos c]; exact W.lb rfl rfl k3
  rw [if_neg c]
  ((try simp only [n1, n2, n3, n4, n5, n6] at d); (with_reducible repeat first | refine W.a1 d ?_ | refine W.a2 ?_ | refine W.a3 ?_ | refine W.bo ?_ | refine W.a5 d fun hw d lw kw => ?_ | refine W.a6 d ?_ | refine W.a7 ?_ | refine W.a8 ?_))
  refine W.bs l1In_run ?_
  ((try simp only [n1, n2, n3, n4, n5, n6] at d); (with_reducible repeat first | refine W.a1 d ?_ | refine W.a2 ?_ | refine W.a3 ?_ | refine W.bo ?_ | refine W.a5 d fun hw d lw kw => ?_ | refine W.a6 d ?_ | refine W.a7 ?_ | refine W.a8 ?_))
  refine W.ite (fun c => ?_) (fun c => ?_)
  ·rw [if_pos c]; exact W.lb rfl rfl k3
  rw [if_neg c]
  ((try simp only [n1, n2, n3, n4, n5, n6] at d); (with_reducible repeat first | refine W.a1 d ?_ | refine W.a2 ?_ | refine W.a3 ?_ | refine W.bo ?_ | refine W.a5 d fun hw d lw kw => ?_ | refine W.a6 d ?_ | refine W.a7 ?_ | refine W.a8 ?_))
  rw [w64i (n := (l.length : Int) - 1) (by omega) (by omega)]
  refine W.bs l1In_run ?_
  ((try simp only [n1, n2, n3, n4, n5, n6] at d); (with_reducible repeat first | refine W.a1 d ?_ | refine W.a2 ?_ | refine W.a3 ?_ | refine W.bo ?_ | refine W.a5 d fun hw d lw kw => ?_ | refine W.a6 d ?_ | refine W.a7 ?_ | refine W.a8 ?_))
  refine W.ite (fun c => ?_) (fun c => ?_)
  ·rw [if_pos c]; exact W.lb rfl rfl k3
  rw [if_neg c]
  ((try simp only [n1, n2, n3, n4, n5, n6] at d); (with_reducible repeat first | refine W.a1 d ?_ | refine W.a2 ?_ | refine W.a3 ?_ | refine W.bo ?_ | refine W.a5 d fun hw d lw kw => ?_ | refine W.a6 d ?_ | refine W.a7 ?_ | refine W.a8 ?_))
  refine W.ite (fun c => ?_) (fun c => ?_)
  ·rw [if_pos c]; exact W.lb rfl rfl k3
  rw [if_neg c]
  ((try simp only [n1, n2, n3, n4, n5, n6] at d); (with_reducible repeat first | refine W.a1 d ?_ | refine W.a2 ?_ | refine W.a3 ?_ | refine W.bo ?_ | refine W.a5 d fun hw d lw kw => ?_ | refine W.a6 d ?_ | refine W.a7 ?_ | refine W.a8 ?_))
  exact W.lb rfl rfl k3
 intro h4 d n4
 ((try simp only [n1, n2, n3, n4, n5, n6] at d); (with_reducible repeat first | refine W.a1 d ?_ | refine W.a2 ?_ | refine W.a3 ?_ | refine W.bo ?_ | refine W.a5 d fun hw d lw kw => ?_ | refine W.a6 d ?_ | refine W.a7 ?_ | refine W.a8 ?_))
 refine W.ite (fun c => by rw [if_pos c]; exact W.ret ⟨rfl, d.kb⟩) (fun c => ?_)
 rw [if_neg c]
 ((try simp only [n1, n2, n3, n4, n5, n6] at d); (with_reducible repeat first | refine W.a1 d ?_ | refine W.a2 ?_ | refine W.a3 ?_ | refine W.bo ?_ | refine W.a5 d fun hw d lw kw => ?_ | refine W.a6 d ?_ | refine W.a7 ?_ | refine W.a8 ?_))
 refine W.bs (l9Links_run (base := base) (by omega) ((xc.keepN d.kb).2.2)) ?_
 ((try simp only [n1, n2, n3, n4, n5, n6] at d); (with_reducible repeat first | refine W.a1 d ?_ | refine W.a2 ?_ | refine W.a3 ?_ | refine W.bo ?_ | refine W.a5 d fun hw d lw kw => ?_ | refine W.a6 d ?_ | refine W.a7 ?_ | refine W.a8 ?_))
 refine W.ite (fun c => ?_) (fun c => by rw [if_neg c]; exact W.ret ⟨rfl, d.kb⟩)
 rw [if_pos c]
 ((try simp only [n1, n2, n3, n4, n5, n6] at d); (with_reducible repeat first | refine W.a1 d ?_ | refine W.a2 ?_ | refine W.a3 ?_ | refine W.bo ?_ | refine W.a5 d fun hw d lw kw => ?_ | refine W.a6 d ?_ | refine W.a7 ?_ | refine W.a8 ?_))
 obtain ⟨ra, h5, e5, o5, k5⟩ := specRootsC_run (base := base) hC (xc.keepN d.kb) d.ge
 refine W.bs e5 ?_
 have d := d.kN k5
 ((try simp only [n1, n2, n3, n4, n5, n6] at d); (with_reducible repeat first | refine W.a1 d ?_ | refine W.a2 ?_ | refine W.a3 ?_ | refine W.bo ?_ | refine W.a5 d fun hw d lw kw => ?_ | refine W.a6 d ?_ | refine W.a7 ?_ | refine W.a8 ?_))
 obtain ⟨h6, e6, k6⟩ := specGensOk_run (base := base) hG ha hz hr (by rw [List.length_append]; omega) (x.keepN d.kb) o5.2 o5.1 d.ge
 refine W.bs e6 ?_
 have d := d.kN k6
 ((try simp only [n1, n2, n3, n4, n5, n6] at d); (with_reducible repeat first | refine W.a1 d ?_ | refine W.a2 ?_ | refine W.a3 ?_ | refine W.bo ?_ | refine W.a5 d fun hw d lw kw => ?_ | refine W.a6 d ?_ | refine W.a7 ?_ | refine W.a8 ?_))
 exact W.ret ⟨rfl, d.kb⟩
abbrev rCo (base n : Nat) (l : List In) : Rs := ⟨(· = n), true, fun y => Own base 139 y (at0 n) (insR l)⟩
theorem Hs.toCo {base : Nat} {V : Fp} {h0 h : AH} {D : Ds} {R : List Rs} {a : Option Addr} {l : List In} (d : Hs base V h0 h D R) (h1 : l.length ≤ 1048576) (x : Sl h a (insR l)) :
  ∃ h', run (Et base) 54 [.slice a l.length l.length] h = some (.slice (at0 h.length) l.length l.length, h') ∧ Hs base V h0 h' D (R ++ [rCo base h.length l]) ∧ KB NoB h h' := by
 obtain ⟨h', e, o1, k, q⟩ := toInsS_run (base := base) h1 x d.ge
 exact ⟨h', e, d.call k _ (fun y => Own base 139 y (at0 h.length) (insR l)) o1 Hs.own_kp (fun b hb => by subst hb; omega), k⟩
theorem cellOk_law {base : Nat} {h : AH} {ca r b lk oa ya aa : Option Addr} {l : List In} {C : Cx} {G : Gn} {ats : List ByteArray} (hL : ∀ x ∈ l, x.s.size ≤ 9223372036854775807) (hl : l.length ≤ 9223372036854775807) (n1 : C.regs.length ≤ maxLen) (n2 : C.box.length ≤ maxLen) (n3 : C.links.length ≤ maxLen) (hr : ∀ w ∈ C.regs ++ C.box, wOk w) (m1 : G.old.length ≤ maxLen) (m2 : G.young.length ≤ maxLen) (m3 : ats.length ≤ 9223372036854775807) (w1 : ∀ n ∈ G.old, wOk n) (w2 : ∀ n ∈ G.young, wOk n) (hz : ∀ s ∈ ats, s.size ≤ maxLen) (xi : Sl h ca (insR l)) (xc : CxS h r b lk C) (x : GnS h oa ya G) (xa : Sl h aa (stV ats)) (hb : base ≤ h.length) :
  Wp (run (Et base) 8 [.slice ca l.length l.length, .agg (cxV r b lk C).toArray, .agg (gensV oa ya G).toArray, .slice aa ats.length ats.length] h) fun r => r.1 = .bool true := by
 have gk : ∀ {y}, KB NoB h y → GnS y oa ya G := fun k => ⟨x.1.keepN k, x.2.keepN k⟩
 have d := Hs.start hb
 refine W.of (fun r hx => Am.r8 hx) ?_
 ((try simp only [n1, n2, n3, n4, n5, n6] at d); (with_reducible repeat first | refine W.a1 d ?_ | refine W.a2 ?_ | refine W.a3 ?_ | refine W.bo ?_ | refine W.a5 d fun hw d lw kw => ?_ | refine W.a6 d ?_ | refine W.a7 ?_ | refine W.a8 ?_); (refine W.nD d fun p1 d _ kp1 => ?_); (with_reducible repeat first | refine W.a1 d ?_ | refine W.a2 ?_ | refine W.a3 ?_ | refine W.bo ?_ | refine W.a5 d fun hw d lw kw => ?_ | refine W.a6 d ?_ | refine W.a7 ?_ | refine W.a8 ?_); (refine W.nD d fun p2 d _ kp2 => ?_); (with_reducible repeat first | refine W.a1 d ?_ | refine W.a2 ?_ | refine W.a3 ?_ | refine W.bo ?_ | refine W.a5 d fun hw d lw kw => ?_ | refine W.a6 d ?_ | refine W.a7 ?_ | refine W.a8 ?_))
 obtain ⟨z0, h3, e3, k3, a0⟩ := szInsS_run (base := base) hL hl (xi.keepN d.kb) d.ge
 have d := d.kN k3
 refine W.bs e3 ?_
 ((try simp only [n1, n2, n3, n4, n5, n6] at d); (with_reducible repeat first | refine W.a1 d ?_ | refine W.a2 ?_ | refine W.a3 ?_ | refine W.bo ?_ | refine W.a5 d fun hw d lw kw => ?_ | refine W.a6 d ?_ | refine W.a7 ?_ | refine W.a8 ?_))
 refine W.ite (fun c => W.ret rfl) (fun c0 => ?_)
 have c0 : ¬ z0 < 0 := by simpa using c0
 obtain ⟨hl1, hL1, hz0⟩ := a0 c0
 ((try simp only [n1, n2, n3, n4, n5, n6] at d); (with_reducible repeat first | refine W.a1 d ?_ | refine W.a2 ?_ | refine W.a3 ?_ | refine W.bo ?_ | refine W.a5 d fun hw d lw kw => ?_ | refine W.a6 d ?_ | refine W.a7 ?_ | refine W.a8 ?_))
 obtain ⟨z1, h4, e4, k4, a1, a2, a3⟩ := szCellC_run (base := base) (r := r) (b := b) (l := lk) (C := C) (left := z0) n1 n2 n3 d.ge (by omega) (by omega)
 have d := d.kN k4
 refine W.bs e4 ?_
 ((try simp only [n1, n2, n3, n4, n5, n6] at d); (with_reducible repeat first | refine W.a1 d ?_ | refine W.a2 ?_ | refine W.a3 ?_ | refine W.bo ?_ | refine W.a5 d fun hw d lw kw => ?_ | refine W.a6 d ?_ | refine W.a7 ?_ | refine W.a8 ?_))
 refine W.ite (fun c => W.ret rfl) (fun c1 => ?_)
 have c1 : ¬ z1 < 0 := by simpa using c1
 have hC := a3 c1
 ((try simp only [n1, n2, n3, n4, n5, n6] at d); (with_reducible repeat first | refine W.a1 d ?_ | refine W.a2 ?_ | refine W.a3 ?_ | refine W.bo ?_ | refine W.a5 d fun hw d lw kw => ?_ | refine W.a6 d ?_ | refine W.a7 ?_ | refine W.a8 ?_))
 obtain ⟨z2, h5, e5, k5, b1, b2, b3⟩ := szGens_run (base := base) (oa := oa) (ya := ya) (G := G) (left := z1) m1 m2 d.ge (by omega) (by omega)
 have d := d.kN k5
 refine W.bs e5 ?_
 ((try simp only [n1, n2, n3, n4, n5, n6] at d); (with_reducible repeat first | refine W.a1 d ?_ | refine W.a2 ?_ | refine W.a3 ?_ | refine W.bo ?_ | refine W.a5 d fun hw d lw kw => ?_ | refine W.a6 d ?_ | refine W.a7 ?_ | refine W.a8 ?_))
 refine W.ite (fun c => W.ret rfl) (fun c2 => ?_)
 have c2 : ¬ z2 < 0 := by simpa using c2
 have b3 := b3 c2
 obtain ⟨z3, e6, d1, d2, d3⟩ := szStringS_run (base := base) (left := z2) m3 hz (xa.keepN d.kb) (by omega) (by omega)
 refine W.bs e6 ?_
 ((try simp only [n1, n2, n3, n4, n5, n6] at d); (with_reducible repeat first | refine W.a1 d ?_ | refine W.a2 ?_ | refine W.a3 ?_ | refine W.bo ?_ | refine W.a5 d fun hw d lw kw => ?_ | refine W.a6 d ?_ | refine W.a7 ?_ | refine W.a8 ?_))
 refine W.ite (fun c => W.ret rfl) (fun c3 => ?_)
 have c3 : ¬ z3 < 0 := by simpa using c3
 have d3 := d3 c3
 have hG : G.Ok := ⟨by omega, by omega, w1, w2⟩
 have ha : ats.length ≤ 1048576 := by omega
 ((try simp only [n1, n2, n3, n4, n5, n6] at d); (with_reducible repeat first | refine W.a1 d ?_ | refine W.a2 ?_ | refine W.a3 ?_ | refine W.bo ?_ | refine W.a5 d fun hw d lw kw => ?_ | refine W.a6 d ?_ | refine W.a7 ?_ | refine W.a8 ?_))
 obtain ⟨h7, e7, d, _⟩ := d.toCo hl1 (xi.keepN d.kb)
 refine W.bs e7 ?_
 ((try simp only [n1, n2, n3, n4, n5, n6] at d); (with_reducible repeat first | refine W.a1 d ?_ | refine W.a2 ?_ | refine W.a3 ?_ | refine W.bo ?_ | refine W.a5 d fun hw d lw kw => ?_ | refine W.a6 d ?_ | refine W.a7 ?_ | refine W.a8 ?_))
 obtain ⟨r1, x1, l1, h8, e8, d, _⟩ := d.toCx hC (xc.keepN d.kb)
 refine W.bs e8 ?_
 ((try simp only [n1, n2, n3, n4, n5, n6] at d); (with_reducible repeat first | refine W.a1 d ?_ | refine W.a2 ?_ | refine W.a3 ?_ | refine W.bo ?_ | refine W.a5 d fun hw d lw kw => ?_ | refine W.a6 d ?_ | refine W.a7 ?_ | refine W.a8 ?_))
 obtain ⟨ga, gb, h9, e9, d, _⟩ := d.toGens hG.1 hG.2.1 (gk d.kb)
 refine W.bs e9 ?_
 ((try simp only [n1, n2, n3, n4, n5, n6] at d); (with_reducible repeat first | refine W.a1 d ?_ | refine W.a2 ?_ | refine W.a3 ?_ | refine W.bo ?_ | refine W.a5 d fun hw d lw kw => ?_ | refine W.a6 d ?_ | refine W.a7 ?_ | refine W.a8 ?_))
 obtain ⟨sa, h10, e10, d, _⟩ := d.toAts ha (xa.keepN d.kb)
 refine W.bs e10 ?_
 ((try simp only [n1, n2, n3, n4, n5, n6] at d); (with_reducible repeat first | refine W.a1 d ?_ | refine W.a2 ?_ | refine W.a3 ?_ | refine W.bo ?_ | refine W.a5 d fun hw d lw kw => ?_ | refine W.a6 d ?_ | refine W.a7 ?_ | refine W.a8 ?_))
 obtain ⟨h11, e11, k11⟩ := specCellOk_run (base := base) hL hl hC hG ha hz hr (Own.sl (d.rs (i := 0) rfl)) (CxO.cl (d.rs (i := 1) rfl)) (mkRdA (d.rs (i := 2) rfl) (d.rs (i := 3) rfl)) d.ge
 refine W.bs e11 ?_
 have d := d.kN k11
 ((try simp only [n1, n2, n3, n4, n5, n6] at d); (with_reducible repeat first | refine W.a1 d ?_ | refine W.a2 ?_ | refine W.a3 ?_ | refine W.bo ?_ | refine W.a5 d fun hw d lw kw => ?_ | refine W.a6 d ?_ | refine W.a7 ?_ | refine W.a8 ?_))
 obtain ⟨h12, e12, d, _⟩ := d.toCo hl1 (xi.keepN d.kb)
 refine W.bs e12 ?_
 ((try simp only [n1, n2, n3, n4, n5, n6] at d); (with_reducible repeat first | refine W.a1 d ?_ | refine W.a2 ?_ | refine W.a3 ?_ | refine W.bo ?_ | refine W.a5 d fun hw d lw kw => ?_ | refine W.a6 d ?_ | refine W.a7 ?_ | refine W.a8 ?_))
 obtain ⟨r2, x2, l2, h13, e13, d, _⟩ := d.toCx hC (xc.keepN d.kb)
 refine W.bs e13 ?_
 ((try simp only [n1, n2, n3, n4, n5, n6] at d); (with_reducible repeat first | refine W.a1 d ?_ | refine W.a2 ?_ | refine W.a3 ?_ | refine W.bo ?_ | refine W.a5 d fun hw d lw kw => ?_ | refine W.a6 d ?_ | refine W.a7 ?_ | refine W.a8 ?_); (refine W.nD d fun h14 d _ kh14 => ?_); (with_reducible repeat first | refine W.a1 d ?_ | refine W.a2 ?_ | refine W.a3 ?_ | refine W.bo ?_ | refine W.a5 d fun hw d lw kw => ?_ | refine W.a6 d ?_ | refine W.a7 ?_ | refine W.a8 ?_))
 obtain ⟨gc, gd, h15, e15, d, _⟩ := d.toGens hG.1 hG.2.1 (gk d.kb)
 refine W.bs e15 ?_
 ((try simp only [n1, n2, n3, n4, n5, n6] at d); (with_reducible repeat first | refine W.a1 d ?_ | refine W.a2 ?_ | refine W.a3 ?_ | refine W.bo ?_ | refine W.a5 d fun hw d lw kw => ?_ | refine W.a6 d ?_ | refine W.a7 ?_ | refine W.a8 ?_); (refine W.nD d fun h16 d _ kh16 => ?_); (with_reducible repeat first | refine W.a1 d ?_ | refine W.a2 ?_ | refine W.a3 ?_ | refine W.bo ?_ | refine W.a5 d fun hw d lw kw => ?_ | refine W.a6 d ?_ | refine W.a7 ?_ | refine W.a8 ?_))
 obtain ⟨sb, h17, e17, d, _⟩ := d.toAts ha (xa.keepN d.kb)
 refine W.bs e17 ?_
 ((try simp only [n1, n2, n3, n4, n5, n6] at d); (with_reducible repeat first | refine W.a1 d ?_ | refine W.a2 ?_ | refine W.a3 ?_ | refine W.bo ?_ | refine W.a5 d fun hw d lw kw => ?_ | refine W.a6 d ?_ | refine W.a7 ?_ | refine W.a8 ?_))
 obtain ⟨h18, e18, k18⟩ := implCellOk_run (base := base) hL hl hC hG ha hz hr (Own.sl (d.rs (i := 4) rfl)) (CxO.cl (d.rs (i := 5) rfl)) (mkRdA (d.rs (i := 6) rfl) (d.rs (i := 7) rfl)) d.ge
 refine W.bs e18 ?_
 have d := d.kN k18
 ((try simp only [n1, n2, n3, n4, n5, n6] at d); (with_reducible repeat first | refine W.a1 d ?_ | refine W.a2 ?_ | refine W.a3 ?_ | refine W.bo ?_ | refine W.a5 d fun hw d lw kw => ?_ | refine W.a6 d ?_ | refine W.a7 ?_ | refine W.a8 ?_))
 refine W.ifF (by simp) ?_
 obtain ⟨h19, e19, d, _⟩ := d.toCo hl1 (xi.keepN d.kb)
 refine W.bs e19 ?_
 ((try simp only [n1, n2, n3, n4, n5, n6] at d); (with_reducible repeat first | refine W.a1 d ?_ | refine W.a2 ?_ | refine W.a3 ?_ | refine W.bo ?_ | refine W.a5 d fun hw d lw kw => ?_ | refine W.a6 d ?_ | refine W.a7 ?_ | refine W.a8 ?_))
 obtain ⟨h20, e20, k20⟩ := eqInsS_run (base := base) hl (Own.sl (d.rs (i := 4) rfl)) (Own.sl (d.rs (i := 8) rfl)) d.ge
 refine W.bs e20 ?_
 have d := d.kN k20
 ((try simp only [n1, n2, n3, n4, n5, n6] at d); (with_reducible repeat first | refine W.a1 d ?_ | refine W.a2 ?_ | refine W.a3 ?_ | refine W.bo ?_ | refine W.a5 d fun hw d lw kw => ?_ | refine W.a6 d ?_ | refine W.a7 ?_ | refine W.a8 ?_))
 refine W.ifF (by decide) ?_
 ((try simp only [n1, n2, n3, n4, n5, n6] at d); (with_reducible repeat first | refine W.a1 d ?_ | refine W.a2 ?_ | refine W.a3 ?_ | refine W.bo ?_ | refine W.a5 d fun hw d lw kw => ?_ | refine W.a6 d ?_ | refine W.a7 ?_ | refine W.a8 ?_))
 obtain ⟨r3, x3, l3, h21, e21, d, _⟩ := d.toCx hC (xc.keepN d.kb)
 refine W.bs e21 ?_
 ((try simp only [n1, n2, n3, n4, n5, n6] at d); (with_reducible repeat first | refine W.a1 d ?_ | refine W.a2 ?_ | refine W.a3 ?_ | refine W.bo ?_ | refine W.a5 d fun hw d lw kw => ?_ | refine W.a6 d ?_ | refine W.a7 ?_ | refine W.a8 ?_))
 obtain ⟨h22, e22, k22⟩ := eqCellC_run (base := base) hC (CxO.cl (d.rs (i := 5) rfl)) (CxO.cl (d.rs (i := 9) rfl)) d.ge
 refine W.bs e22 ?_
 have d := d.kN k22
 ((try simp only [n1, n2, n3, n4, n5, n6] at d); (with_reducible repeat first | refine W.a1 d ?_ | refine W.a2 ?_ | refine W.a3 ?_ | refine W.bo ?_ | refine W.a5 d fun hw d lw kw => ?_ | refine W.a6 d ?_ | refine W.a7 ?_ | refine W.a8 ?_))
 refine W.ifF (by decide) ?_
 ((try simp only [n1, n2, n3, n4, n5, n6] at d); (with_reducible repeat first | refine W.a1 d ?_ | refine W.a2 ?_ | refine W.a3 ?_ | refine W.bo ?_ | refine W.a5 d fun hw d lw kw => ?_ | refine W.a6 d ?_ | refine W.a7 ?_ | refine W.a8 ?_))
 obtain ⟨ge, gf, h23, e23, d, _⟩ := d.toGens hG.1 hG.2.1 (gk d.kb)
 refine W.bs e23 ?_
 ((try simp only [n1, n2, n3, n4, n5, n6] at d); (with_reducible repeat first | refine W.a1 d ?_ | refine W.a2 ?_ | refine W.a3 ?_ | refine W.bo ?_ | refine W.a5 d fun hw d lw kw => ?_ | refine W.a6 d ?_ | refine W.a7 ?_ | refine W.a8 ?_))
 have q6 : GnO base h23 gc gd G := d.rs (i := 6) rfl
 have q7 : GnO base h23 ge gf G := d.rs (i := 10) rfl
 obtain ⟨h24, e24, k24⟩ := eqGens_run (base := base) hG.1 hG.2.1 q6.2.2 q7.2.2 d.ge
 refine W.bs e24 ?_
 have d := d.kN k24
 ((try simp only [n1, n2, n3, n4, n5, n6] at d); (with_reducible repeat first | refine W.a1 d ?_ | refine W.a2 ?_ | refine W.a3 ?_ | refine W.bo ?_ | refine W.a5 d fun hw d lw kw => ?_ | refine W.a6 d ?_ | refine W.a7 ?_ | refine W.a8 ?_))
 refine W.ifF (by decide) ?_
 obtain ⟨sc, h25, e25, d, _⟩ := d.toAts ha (xa.keepN d.kb)
 refine W.bs e25 ?_
 ((try simp only [n1, n2, n3, n4, n5, n6] at d); (with_reducible repeat first | refine W.a1 d ?_ | refine W.a2 ?_ | refine W.a3 ?_ | refine W.bo ?_ | refine W.a5 d fun hw d lw kw => ?_ | refine W.a6 d ?_ | refine W.a7 ?_ | refine W.a8 ?_))
 have q8 : AtO base sb ats h25 := d.rs (i := 7) rfl
 have q9 : AtO base sc ats h25 := d.rs (i := 11) rfl
 refine W.bs (eqStringS_run m3 q8.2 q9.2) ?_
 ((try simp only [n1, n2, n3, n4, n5, n6] at d); (with_reducible repeat first | refine W.a1 d ?_ | refine W.a2 ?_ | refine W.a3 ?_ | refine W.bo ?_ | refine W.a5 d fun hw d lw kw => ?_ | refine W.a6 d ?_ | refine W.a7 ?_ | refine W.a8 ?_))
 exact W.ifF (by decide) (W.ret rfl)
set_option maxRecDepth 100000 in
theorem rd_cell {h : AH} {f : Nat} {cs : List Value} (x : Rd Try.prog h f 74 cs) : ∃ r b l C, cs = cxV r b l C ∧ C.regs.length ≤ maxLen ∧ C.box.length ≤ maxLen ∧ C.links.length ≤ maxLen ∧ CxS h r b l C ∧ ∀ w ∈ C.regs ++ C.box, wOk w := by
 have cT : Try.prog.cellsOf 74 = 6 := by kernel_rfl
 have c3 : Try.prog.cellsOf 3 = 1 := by kernel_rfl
 have cL : Try.prog.cellsOf 22 = 1 := by kernel_rfl
 match f, x with
 | 0, x => exact x.elim
 | f + 1, x =>
  simp only [Rd, Try.underlying74] at x
  obtain ⟨hl, hf⟩ := x
  rw [cT] at hl
  match cs, hl with
  | [v0, v1, v2, v3, v4, v5], _ =>
   simp only [List.forall_mem_cons, c3, cL, List.drop_zero, List.drop_succ_cons, List.take_succ_cons, List.take_zero] at hf
   obtain ⟨f0, f1, f2, f3, f4, f5, _⟩ := hf
   obtain ⟨n0, e0, _⟩ := f0.int Try.underlying3
   obtain ⟨n1, e1, _⟩ := f1.int Try.underlying3
   obtain ⟨r, R, rfl, h1, h2, h3⟩ := rd_ints f2
   obtain ⟨b, B, rfl, h4, h5, h6⟩ := rd_ints f3
   obtain ⟨l, L, rfl, h7, h8, h9⟩ := rd_ints f4
   obtain ⟨n5, e5, _⟩ := f5.int Try.underlying3
   injection e0 with e0 _
   injection e1 with e1 _
   injection e5 with e5 _
   subst e0; subst e1; subst e5
   refine ⟨r, b, l, ⟨n0, n1, R, B, L, n5⟩, rfl, h1, h4, h7, ⟨h2, h5, h8⟩, fun w hw => ?_⟩
   rcases List.mem_append.1 hw with hw | hw
   ·exact h3 w hw
   ·exact h6 w hw
theorem cellOk_entry {base : Nat} {h : AH} {f1 f2 f3 f4 : Nat} {cs gs : List Value} {u v : Value} (w : Rd Try.prog h f1 85 [u]) (x : Rd Try.prog h f2 74 cs) (y : Rd Try.prog h f3 48 gs) (z : Rd Try.prog h f4 25 [v]) (hb : base ≤ h.length) : ∃ h', run (Et base) 8 [u, .agg cs.toArray, .agg gs.toArray, v] h = some (.bool true, h') := by
 obtain ⟨ca, l, rfl, i1, i2, i3⟩ := rd_ins w
 obtain ⟨r, b, lk, C, rfl, n1, n2, n3, xc, hr⟩ := rd_cell x
 obtain ⟨oa, ya, G, rfl, h1, h2, h3, h4, h5⟩ := rd_gens y
 obtain ⟨sa, ats, rfl, s1, s2, s3⟩ := rd_strs z
 obtain ⟨⟨t, h'⟩, e, q⟩ := cellOk_law (base := base) (fun x hx => by have := i3 x hx; unfold maxLen at this; exact this) (by have := i1; unfold maxLen at this; exact this) n1 n2 n3 hr h1 h2 (by have := s1; unfold maxLen at this; exact this) h4 h5 s3 i2 xc h3 s2 hb
 simp only at q
 exact ⟨h', by rw [e, q]⟩
end Go.Proofs.Ytjmkbglnjklbcaa.Am
