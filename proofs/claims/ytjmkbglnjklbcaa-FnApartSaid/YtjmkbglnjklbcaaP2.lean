/- What the functions of this law compute, lemma by lemma, up to the law.
Conditions: none. -/
import Derived.Test.YtjmkbglnjklbcaaP1
import Derived.DataShut
import Derived.IntWalk
import Derived.Laws.BitsLemmas

set_option linter.unusedSimpArgs false
set_option linter.unusedVariables false
namespace Go.Proofs.Ytjmkbglnjklbcaa.Am
open Go Go.RowKit
def upl : Nat → List (Nat × Bool) → List Int
 | _, [] => []
 | p, b :: r => if b.2 = true then (p : Int) :: upl (p + b.1 + 3) r else upl (p + b.1 + 3) r
theorem upl_len : ∀ (bs : List (Nat × Bool)) (p : Nat), (upl p bs).length ≤ bs.length
 | [], p => Nat.le_refl _
 | b :: r, p => by
  have := upl_len r (p + b.1 + 3)
  simp only [upl]
  split <;> simp only [List.length_cons] <;> omega
def UbR (base F : Nat) : Prop := ∀ (h : AH) (a : Option Addr) (Z : List Int) (bs : List (Nat × Bool)), Sl h a (iv .i64 Z) → (∀ b, blk a b → b < h.length) → Z.length ≤ 4000 → ChS Z 0 bs Z.length → base ≤ h.length →
  ∃ a' h', run (Et base) F [.agg #[.slice a Z.length Z.length]] h = some (.slice a' (upl 0 bs).length (upl 0 bs).length, h') ∧ Hs base NoB h h' [] [rW base a' (upl 0 bs)]
theorem implBlocks_loop {base b0 : Nat} {h0 : AH} {a : Option Addr} {Z : List Int} (hZ : Z.length ≤ 4000) : ∀ (bs : List (Nat × Bool)) (p : Nat) (h : AH) (ao : Option Addr) (out : List Int), ChS Z p bs Z.length → out.length + bs.length ≤ 2000 → Hs base NoB h0 h [(b0, 91, [.slice a Z.length Z.length])] [rSl (blk a) a Z, rW base ao out] →
  ∃ o, loopL (B119_0 base) [some (.pointer (at0 b0)), some (.slice ao out.length out.length), some (.int .i64 (p : Int))] h = some o ∧ ∃ a', o.1 = 1 ∧ o.2.1 = [some (.slice a' (out ++ pls p bs).length (out ++ pls p bs).length)] ∧ Hs base NoB h0 o.2.2 [(b0, 91, [.slice a Z.length Z.length])] [rSl (blk a) a Z, rW base a' (out ++ pls p bs)]
 | [], p, h, ao, out, hc, hn, d => by
  simp only [ChS] at hc
  subst hc
  obtain ⟨⟨v, h1⟩, e1, k1, y⟩ := implBk_run (base := base) h a Z Z.length (d.rs (i := 0) rfl) hZ (by omega) d.ge
  simp only at k1 y
  rcases y with ⟨n, u, hk, rfl⟩ | ⟨hno, rfl⟩
  ·have := hk.2.1; omega
  suffices w1 : Wp (B119_0 base [some (.pointer (at0 b0)), some (.slice ao out.length out.length), some (.int .i64 (Z.length : Int))] h) fun o => o = (1, [some (.slice ao out.length out.length)], h1) by
   obtain ⟨o, e, rfl⟩ := w1
   refine ⟨_, loop_off (by decide) e, ao, rfl, by simp [pls], ?_⟩
   rw [pls, List.append_nil]
   exact d.kN k1
  rw [B119_0_eq]
  ((try simp only [n1, n2, n3, n4, n5, n6] at d); (with_reducible repeat first | refine W.a1 d ?_ | refine W.a2 ?_ | refine W.a3 ?_ | refine W.bo ?_ | refine W.a5 d fun hw d lw kw => ?_ | refine W.a6 d ?_ | refine W.a7 ?_ | refine W.a8 ?_))
  refine W.bs e1 ?_
  ((try simp only [n1, n2, n3, n4, n5, n6] at d); (with_reducible repeat first | refine W.a1 d ?_ | refine W.a2 ?_ | refine W.a3 ?_ | refine W.bo ?_ | refine W.a5 d fun hw d lw kw => ?_ | refine W.a6 d ?_ | refine W.a7 ?_ | refine W.a8 ?_))
  exact W.ifT rfl (W.ret rfl)
 | b :: r, p, h, ao, out, hc, hn, d => by
  simp only [List.length_cons] at hn
  have hl := hc.1.2.1
  obtain ⟨h1, e1, k1⟩ := BkR.at (@implBk_run base) (d.rs (i := 0) rfl) hZ d.ge hc.1
  suffices w1 : Wp (B119_0 base [some (.pointer (at0 b0)), some (.slice ao out.length out.length), some (.int .i64 (p : Int))] h) fun o => ∃ a', o.1 = 0 ∧ o.2.1 = [some (.pointer (at0 b0)), some (.slice a' (out ++ [(p : Int)]).length (out ++ [(p : Int)]).length), some (.int .i64 ((p + b.1 + 3 : Nat) : Int))] ∧ Hs base NoB h0 o.2.2 [(b0, 91, [.slice a Z.length Z.length])] [rSl (blk a) a Z, rW base a' (out ++ [(p : Int)])] by
   obtain ⟨⟨o1, o2, h'⟩, e, a', y1, y2, d'⟩ := w1
   simp only at y1 y2 d'
   subst y1; subst y2
   obtain ⟨o, eo, a2, q1, q2, q3⟩ := implBlocks_loop hZ r (p + b.1 + 3) h' a' (out ++ [(p : Int)]) hc.2 (by simp only [List.length_append, List.length_singleton]; omega) d'
   rw [List.append_assoc] at q2 q3
   exact ⟨o, loop_on e eo, a2, q1, q2, q3⟩
  rw [B119_0_eq]
  ((try simp only [n1, n2, n3, n4, n5, n6] at d); (with_reducible repeat first | refine W.a1 d ?_ | refine W.a2 ?_ | refine W.a3 ?_ | refine W.bo ?_ | refine W.a5 d fun hw d lw kw => ?_ | refine W.a6 d ?_ | refine W.a7 ?_ | refine W.a8 ?_))
  refine W.bs e1 ?_
  have d := d.kN k1
  ((try simp only [n1, n2, n3, n4, n5, n6] at d); (with_reducible repeat first | refine W.a1 d ?_ | refine W.a2 ?_ | refine W.a3 ?_ | refine W.bo ?_ | refine W.a5 d fun hw d lw kw => ?_ | refine W.a6 d ?_ | refine W.a7 ?_ | refine W.a8 ?_))
  refine W.ifF (by simp) ?_
  ((try simp only [n1, n2, n3, n4, n5, n6] at d); (with_reducible repeat first | refine W.a1 d ?_ | refine W.a2 ?_ | refine W.a3 ?_ | refine W.bo ?_ | refine W.a5 d fun hw d lw kw => ?_ | refine W.a6 d ?_ | refine W.a7 ?_ | refine W.a8 ?_); (refine W.nD d fun h2 d _ kh2 => ?_); (with_reducible repeat first | refine W.a1 d ?_ | refine W.a2 ?_ | refine W.a3 ?_ | refine W.bo ?_ | refine W.a5 d fun hw d lw kw => ?_ | refine W.a6 d ?_ | refine W.a7 ?_ | refine W.a8 ?_))
  obtain ⟨a5, h5, e5, d⟩ := d.app1W (i := 1) rfl rfl (by omega)
  refine W.bs e5 ?_
  ((try simp only [n1, n2, n3, n4, n5, n6] at d); (with_reducible repeat first | refine W.a1 d ?_ | refine W.a2 ?_ | refine W.a3 ?_ | refine W.bo ?_ | refine W.a5 d fun hw d lw kw => ?_ | refine W.a6 d ?_ | refine W.a7 ?_ | refine W.a8 ?_))
  rw [w64i (n := (b.1 : Int) + 3) (by omega) (by omega), w64i (n := (p : Int) + ((b.1 : Int) + 3)) (by omega) (by omega), show (p : Int) + ((b.1 : Int) + 3) = ((p + b.1 + 3 : Nat) : Int) from by omega]
  refine W.ret ⟨a5, rfl, ?_, ?_⟩
  ·rw [show (out ++ [(p : Int)]).length = out.length + 1 from by simp]
  ·exact d.tl
theorem implBlocks_run {base : Nat} : BlR base 119 := by
 intro h a Z bs hs hlt hZ hc hb
 have hcn := hc.cnt
 have d := Hs.inpZ hs hlt hb
 suffices W : Wp (run (Et base) 119 [.agg #[.slice a Z.length Z.length]] h) fun o => ∃ a', o.1 = .slice a' bs.length bs.length ∧ Hs base NoB h o.2 [] [rW base a' (pls 0 bs)] by
  obtain ⟨⟨o1, o2⟩, e, a', y1, y2⟩ := W
  simp only at y1 y2
  subst y1
  exact ⟨a', o2, e, y2⟩
 refine W.of (fun r hx => Am.r119 hx) ?_
 ((try simp only [n1, n2, n3, n4, n5, n6] at d); (with_reducible repeat first | refine W.a1 d ?_ | refine W.a2 ?_ | refine W.a3 ?_ | refine W.bo ?_ | refine W.a5 d fun hw d lw kw => ?_ | refine W.a6 d ?_ | refine W.a7 ?_ | refine W.a8 ?_); (refine W.nD d fun h1 d _ kh1 => ?_); (with_reducible repeat first | refine W.a1 d ?_ | refine W.a2 ?_ | refine W.a3 ?_ | refine W.bo ?_ | refine W.a5 d fun hw d lw kw => ?_ | refine W.a6 d ?_ | refine W.a7 ?_ | refine W.a8 ?_))
 have d := d.nilW
 simp only [List.cons_append, List.nil_append] at d
 obtain ⟨o, e, a', y1, y2, d⟩ := implBlocks_loop (base := base) hZ bs 0 h1 none [] hc (by simp only [List.length_nil]; omega) d
 refine W.bs e ?_
 rw [y1, y2]
 refine W.ifT rfl (W.bS rfl ?_)
 rw [List.nil_append, pls_len] at *
 exact W.ret ⟨a', rfl, (d.takeD 0).frontR (Del.at (i := 1) rfl) |>.takeR 1⟩
theorem specBlocks_loop {base b0 : Nat} {h0 : AH} {a : Option Addr} {Z : List Int} (hZ : Z.length ≤ 4000) : ∀ (bs : List (Nat × Bool)) (p : Nat) (h : AH) (ao : Option Addr) (out : List Int), ChS Z p bs Z.length → out.length + bs.length ≤ 2000 → Hs base NoB h0 h [(b0, 91, [.slice a Z.length Z.length])] [rSl (blk a) a Z, rW base ao out] →
  ∃ o, loopL (B124_0 base) [some (.pointer (at0 b0)), some (.slice ao out.length out.length), some (.int .i64 (p : Int))] h = some o ∧ ∃ a', o.1 = 2 ∧ o.2.1 = [some (.slice a' (out ++ pls p bs).length (out ++ pls p bs).length)] ∧ Hs base NoB h0 o.2.2 [(b0, 91, [.slice a Z.length Z.length])] [rSl (blk a) a Z, rW base a' (out ++ pls p bs)]
 | [], p, h, ao, out, hc, hn, d => by
  simp only [ChS] at hc
  subst hc
  suffices w1 : Wp (B124_0 base [some (.pointer (at0 b0)), some (.slice ao out.length out.length), some (.int .i64 (Z.length : Int))] h) fun o => o = (2, [some (.slice ao out.length out.length)], h) by
   obtain ⟨o, e, rfl⟩ := w1
   refine ⟨_, loop_off (by decide) e, ao, rfl, by simp [pls], ?_⟩
   rw [pls, List.append_nil]
   exact d
  rw [B124_0_eq]
  ((try simp only [n1, n2, n3, n4, n5, n6] at d); (with_reducible repeat first | refine W.a1 d ?_ | refine W.a2 ?_ | refine W.a3 ?_ | refine W.bo ?_ | refine W.a5 d fun hw d lw kw => ?_ | refine W.a6 d ?_ | refine W.a7 ?_ | refine W.a8 ?_))
  exact W.ifF (by simp) (W.ret rfl)
 | b :: r, p, h, ao, out, hc, hn, d => by
  simp only [List.length_cons] at hn
  have hl := hc.1.2.1
  obtain ⟨h1, e1, k1⟩ := BkR.at (@specBk_run base) (d.rs (i := 0) rfl) hZ d.ge hc.1
  suffices w1 : Wp (B124_0 base [some (.pointer (at0 b0)), some (.slice ao out.length out.length), some (.int .i64 (p : Int))] h) fun o => ∃ a', o.1 = 0 ∧ o.2.1 = [some (.pointer (at0 b0)), some (.slice a' (out ++ [(p : Int)]).length (out ++ [(p : Int)]).length), some (.int .i64 ((p + b.1 + 3 : Nat) : Int))] ∧ Hs base NoB h0 o.2.2 [(b0, 91, [.slice a Z.length Z.length])] [rSl (blk a) a Z, rW base a' (out ++ [(p : Int)])] by
   obtain ⟨⟨o1, o2, h'⟩, e, a', y1, y2, d'⟩ := w1
   simp only at y1 y2 d'
   subst y1; subst y2
   obtain ⟨o, eo, a2, q1, q2, q3⟩ := specBlocks_loop hZ r (p + b.1 + 3) h' a' (out ++ [(p : Int)]) hc.2 (by simp only [List.length_append, List.length_singleton]; omega) d'
   rw [List.append_assoc] at q2 q3
   exact ⟨o, loop_on e eo, a2, q1, q2, q3⟩
  rw [B124_0_eq]
  ((try simp only [n1, n2, n3, n4, n5, n6] at d); (with_reducible repeat first | refine W.a1 d ?_ | refine W.a2 ?_ | refine W.a3 ?_ | refine W.bo ?_ | refine W.a5 d fun hw d lw kw => ?_ | refine W.a6 d ?_ | refine W.a7 ?_ | refine W.a8 ?_))
  refine W.ifT (decide_eq_true (by omega)) ?_
  ((try simp only [n1, n2, n3, n4, n5, n6] at d); (with_reducible repeat first | refine W.a1 d ?_ | refine W.a2 ?_ | refine W.a3 ?_ | refine W.bo ?_ | refine W.a5 d fun hw d lw kw => ?_ | refine W.a6 d ?_ | refine W.a7 ?_ | refine W.a8 ?_))
  refine W.bs e1 ?_
  have d := d.kN k1
  ((try simp only [n1, n2, n3, n4, n5, n6] at d); (with_reducible repeat first | refine W.a1 d ?_ | refine W.a2 ?_ | refine W.a3 ?_ | refine W.bo ?_ | refine W.a5 d fun hw d lw kw => ?_ | refine W.a6 d ?_ | refine W.a7 ?_ | refine W.a8 ?_))
  refine W.ifF (by simp) ?_
  ((try simp only [n1, n2, n3, n4, n5, n6] at d); (with_reducible repeat first | refine W.a1 d ?_ | refine W.a2 ?_ | refine W.a3 ?_ | refine W.bo ?_ | refine W.a5 d fun hw d lw kw => ?_ | refine W.a6 d ?_ | refine W.a7 ?_ | refine W.a8 ?_); (refine W.nD d fun h2 d _ kh2 => ?_); (with_reducible repeat first | refine W.a1 d ?_ | refine W.a2 ?_ | refine W.a3 ?_ | refine W.bo ?_ | refine W.a5 d fun hw d lw kw => ?_ | refine W.a6 d ?_ | refine W.a7 ?_ | refine W.a8 ?_))
  obtain ⟨a5, h5, e5, d⟩ := d.app1W (i := 1) rfl rfl (by omega)
  refine W.bs e5 ?_
  ((try simp only [n1, n2, n3, n4, n5, n6] at d); (with_reducible repeat first | refine W.a1 d ?_ | refine W.a2 ?_ | refine W.a3 ?_ | refine W.bo ?_ | refine W.a5 d fun hw d lw kw => ?_ | refine W.a6 d ?_ | refine W.a7 ?_ | refine W.a8 ?_))
  rw [w64i (n := (p : Int) + b.1) (by omega) (by omega), w64i (n := (p : Int) + b.1 + 3) (by omega) (by omega), show (p : Int) + b.1 + 3 = ((p + b.1 + 3 : Nat) : Int) from by omega]
  refine W.ret ⟨a5, rfl, ?_, ?_⟩
  ·rw [show (out ++ [(p : Int)]).length = out.length + 1 from by simp]
  ·exact d.tl
theorem specBlocks_run {base : Nat} : BlR base 124 := by
 intro h a Z bs hs hlt hZ hc hb
 have hcn := hc.cnt
 have d := Hs.inpZ hs hlt hb
 suffices W : Wp (run (Et base) 124 [.agg #[.slice a Z.length Z.length]] h) fun o => ∃ a', o.1 = .slice a' bs.length bs.length ∧ Hs base NoB h o.2 [] [rW base a' (pls 0 bs)] by
  obtain ⟨⟨o1, o2⟩, e, a', y1, y2⟩ := W
  simp only at y1 y2
  subst y1
  exact ⟨a', o2, e, y2⟩
 refine W.of (fun r hx => Am.r124 hx) ?_
 ((try simp only [n1, n2, n3, n4, n5, n6] at d); (with_reducible repeat first | refine W.a1 d ?_ | refine W.a2 ?_ | refine W.a3 ?_ | refine W.bo ?_ | refine W.a5 d fun hw d lw kw => ?_ | refine W.a6 d ?_ | refine W.a7 ?_ | refine W.a8 ?_); (refine W.nD d fun h1 d _ kh1 => ?_); (with_reducible repeat first | refine W.a1 d ?_ | refine W.a2 ?_ | refine W.a3 ?_ | refine W.bo ?_ | refine W.a5 d fun hw d lw kw => ?_ | refine W.a6 d ?_ | refine W.a7 ?_ | refine W.a8 ?_); (refine W.nD d fun h2 d _ kh2 => ?_); (with_reducible repeat first | refine W.a1 d ?_ | refine W.a2 ?_ | refine W.a3 ?_ | refine W.bo ?_ | refine W.a5 d fun hw d lw kw => ?_ | refine W.a6 d ?_ | refine W.a7 ?_ | refine W.a8 ?_))
 have d := (d.asW (l := []) (Del.at (i := 0) rfl)).frontR (Del.at (i := 1) rfl)
 simp only [n5, n6] at d
 obtain ⟨o, e, a', y1, y2, d⟩ := specBlocks_loop (base := base) hZ bs 0 h2 _ [] hc (by simp only [List.length_nil]; omega) d
 refine W.bs e ?_
 rw [y1, y2]
 refine W.ifF (show ¬ (2 : Nat) = 1 by decide) (W.ifT rfl (W.bS rfl ?_))
 rw [List.nil_append, pls_len] at *
 exact W.ret ⟨a', rfl, (d.takeD 0).frontR (Del.at (i := 1) rfl) |>.takeR 1⟩
theorem specUsed_loop {base b0 : Nat} {h0 : AH} {a al : Option Addr} {Z : List Int} {bs : List (Nat × Bool)} (hZ : Z.length ≤ 4000) (hc : ChS Z 0 bs Z.length) (hbs : bs.length ≤ 1000) : ∀ (post pre : List (Nat × Bool)) (h : AH) (ao : Option Addr) (out : List Int), bs = pre ++ post → out.length + post.length ≤ 2000 → Hs base NoB h0 h [(b0, 91, [.slice a Z.length Z.length])] [rSl (blk a) a Z, rSl (blk al) al (pls 0 bs), rW base ao out] →
  ∃ o, loopL (B166_0 base) [some (.pointer (at0 b0)), some (.slice ao out.length out.length), some (.slice al bs.length bs.length), some (.int .i64 (pre.length : Int))] h = some o ∧ ∃ a', o.1 = 2 ∧ o.2.1 = [some (.slice a' (out ++ upl (blen pre) post).length (out ++ upl (blen pre) post).length)] ∧ Hs base NoB h0 o.2.2 [(b0, 91, [.slice a Z.length Z.length])] [rSl (blk a) a Z, rSl (blk al) al (pls 0 bs), rW base a' (out ++ upl (blen pre) post)]
 | [], pre, h, ao, out, e, hn, d => by
  have hl : bs.length = pre.length := by rw [e, List.append_nil]
  suffices w1 : Wp (B166_0 base [some (.pointer (at0 b0)), some (.slice ao out.length out.length), some (.slice al bs.length bs.length), some (.int .i64 (pre.length : Int))] h) fun o => o = (2, [some (.slice ao out.length out.length)], h) by
   obtain ⟨o, e, rfl⟩ := w1
   refine ⟨_, loop_off (by decide) e, ao, rfl, by simp [upl], ?_⟩
   rw [upl, List.append_nil]
   exact d
  rw [B166_0_eq]
  exact W.ifF (by simp; omega) (W.ret rfl)
 | b :: post, pre, h, ao, out, e, hn, d => by
  have hl : bs.length = pre.length + (post.length + 1) := by rw [e]; simp
  simp only [List.length_cons] at hn
  have hcb : bOk Z (blen pre) b.1 b.2 := by
   have := hc
   rw [e, ChS.app] at this
   have := this.2.1
   rwa [Nat.zero_add] at this
  obtain ⟨h1, e1, k1⟩ := BkR.at (@specBk_run base) (d.rs (i := 0) rfl) hZ d.ge hcb
  obtain ⟨ad, v, rfl, hv, g⟩ := rdZ (d.rs (i := 1) rfl : Sl h al (iv .i64 (pls 0 bs))) (j := pre.length) (by rw [pls_len]; omega)
  have ev : v = ((blen pre : Nat) : Int) := by
   have := pls_get (b := b) (post := post) pre 0
   rw [← e, hv, Nat.zero_add] at this
   injection this
  subst ev
  suffices w1 : Wp (B166_0 base [some (.pointer (at0 b0)), some (.slice ao out.length out.length), some (.slice (some ad) bs.length bs.length), some (.int .i64 (pre.length : Int))] h) fun o => ∃ a', o.1 = 0 ∧ o.2.1 = [some (.pointer (at0 b0)), some (.slice a' (out ++ if b.2 = true then [((blen pre : Nat) : Int)] else []).length (out ++ if b.2 = true then [((blen pre : Nat) : Int)] else []).length), some (.slice (some ad) bs.length bs.length), some (.int .i64 ((pre.length + 1 : Nat) : Int))] ∧ Hs base NoB h0 o.2.2 [(b0, 91, [.slice a Z.length Z.length])] [rSl (blk a) a Z, rSl (blk (some ad)) (some ad) (pls 0 bs), rW base a' (out ++ if b.2 = true then [((blen pre : Nat) : Int)] else [])] by
   obtain ⟨⟨o1, o2, h'⟩, ee, a', y1, y2, d'⟩ := w1
   simp only at y1 y2 d'
   subst y1; subst y2
   obtain ⟨o, eo, a2, q1, q2, q3⟩ := specUsed_loop hZ hc hbs post (pre ++ [b]) h' a' (out ++ if b.2 = true then [((blen pre : Nat) : Int)] else []) (by rw [e]; simp) (by rw [List.length_append]; split <;> simp <;> omega) d'
   rw [show (pre ++ [b]).length = pre.length + 1 from by simp] at eo
   have ebl : blen (pre ++ [b]) = blen pre + b.1 + 3 := by rw [blen_app]; simp only [blen]; omega
   have eu : (out ++ if b.2 = true then [((blen pre : Nat) : Int)] else []) ++ upl (blen (pre ++ [b])) post = out ++ upl (blen pre) (b :: post) := by
    rw [ebl, List.append_assoc]
    simp only [upl]
    split <;> simp
   rw [eu] at q2 q3
   exact ⟨o, loop_on ee eo, a2, q1, q2, q3⟩
  rw [B166_0_eq]
  refine W.ifT (decide_eq_true (by omega)) ?_
  refine W.joinP (fun q => ∃ a', q.1 = [some (.pointer (at0 b0)), some (.slice a' (out ++ if b.2 = true then [((blen pre : Nat) : Int)] else []).length (out ++ if b.2 = true then [((blen pre : Nat) : Int)] else []).length), some (.slice (some ad) bs.length bs.length), some (.int .i64 (pre.length : Int))] ∧ Hs base NoB h0 q.2 [(b0, 91, [.slice a Z.length Z.length])] [rSl (blk a) a Z, rSl (blk (some ad)) (some ad) (pls 0 bs), rW base a' (out ++ if b.2 = true then [((blen pre : Nat) : Int)] else [])]) ?_ ?_
  ·((try simp only [n1, n2, n3, n4, n5, n6] at d); (with_reducible repeat first | refine W.a1 d ?_ | refine W.a2 ?_ | refine W.a3 ?_ | refine W.bo ?_ | refine W.a5 d fun hw d lw kw => ?_ | refine W.a6 d ?_ | refine W.a7 ?_ | refine W.a8 ?_))
   refine W.bs rfl (W.bI (by rw [Int.toNat_natCast, Nat.mul_one]; exact g) ?_)
   refine W.bs e1 ?_
   have d := d.kN k1
   ((try simp only [n1, n2, n3, n4, n5, n6] at d); (with_reducible repeat first | refine W.a1 d ?_ | refine W.a2 ?_ | refine W.a3 ?_ | refine W.bo ?_ | refine W.a5 d fun hw d lw kw => ?_ | refine W.a6 d ?_ | refine W.a7 ?_ | refine W.a8 ?_))
   refine W.ite (fun c => ?_) (fun c => ?_)
   ·have hu : b.2 = true := c
    ((try simp only [n1, n2, n3, n4, n5, n6] at d); (with_reducible repeat first | refine W.a1 d ?_ | refine W.a2 ?_ | refine W.a3 ?_ | refine W.bo ?_ | refine W.a5 d fun hw d lw kw => ?_ | refine W.a6 d ?_ | refine W.a7 ?_ | refine W.a8 ?_))
    have g' : Am.cell h1 ad.block (ad.off + pre.length) = some (.int .i64 ((blen pre : Nat) : Int)) := by
     obtain ⟨ad', v', x1, x2, x3⟩ := rdZ (d.rs (i := 1) rfl : Sl _ (some ad) (iv .i64 (pls 0 bs))) (j := pre.length) (by rw [pls_len]; omega)
     injection x1 with x1
     subst x1
     rw [hv] at x2
     injection x2 with x2
     rw [x2]
     exact x3
    refine W.bs rfl (W.bI (by rw [Int.toNat_natCast, Nat.mul_one]; exact g') ?_)
    ((try simp only [n1, n2, n3, n4, n5, n6] at d); (with_reducible repeat first | refine W.a1 d ?_ | refine W.a2 ?_ | refine W.a3 ?_ | refine W.bo ?_ | refine W.a5 d fun hw d lw kw => ?_ | refine W.a6 d ?_ | refine W.a7 ?_ | refine W.a8 ?_); (refine W.nD d fun h2 d _ kh2 => ?_); (with_reducible repeat first | refine W.a1 d ?_ | refine W.a2 ?_ | refine W.a3 ?_ | refine W.bo ?_ | refine W.a5 d fun hw d lw kw => ?_ | refine W.a6 d ?_ | refine W.a7 ?_ | refine W.a8 ?_))
    obtain ⟨a5, h5, e5, d⟩ := d.app1W (i := 2) rfl rfl (by omega)
    refine W.bs e5 ?_
    ((try simp only [n1, n2, n3, n4, n5, n6] at d); (with_reducible repeat first | refine W.a1 d ?_ | refine W.a2 ?_ | refine W.a3 ?_ | refine W.bo ?_ | refine W.a5 d fun hw d lw kw => ?_ | refine W.a6 d ?_ | refine W.a7 ?_ | refine W.a8 ?_))
    rw [if_pos hu]
    refine W.inl ⟨a5, by simp, d.tl⟩
   ·have hu : ¬ b.2 = true := c
    rw [if_neg hu, List.append_nil]
    exact W.inl ⟨ao, rfl, d⟩
  rintro ⟨q1, q2⟩ ⟨a', y1, d⟩
  simp only at y1 d
  subst y1
  ((try simp only [n1, n2, n3, n4, n5, n6] at d); (with_reducible repeat first | refine W.a1 d ?_ | refine W.a2 ?_ | refine W.a3 ?_ | refine W.bo ?_ | refine W.a5 d fun hw d lw kw => ?_ | refine W.a6 d ?_ | refine W.a7 ?_ | refine W.a8 ?_))
  dsimp only
  rw [w64i (n := (pre.length : Int) + 1) (by omega) (by omega)]
  exact W.ret ⟨a', rfl, rfl, d⟩
theorem specUsed_run {base : Nat} : UbR base 166 := by
 intro h a Z bs hs hlt hZ hc hb
 have hcn := hc.cnt
 have hul := upl_len bs 0
 have d := Hs.inpZ hs hlt hb
 suffices W : Wp (run (Et base) 166 [.agg #[.slice a Z.length Z.length]] h) fun o => ∃ a', o.1 = .slice a' (upl 0 bs).length (upl 0 bs).length ∧ Hs base NoB h o.2 [] [rW base a' (upl 0 bs)] by
  obtain ⟨⟨o1, o2⟩, e, a', y1, y2⟩ := W
  simp only at y1 y2
  subst y1
  exact ⟨a', o2, e, y2⟩
 refine W.of (fun r hx => Am.r166 hx) ?_
 ((try simp only [n1, n2, n3, n4, n5, n6] at d); (with_reducible repeat first | refine W.a1 d ?_ | refine W.a2 ?_ | refine W.a3 ?_ | refine W.bo ?_ | refine W.a5 d fun hw d lw kw => ?_ | refine W.a6 d ?_ | refine W.a7 ?_ | refine W.a8 ?_); (refine W.nD d fun h1 d _ kh1 => ?_); (with_reducible repeat first | refine W.a1 d ?_ | refine W.a2 ?_ | refine W.a3 ?_ | refine W.bo ?_ | refine W.a5 d fun hw d lw kw => ?_ | refine W.a6 d ?_ | refine W.a7 ?_ | refine W.a8 ?_); (refine W.nD d fun h2 d _ kh2 => ?_); (with_reducible repeat first | refine W.a1 d ?_ | refine W.a2 ?_ | refine W.a3 ?_ | refine W.bo ?_ | refine W.a5 d fun hw d lw kw => ?_ | refine W.a6 d ?_ | refine W.a7 ?_ | refine W.a8 ?_))
 obtain ⟨al, h3, e3, z⟩ := specBlocks_run (base := base) _ a Z bs (d.rs (i := 0) rfl) (d.rlt (i := 0) rfl) hZ hc d.ge
 refine W.bs e3 ?_
 have z1 := z.rs (i := 0) rfl
 have d := d.call z.kb (blk al) (fun y => Own base 3 y al (iv .i64 (pls 0 bs))) z1 (fun U y y' ky hs x => x.keep ky hs) (fun b hb => ⟨(z.rfr (i := 0) rfl rfl b hb).resolve_left fun h => h, z.rlt (i := 0) rfl b hb⟩)
 ((try simp only [n1, n2, n3, n4, n5, n6] at d); (with_reducible repeat first | refine W.a1 d ?_ | refine W.a2 ?_ | refine W.a3 ?_ | refine W.bo ?_ | refine W.a5 d fun hw d lw kw => ?_ | refine W.a6 d ?_ | refine W.a7 ?_ | refine W.a8 ?_))
 have d := (d.frontR (Del.at (i := 1) rfl)).asSl
 simp only [n5, n6] at d
 have d := (d.asW (l := []) (Del.at (i := 0) rfl))
 simp only [n5, n6] at d
 have d := (d.frontR (Del.at (i := 1) rfl)).frontR (Del.at (i := 2) rfl)
 simp only [n5, n6] at d
 obtain ⟨o, e, a', y1, y2, d⟩ := specUsed_loop (base := base) hZ hc (by omega) bs [] h3 _ [] rfl (by simp only [List.length_nil]; omega) d
 refine W.bs e ?_
 rw [y1, y2]
 refine W.ifT rfl (W.bS rfl ?_)
 rw [List.nil_append] at *
 exact W.ret ⟨a', rfl, (d.takeD 0).frontR (Del.at (i := 2) rfl) |>.takeR 1⟩
end Go.Proofs.Ytjmkbglnjklbcaa.Am
set_option linter.unusedSimpArgs false
set_option linter.unusedVariables false
namespace Go.Proofs.Ytjmkbglnjklbcaa.Am
open Go Go.RowKit
theorem spl_end {o s : List Int} {p i : Nat} {v : Int} (hi : i = p + s.length) (h : p + s.length < o.length) : (spl o p s).set i v = spl o p (s ++ [v]) := by
 subst hi
 rw [spl_one (by rw [spl_len (by omega)]; exact h), spl_adj (by simp only [List.length_singleton]; omega)]
def hdW (p n : Nat) (u : Bool) (k : Nat) : List Int := gW p n u :: (n : Int) :: (payW p n u).take k
theorem hdW_len {p n k : Nat} {u : Bool} (h : k ≤ n) : (hdW p n u k).length = k + 2 := by
 unfold hdW; simp only [List.length_cons, List.length_take, payW_len]; omega
theorem hdW_succ {p n k : Nat} {u : Bool} (h : k < n) : hdW p n u k ++ [if u = true then 0 else poW ((p + 2 + k : Nat) : Int)] = hdW p n u (k + 1) := by
 have hk : k < (payW p n u).length := by rw [payW_len]; exact h
 have e : (payW p n u)[k] = if u = true then 0 else poW ((p + 2 + k : Nat) : Int) := by
  unfold payW
  split <;> simp
 unfold hdW
 rw [List.take_succ_eq_append_getElem hk, e]
 rfl
theorem hdW_0 {Z : List Int} {p n : Nat} {u : Bool} (h : p + 2 ≤ Z.length) : (Z.set p (gW p n u)).set (p + 1) (n : Int) = spl Z p (hdW p n u 0) := by
 have e : Z.set p (gW p n u) = spl Z p [gW p n u] := spl_one (by omega)
 rw [e, spl_end (by simp) (by simp; omega)]
 rfl
theorem lay_fin {Z : List Int} {p n : Nat} {u : Bool} (h : p + n + 3 ≤ Z.length) : spl (spl Z p (hdW p n u n)) (p + 2 + n) [reW p n u] = layW Z p n u := by
 have e := spl_adj (o := Z) (p := p) (s := hdW p n u n) (t := [reW p n u]) (by rw [hdW_len (Nat.le_refl _)]; simp only [List.length_singleton]; omega)
 rw [hdW_len (Nat.le_refl _), show p + (n + 2) = p + 2 + n from by omega] at e
 rw [e]
 unfold layW blkW hdW
 rw [List.take_of_length_le (by rw [payW_len]; exact Nat.le_refl _)]
 rfl
theorem specLay_loop {base : Nat} {V : Fp} {h0 : AH} {D : Ds} {R : List Rs} {a : Option Addr} {Z : List Int} {p n L : Nat} {u : Bool} (hL : Z.length = L) (hZ : L ≤ 4000) (hp : p + n + 3 ≤ L) : ∀ (r k : Nat) (h : AH), k + r = n → Hs base V h0 h D (rW base a (spl Z p (hdW p n u k)) :: R) →
  Wp (loopL (B126_0 base) [some (.slice a L L), some (.int .i64 (p : Int)), some (.int .i64 (n : Int)), some (.bool u), some (.int .i64 ((p + 2 + k : Nat) : Int))] h) fun o => o.1 = 2 ∧ o.2.1 = [some (.slice a L L), some (.int .i64 (p : Int)), some (.int .i64 (n : Int)), some (.bool u)] ∧ Hs base V h0 o.2.2 D (rW base a (spl Z p (hdW p n u n)) :: R) := by
 intro r
 induction r with
 | zero =>
  intro k h hk d
  have hk : k = n := by omega
  subst hk
  suffices w1 : Wp (B126_0 base [some (.slice a L L), some (.int .i64 (p : Int)), some (.int .i64 (k : Int)), some (.bool u), some (.int .i64 ((p + 2 + k : Nat) : Int))] h) fun o => o = (2, [some (.slice a L L), some (.int .i64 (p : Int)), some (.int .i64 (k : Int)), some (.bool u)], h) by
   obtain ⟨o, e, rfl⟩ := w1
   exact ⟨_, loop_off (by decide) e, rfl, rfl, d⟩
  rw [B126_0_eq, w64i (n := (p : Int) + 2) (by omega) (by omega), w64i (n := (p : Int) + 2 + k) (by omega) (by omega)]
  exact W.ifF (by simp) (W.ret rfl)
 | succ r ih =>
  intro k h hk d
  suffices w1 : Wp (B126_0 base [some (.slice a L L), some (.int .i64 (p : Int)), some (.int .i64 (n : Int)), some (.bool u), some (.int .i64 ((p + 2 + k : Nat) : Int))] h) fun o => o.1 = 0 ∧ o.2.1 = [some (.slice a L L), some (.int .i64 (p : Int)), some (.int .i64 (n : Int)), some (.bool u), some (.int .i64 ((p + 2 + (k + 1) : Nat) : Int))] ∧ Hs base V h0 o.2.2 D (rW base a (spl Z p (hdW p n u (k + 1))) :: R) by
   obtain ⟨⟨o1, o2, h'⟩, e, y1, y2, d'⟩ := w1
   simp only at y1 y2 d'
   subst y1; subst y2
   obtain ⟨o, eo, q⟩ := ih (k + 1) h' (by omega) d'
   exact ⟨o, loop_on e eo, q⟩
  have hhl := hdW_len (p := p) (u := u) (show k ≤ n by omega)
  have hsl : (spl Z p (hdW p n u k)).length = L := by rw [spl_len (by omega)]; exact hL
  have hend : ∀ v, (spl Z p (hdW p n u k)).set (p + 2 + k) v = spl Z p (hdW p n u k ++ [v]) := fun v => spl_end (by omega) (by omega)
  rw [B126_0_eq, w64i (n := (p : Int) + 2) (by omega) (by omega), w64i (n := (p : Int) + 2 + n) (by omega) (by omega)]
  refine W.ifT (decide_eq_true (by omega)) ?_
  refine W.joinP (fun q => q.1 = [some (.slice a L L), some (.int .i64 (p : Int)), some (.int .i64 (n : Int)), some (.bool u), some (.int .i64 ((p + 2 + k : Nat) : Int))] ∧ Hs base V h0 q.2 D (rW base a (spl Z p (hdW p n u (k + 1))) :: R)) ?_ ?_
  ·refine W.ifT ⟨by omega, by omega⟩ ?_
   obtain ⟨ad, h5, ea, ew, d, _⟩ := d.setW (i := 0) (j := p + 2 + k) (v := 0) rfl (by omega)
   subst ea
   refine W.bs rfl (W.bs (by rw [Int.toNat_natCast, Nat.mul_one]; exact ew) ?_)
   refine W.ite (fun c => ?_) (fun c => ?_)
   ·have hu : u = false := by simpa using c
    refine W.bs specPoison_run (W.bI rfl (W.ifT ⟨by omega, by omega⟩ ?_))
    obtain ⟨ad2, h6, ea2, ew2, d, _⟩ := d.setW (i := 0) (j := p + 2 + k) (v := poW ((p + 2 + k : Nat) : Int)) rfl (by rw [List.length_set]; omega)
    injection ea2 with ea2
    subst ea2
    refine W.bs rfl (W.bs (by rw [Int.toNat_natCast, Nat.mul_one]; exact ew2) ?_)
    refine W.inl ⟨rfl, ?_⟩
    have e := hdW_succ (p := p) (u := u) (show k < n by omega)
    rw [if_neg (by rw [hu]; decide)] at e
    rw [← e, ← hend]
    rw [show ((spl Z p (hdW p n u k)).set (p + 2 + k) 0).set (p + 2 + k) (poW ((p + 2 + k : Nat) : Int)) = (spl Z p (hdW p n u k)).set (p + 2 + k) (poW ((p + 2 + k : Nat) : Int)) from List.set_set ..] at d
    exact d
   ·have hu : u = true := by simpa using c
    refine W.inl ⟨rfl, ?_⟩
    have e := hdW_succ (p := p) (u := u) (show k < n by omega)
    rw [if_pos hu] at e
    rw [← e, ← hend]
    exact d
  rintro ⟨q1, q2⟩ ⟨y1, d⟩
  simp only at y1 d
  subst y1
  refine W.bS rfl (W.bI rfl (W.bI rfl (W.bB rfl (W.bI rfl ?_))))
  rw [w64i (n := ((p + 2 + k : Nat) : Int) + 1) (by omega) (by omega)]
  exact W.ret ⟨rfl, rfl, d⟩
theorem specLay_run {base : Nat} {V : Fp} {h0 h : AH} {D : Ds} {R : List Rs} {a : Option Addr} {Z : List Int} {p n L : Nat} {u : Bool} (hL : Z.length = L) (hZ : L ≤ 4000) (hp : p + n + 3 ≤ L) (d : Hs base V h0 h D (rW base a Z :: R)) :
  ∃ h', run (Et base) 126 [.slice a L L, .int .i64 (p : Int), .int .i64 (n : Int), .bool u] h = some (.tuple #[], h') ∧ Hs base V h0 h' D (rW base a (layW Z p n u) :: R) := by
 suffices W : Wp (run (Et base) 126 [.slice a L L, .int .i64 (p : Int), .int .i64 (n : Int), .bool u] h) fun o => o.1 = .tuple #[] ∧ Hs base V h0 o.2 D (rW base a (layW Z p n u) :: R) by
  obtain ⟨⟨o1, o2⟩, e, y1, y2⟩ := W
  simp only at y1 y2
  subst y1
  exact ⟨o2, e, y2⟩
 refine W.of (fun r hx => Am.r126 hx) ?_
 refine W.bs specGuard_run (W.bI rfl (W.ifT ⟨by omega, by omega⟩ ?_))
 obtain ⟨ad, h5, ea, ew, d, _⟩ := d.setW (i := 0) (j := p) (v := gW p n u) rfl (by omega)
 subst ea
 refine W.bs rfl (W.bs (by rw [Int.toNat_natCast, Nat.mul_one]; exact ew) ?_)
 rw [w64i (n := (p : Int) + 1) (by omega) (by omega), w64i (n := (p : Int) + 2) (by omega) (by omega)]
 refine W.ifT ⟨by omega, by omega⟩ ?_
 obtain ⟨ad2, h6, ea2, ew2, d, _⟩ := d.setW (i := 0) (j := p + 1) (v := (n : Int)) rfl (by rw [List.length_set]; omega)
 injection ea2 with ea2
 subst ea2
 refine W.bs rfl (W.bs (by rw [show Int.toNat ((p : Int) + 1) * 1 = p + 1 from by omega]; exact ew2) ?_)
 have d : Hs base V h0 h6 D (rW base (some ad) (spl Z p (hdW p n u 0)) :: R) := by
  rw [← hdW_0 (by omega)]
  exact d
 refine W.wb (specLay_loop (base := base) hL hZ hp n 0 h6 (by omega) d) ?_
 rintro ⟨o1, o2, h7⟩ ⟨y1, y2, d⟩
 simp only at y1 y2 d
 subst y1; subst y2
 have hhl := hdW_len (p := p) (u := u) (Nat.le_refl n)
 have hsl : (spl Z p (hdW p n u n)).length = L := by rw [spl_len (by omega)]; exact hL
 refine W.ifT rfl ?_
 refine W.bS rfl (W.bI rfl (W.bI rfl (W.bB rfl ?_)))
 refine W.bs specRear_run (W.bI rfl ?_)
 rw [w64i (n := (p : Int) + 2) (by omega) (by omega), w64i (n := (p : Int) + 2 + n) (by omega) (by omega)]
 refine W.ifT ⟨by omega, by omega⟩ ?_
 obtain ⟨ad3, h8, ea3, ew3, d, _⟩ := d.setW (i := 0) (j := p + 2 + n) (v := reW p n u) rfl (by omega)
 injection ea3 with ea3
 subst ea3
 refine W.bs rfl (W.bs (by rw [show Int.toNat ((p : Int) + 2 + n) * 1 = p + 2 + n from by omega]; exact ew3) ?_)
 rw [spl_one (by omega), lay_fin (by omega)] at d
 exact W.ret ⟨rfl, d⟩
theorem layUsed_loop {base : Nat} {V : Fp} {h0 : AH} {D : Ds} {R : List Rs} {a : Option Addr} {Z : List Int} {p n L : Nat} (hL : Z.length = L) (hZ : L ≤ 4000) (hp : p + n + 3 ≤ L) : ∀ (r k : Nat) (h : AH), k + r = n → Hs base V h0 h D (rW base a (spl (spl Z p (hdW p n true k)) (p + 2 + n) [reW p n true]) :: R) →
  Wp (loopL (B120_0 base) [some (.slice a L L), some (.int .i64 (p : Int)), some (.int .i64 (n : Int)), some (.int .i64 ((p + 2 + k : Nat) : Int))] h) fun o => o.1 = 2 ∧ o.2.1 = [] ∧ Hs base V h0 o.2.2 D (rW base a (layW Z p n true) :: R) := by
 intro r
 induction r with
 | zero =>
  intro k h hk d
  have hk : k = n := by omega
  subst hk
  suffices w1 : Wp (B120_0 base [some (.slice a L L), some (.int .i64 (p : Int)), some (.int .i64 (k : Int)), some (.int .i64 ((p + 2 + k : Nat) : Int))] h) fun o => o = (2, [], h) by
   obtain ⟨o, e, rfl⟩ := w1
   rw [lay_fin (by omega)] at d
   exact ⟨_, loop_off (by decide) e, rfl, rfl, d⟩
  rw [B120_0_eq, w64i (n := (p : Int) + 2) (by omega) (by omega), w64i (n := (p : Int) + 2 + k) (by omega) (by omega)]
  exact W.ifF (by simp) (W.ret rfl)
 | succ r ih =>
  intro k h hk d
  suffices w1 : Wp (B120_0 base [some (.slice a L L), some (.int .i64 (p : Int)), some (.int .i64 (n : Int)), some (.int .i64 ((p + 2 + k : Nat) : Int))] h) fun o => o.1 = 0 ∧ o.2.1 = [some (.slice a L L), some (.int .i64 (p : Int)), some (.int .i64 (n : Int)), some (.int .i64 ((p + 2 + (k + 1) : Nat) : Int))] ∧ Hs base V h0 o.2.2 D (rW base a (spl (spl Z p (hdW p n true (k + 1))) (p + 2 + n) [reW p n true]) :: R) by
   obtain ⟨⟨o1, o2, h'⟩, e, y1, y2, d'⟩ := w1
   simp only at y1 y2 d'
   subst y1; subst y2
   obtain ⟨o, eo, q⟩ := ih (k + 1) h' (by omega) d'
   exact ⟨o, loop_on e eo, q⟩
  have hhl := hdW_len (p := p) (u := true) (show k ≤ n by omega)
  have hsl : (spl Z p (hdW p n true k)).length = L := by rw [spl_len (by omega)]; exact hL
  have hsl2 : (spl (spl Z p (hdW p n true k)) (p + 2 + n) [reW p n true]).length = L := by rw [spl_len (by simp only [List.length_singleton]; omega)]; exact hsl
  rw [B120_0_eq, w64i (n := (p : Int) + 2) (by omega) (by omega), w64i (n := (p : Int) + 2 + n) (by omega) (by omega)]
  refine W.ifT (decide_eq_true (by omega)) ?_
  refine W.ifT ⟨by omega, by omega⟩ ?_
  obtain ⟨ad, h5, ea, ew, d, _⟩ := d.setW (i := 0) (j := p + 2 + k) (v := 0) rfl (by omega)
  subst ea
  refine W.bs rfl (W.bs (by rw [Int.toNat_natCast, Nat.mul_one]; exact ew) ?_)
  rw [w64i (n := ((p + 2 + k : Nat) : Int) + 1) (by omega) (by omega)]
  refine W.ret ⟨rfl, rfl, ?_⟩
  have e := hdW_succ (p := p) (u := true) (show k < n by omega)
  simp only [if_true, Bool.false_eq_true, if_false] at e
  rw [← e, ← spl_end (i := p + 2 + k) (by omega) (by omega), ← spl_set (by omega) (by simp only [List.length_singleton]; omega)]
  exact d
theorem layUsed_run {base : Nat} {V : Fp} {h0 h : AH} {D : Ds} {R : List Rs} {a : Option Addr} {Z : List Int} {p n L : Nat} (hL : Z.length = L) (hZ : L ≤ 4000) (hp : p + n + 3 ≤ L) (d : Hs base V h0 h D (rW base a Z :: R)) :
  ∃ h', run (Et base) 120 [.slice a L L, .int .i64 (p : Int), .int .i64 ((n : Int) + 3)] h = some (.tuple #[], h') ∧ Hs base V h0 h' D (rW base a (layW Z p n true) :: R) := by
 suffices W : Wp (run (Et base) 120 [.slice a L L, .int .i64 (p : Int), .int .i64 ((n : Int) + 3)] h) fun o => o.1 = .tuple #[] ∧ Hs base V h0 o.2 D (rW base a (layW Z p n true) :: R) by
  obtain ⟨⟨o1, o2⟩, e, y1, y2⟩ := W
  simp only at y1 y2
  subst y1
  exact ⟨o2, e, y2⟩
 refine W.of (fun r hx => Am.r120 hx) ?_
 rw [w64i (n := (n : Int) + 3 - 3) (by omega) (by omega), show (n : Int) + 3 - 3 = n from by omega]
 refine W.bs implGuard_run (W.bI rfl (W.bs implRear_run (W.bI rfl (W.ifT ⟨by omega, by omega⟩ ?_))))
 obtain ⟨ad, h5, ea, ew, d, _⟩ := d.setW (i := 0) (j := p) (v := gW p n true) rfl (by omega)
 subst ea
 refine W.bs rfl (W.bs (by rw [Int.toNat_natCast, Nat.mul_one]; exact ew) ?_)
 rw [w64i (n := (p : Int) + 1) (by omega) (by omega), w64i (n := (p : Int) + 2) (by omega) (by omega), w64i (n := (p : Int) + ((n : Int) + 3)) (by omega) (by omega), w64i (n := (p : Int) + ((n : Int) + 3) - 1) (by omega) (by omega)]
 refine W.ifT ⟨by omega, by omega⟩ ?_
 obtain ⟨ad2, h6, ea2, ew2, d, _⟩ := d.setW (i := 0) (j := p + 1) (v := (n : Int)) rfl (by rw [List.length_set]; omega)
 injection ea2 with ea2
 subst ea2
 refine W.bs rfl (W.bs (by rw [show Int.toNat ((p : Int) + 1) * 1 = p + 1 from by omega]; exact ew2) ?_)
 refine W.ifT ⟨by omega, by omega⟩ ?_
 obtain ⟨ad3, h7, ea3, ew3, d, _⟩ := d.setW (i := 0) (j := p + 2 + n) (v := reW p n true) rfl (by rw [List.length_set, List.length_set]; omega)
 injection ea3 with ea3
 subst ea3
 refine W.bs rfl (W.bs (by rw [show Int.toNat ((p : Int) + ((n : Int) + 3) - 1) * 1 = p + 2 + n from by omega]; exact ew3) ?_)
 have hhl := hdW_len (p := p) (u := true) (Nat.zero_le n)
 have d : Hs base V h0 h7 D (rW base (some ad) (spl (spl Z p (hdW p n true 0)) (p + 2 + n) [reW p n true]) :: R) := by
  rw [← hdW_0 (by omega), ← spl_one (by rw [List.length_set, List.length_set]; omega)]
  exact d
 refine W.wb (layUsed_loop (base := base) hL hZ hp n 0 h7 (by omega) d) ?_
 rintro ⟨o1, o2, h8⟩ ⟨y1, y2, d⟩
 simp only at y1 y2 d
 subst y1; subst y2
 exact W.ifT rfl (W.ret ⟨rfl, d⟩)
theorem layFree_loop {base : Nat} {V : Fp} {h0 : AH} {D : Ds} {R : List Rs} {a : Option Addr} {Z : List Int} {p n L : Nat} (hL : Z.length = L) (hZ : L ≤ 4000) (hp : p + n + 3 ≤ L) : ∀ (r k : Nat) (h : AH), k + r = n → Hs base V h0 h D (rW base a (spl (spl Z p (hdW p n false k)) (p + 2 + n) [reW p n false]) :: R) →
  Wp (loopL (B121_0 base) [some (.slice a L L), some (.int .i64 (p : Int)), some (.int .i64 (n : Int)), some (.int .i64 ((p + 2 + k : Nat) : Int))] h) fun o => o.1 = 2 ∧ o.2.1 = [] ∧ Hs base V h0 o.2.2 D (rW base a (layW Z p n false) :: R) := by
 intro r
 induction r with
 | zero =>
  intro k h hk d
  have hk : k = n := by omega
  subst hk
  suffices w1 : Wp (B121_0 base [some (.slice a L L), some (.int .i64 (p : Int)), some (.int .i64 (k : Int)), some (.int .i64 ((p + 2 + k : Nat) : Int))] h) fun o => o = (2, [], h) by
   obtain ⟨o, e, rfl⟩ := w1
   rw [lay_fin (by omega)] at d
   exact ⟨_, loop_off (by decide) e, rfl, rfl, d⟩
  rw [B121_0_eq, w64i (n := (p : Int) + 2) (by omega) (by omega), w64i (n := (p : Int) + 2 + k) (by omega) (by omega)]
  exact W.ifF (by simp) (W.ret rfl)
 | succ r ih =>
  intro k h hk d
  suffices w1 : Wp (B121_0 base [some (.slice a L L), some (.int .i64 (p : Int)), some (.int .i64 (n : Int)), some (.int .i64 ((p + 2 + k : Nat) : Int))] h) fun o => o.1 = 0 ∧ o.2.1 = [some (.slice a L L), some (.int .i64 (p : Int)), some (.int .i64 (n : Int)), some (.int .i64 ((p + 2 + (k + 1) : Nat) : Int))] ∧ Hs base V h0 o.2.2 D (rW base a (spl (spl Z p (hdW p n false (k + 1))) (p + 2 + n) [reW p n false]) :: R) by
   obtain ⟨⟨o1, o2, h'⟩, e, y1, y2, d'⟩ := w1
   simp only at y1 y2 d'
   subst y1; subst y2
   obtain ⟨o, eo, q⟩ := ih (k + 1) h' (by omega) d'
   exact ⟨o, loop_on e eo, q⟩
  have hhl := hdW_len (p := p) (u := false) (show k ≤ n by omega)
  have hsl : (spl Z p (hdW p n false k)).length = L := by rw [spl_len (by omega)]; exact hL
  have hsl2 : (spl (spl Z p (hdW p n false k)) (p + 2 + n) [reW p n false]).length = L := by rw [spl_len (by simp only [List.length_singleton]; omega)]; exact hsl
  rw [B121_0_eq, w64i (n := (p : Int) + 2) (by omega) (by omega), w64i (n := (p : Int) + 2 + n) (by omega) (by omega)]
  refine W.ifT (decide_eq_true (by omega)) ?_
  refine W.bs implPoison_run (W.bI rfl ?_)
  refine W.ifT ⟨by omega, by omega⟩ ?_
  obtain ⟨ad, h5, ea, ew, d, _⟩ := d.setW (i := 0) (j := p + 2 + k) (v := poW ((p + 2 + k : Nat) : Int)) rfl (by omega)
  subst ea
  refine W.bs rfl (W.bs (by rw [Int.toNat_natCast, Nat.mul_one]; exact ew) ?_)
  rw [w64i (n := ((p + 2 + k : Nat) : Int) + 1) (by omega) (by omega)]
  refine W.ret ⟨rfl, rfl, ?_⟩
  have e := hdW_succ (p := p) (u := false) (show k < n by omega)
  simp only [if_true, Bool.false_eq_true, if_false] at e
  rw [← e, ← spl_end (i := p + 2 + k) (by omega) (by omega), ← spl_set (by omega) (by simp only [List.length_singleton]; omega)]
  exact d
theorem layFree_run {base : Nat} {V : Fp} {h0 h : AH} {D : Ds} {R : List Rs} {a : Option Addr} {Z : List Int} {p n L : Nat} (hL : Z.length = L) (hZ : L ≤ 4000) (hp : p + n + 3 ≤ L) (d : Hs base V h0 h D (rW base a Z :: R)) :
  ∃ h', run (Et base) 121 [.slice a L L, .int .i64 (p : Int), .int .i64 ((n : Int) + 3)] h = some (.tuple #[], h') ∧ Hs base V h0 h' D (rW base a (layW Z p n false) :: R) := by
 suffices W : Wp (run (Et base) 121 [.slice a L L, .int .i64 (p : Int), .int .i64 ((n : Int) + 3)] h) fun o => o.1 = .tuple #[] ∧ Hs base V h0 o.2 D (rW base a (layW Z p n false) :: R) by
  obtain ⟨⟨o1, o2⟩, e, y1, y2⟩ := W
  simp only at y1 y2
  subst y1
  exact ⟨o2, e, y2⟩
 refine W.of (fun r hx => Am.r121 hx) ?_
 rw [w64i (n := (n : Int) + 3 - 3) (by omega) (by omega), show (n : Int) + 3 - 3 = n from by omega]
 refine W.bs implGuard_run (W.bI rfl (W.bs implRear_run (W.bI rfl (W.ifT ⟨by omega, by omega⟩ ?_))))
 obtain ⟨ad, h5, ea, ew, d, _⟩ := d.setW (i := 0) (j := p) (v := gW p n false) rfl (by omega)
 subst ea
 refine W.bs rfl (W.bs (by rw [Int.toNat_natCast, Nat.mul_one]; exact ew) ?_)
 rw [w64i (n := (p : Int) + 1) (by omega) (by omega), w64i (n := (p : Int) + 2) (by omega) (by omega), w64i (n := (p : Int) + ((n : Int) + 3)) (by omega) (by omega), w64i (n := (p : Int) + ((n : Int) + 3) - 1) (by omega) (by omega)]
 refine W.ifT ⟨by omega, by omega⟩ ?_
 obtain ⟨ad2, h6, ea2, ew2, d, _⟩ := d.setW (i := 0) (j := p + 1) (v := (n : Int)) rfl (by rw [List.length_set]; omega)
 injection ea2 with ea2
 subst ea2
 refine W.bs rfl (W.bs (by rw [show Int.toNat ((p : Int) + 1) * 1 = p + 1 from by omega]; exact ew2) ?_)
 refine W.ifT ⟨by omega, by omega⟩ ?_
 obtain ⟨ad3, h7, ea3, ew3, d, _⟩ := d.setW (i := 0) (j := p + 2 + n) (v := reW p n false) rfl (by rw [List.length_set, List.length_set]; omega)
 injection ea3 with ea3
 subst ea3
 refine W.bs rfl (W.bs (by rw [show Int.toNat ((p : Int) + ((n : Int) + 3) - 1) * 1 = p + 2 + n from by omega]; exact ew3) ?_)
 have hhl := hdW_len (p := p) (u := false) (Nat.zero_le n)
 have d : Hs base V h0 h7 D (rW base (some ad) (spl (spl Z p (hdW p n false 0)) (p + 2 + n) [reW p n false]) :: R) := by
  rw [← hdW_0 (by omega), ← spl_one (by rw [List.length_set, List.length_set]; omega)]
  exact d
 refine W.wb (layFree_loop (base := base) hL hZ hp n 0 h7 (by omega) d) ?_
 rintro ⟨o1, o2, h8⟩ ⟨y1, y2, d⟩
 simp only at y1 y2 d
 subst y1; subst y2
 exact W.ifT rfl (W.ret ⟨rfl, d⟩)
end Go.Proofs.Ytjmkbglnjklbcaa.Am
set_option linter.unusedSimpArgs false
set_option linter.unusedVariables false
namespace Go.Proofs.Ytjmkbglnjklbcaa.Am
open Go Go.RowKit
def AlcS (Z : List Int) (bs : List (Nat × Bool)) (m : Nat) (Z' : List Int) (pos code : Int) : Prop := (code = 1 ∧ Z' = Z ∧ ∀ b ∈ bs, b.2 = true ∨ b.1 < m) ∨ (code = 0 ∧ ∃ pre k post, bs = pre ++ (k, false) :: post ∧ m ≤ k ∧ (∀ b ∈ pre, b.2 = true ∨ b.1 < m) ∧ pos = (blen pre : Int) ∧ Z' = tkW Z (blen pre) k m)
theorem tkW_impl {Z : List Int} {p m n : Nat} (h : p + m + 3 ≤ Z.length) : (if n + 4 ≤ m then layW (layW Z p n true) (p + n + 3) (m - n - 3) false else layW Z p m true) = tkW Z p m n := by
 unfold tkW
 split
 ·unfold layW
  rw [spl_com (by rw [blkW_len]; omega) (by rw [blkW_len]; omega)]
 ·rfl
def AlcR (base F : Nat) : Prop := ∀ (h : AH) (a : Option Addr) (Z : List Int) (m : Nat), Sl h a (iv .i64 Z) → (∀ b, blk a b → b < h.length) → Z.length ≤ 4000 → 1 ≤ m → m ≤ 4000 → base ≤ h.length →
 ∃ a' h' Z' pos code, run (Et base) F [.agg #[.slice a Z.length Z.length], .int .i64 (m : Int)] h = some (.tuple #[.agg #[.slice a' Z.length Z.length], .int .i64 pos, .int .i64 code], h') ∧ Hs base NoB h h' [] [rW base a' Z'] ∧ ((¬ AuOk Z ∧ code = 3 ∧ Z' = Z) ∨ ∃ bs, ChS Z 0 bs Z.length ∧ naf false bs = true ∧ AlcS Z bs m Z' pos code)
theorem specAlc_loop {base bA bR bO L m : Nat} {h0 : AH} {a ao al : Option Addr} {Z : List Int} {bs : List (Nat × Bool)} (hL : Z.length = L) (hZ : L ≤ 4000) (hm : 1 ≤ m ∧ m ≤ 4000) (hc : ChS Z 0 bs Z.length) : ∀ (post pre : List (Nat × Bool)) (h : AH), bs = pre ++ post → (∀ b ∈ pre, b.2 = true ∨ b.1 < m) → Hs base NoB h0 h [(bO, 91, [.slice ao L L]), (bR, 91, [.slice none 0 0]), (bA, 91, [.slice a L L])] [rW base ao Z, rSl (blk a) a Z, rSl (blk al) al (pls 0 bs)] →
  ∃ o, loopL (B60_0 base) [some (.int .i64 (m : Int)), some (.pointer (at0 bA)), some (.pointer (at0 bR)), some (.pointer (at0 bO)), some (.slice al bs.length bs.length), some (.int .i64 (pre.length : Int))] h = some o ∧ ((o.1 = 1 ∧ ∃ Z' pos, o.2.1 = [some (.pointer (at0 bR)), some (.int .i64 pos), some (.int .i64 0)] ∧ Hs base NoB h0 o.2.2 [(bO, 91, [.slice ao L L]), (bR, 91, [.slice ao L L]), (bA, 91, [.slice a L L])] [rW base ao Z', rSl (blk a) a Z, rSl (blk al) al (pls 0 bs)] ∧ AlcS Z bs m Z' pos 0) ∨ (o.1 = 3 ∧ o.2.1 = [some (.pointer (at0 bR)), some (.pointer (at0 bO))] ∧ Hs base NoB h0 o.2.2 [(bO, 91, [.slice ao L L]), (bR, 91, [.slice none 0 0]), (bA, 91, [.slice a L L])] [rW base ao Z, rSl (blk a) a Z, rSl (blk al) al (pls 0 bs)] ∧ ∀ b ∈ bs, b.2 = true ∨ b.1 < m))
 | [], pre, h, e, hpre, d => by
  have hl : bs.length = pre.length := by rw [e, List.append_nil]
  have hcn := hc.cnt
  suffices w1 : Wp (B60_0 base [some (.int .i64 (m : Int)), some (.pointer (at0 bA)), some (.pointer (at0 bR)), some (.pointer (at0 bO)), some (.slice al bs.length bs.length), some (.int .i64 (pre.length : Int))] h) fun o => o = (3, [some (.pointer (at0 bR)), some (.pointer (at0 bO))], h) by
   obtain ⟨o, ee, rfl⟩ := w1
   exact ⟨_, loop_off (by decide) ee, .inr ⟨rfl, rfl, d, by rw [e, List.append_nil]; exact hpre⟩⟩
  rw [B60_0_eq]
  exact W.ifF (by simp; omega) (W.ret rfl)
 | b :: post, pre, h, e, hpre, d => by
  have hl : bs.length = pre.length + (post.length + 1) := by rw [e]; simp
  have hcn := hc.cnt
  have hcb : bOk Z (blen pre) b.1 b.2 := by
   have := hc
   rw [e, ChS.app] at this
   have := this.2.1
   rwa [Nat.zero_add] at this
  have hb2 := hcb.2.1
  obtain ⟨h1, e1, k1⟩ := BkR.at (@specBk_run base) (d.rs (i := 1) rfl) (by omega) d.ge hcb
  rw [hL] at e1
  obtain ⟨ad, v, rfl, hv, g⟩ := rdZ (d.rs (i := 2) rfl : Sl h al (iv .i64 (pls 0 bs))) (j := pre.length) (by rw [pls_len]; omega)
  have ev : v = ((blen pre : Nat) : Int) := by
   have := pls_get (b := b) (post := post) pre 0
   rw [← e, hv, Nat.zero_add] at this
   injection this
  subst ev
  suffices w1 : Wp (B60_0 base [some (.int .i64 (m : Int)), some (.pointer (at0 bA)), some (.pointer (at0 bR)), some (.pointer (at0 bO)), some (.slice (some ad) bs.length bs.length), some (.int .i64 (pre.length : Int))] h) fun o => (o.1 = 1 ∧ o.2.1 = [some (.pointer (at0 bR)), some (.int .i64 ((blen pre : Nat) : Int)), some (.int .i64 0)] ∧ Hs base NoB h0 o.2.2 [(bO, 91, [.slice ao L L]), (bR, 91, [.slice ao L L]), (bA, 91, [.slice a L L])] [rW base ao (tkW Z (blen pre) b.1 m), rSl (blk a) a Z, rSl (blk (some ad)) (some ad) (pls 0 bs)] ∧ (b.2 || decide (b.1 < m)) = false) ∨ (o.1 = 0 ∧ o.2.1 = [some (.int .i64 (m : Int)), some (.pointer (at0 bA)), some (.pointer (at0 bR)), some (.pointer (at0 bO)), some (.slice (some ad) bs.length bs.length), some (.int .i64 ((pre.length + 1 : Nat) : Int))] ∧ Hs base NoB h0 o.2.2 [(bO, 91, [.slice ao L L]), (bR, 91, [.slice none 0 0]), (bA, 91, [.slice a L L])] [rW base ao Z, rSl (blk a) a Z, rSl (blk (some ad)) (some ad) (pls 0 bs)] ∧ (b.2 || decide (b.1 < m)) = true) by
   obtain ⟨⟨o1, o2, h'⟩, ee, y⟩ := w1
   rcases y with ⟨y1, y2, d', hf⟩ | ⟨y1, y2, d', hf⟩
   ·simp only at y1 y2 d'
    subst y1; subst y2
    rw [Bool.or_eq_false_iff] at hf
    have hbe : b = (b.1, false) := by obtain ⟨b1, b2⟩ := b; simp only at hf; rw [hf.1]
    refine ⟨_, loop_off (by decide) ee, .inl ⟨rfl, _, _, rfl, d', .inr ⟨rfl, pre, b.1, post, by rw [e, ← hbe], by have := of_decide_eq_false hf.2; omega, hpre, rfl, rfl⟩⟩⟩
   ·simp only at y1 y2 d'
    subst y1; subst y2
    have hb' : b.2 = true ∨ b.1 < m := by
     rw [Bool.or_eq_true] at hf
     exact hf.imp id fun x => of_decide_eq_true x
    obtain ⟨o, eo, q⟩ := specAlc_loop hL hZ hm hc post (pre ++ [b]) h' (by rw [e]; simp) (fun x hx => by
     rcases List.mem_append.1 hx with hx | hx
     ·exact hpre x hx
     ·rw [List.mem_singleton] at hx; subst hx; exact hb') d'
    rw [show (pre ++ [b]).length = pre.length + 1 from by simp] at eo
    exact ⟨o, loop_on ee eo, q⟩
  rw [B60_0_eq]
  refine W.ifT (decide_eq_true (by omega)) (W.ifT ⟨by omega, by omega⟩ ?_)
  refine W.bs rfl (W.bI (by rw [Int.toNat_natCast, Nat.mul_one]; exact g) ?_)
  ((try simp only [n1, n2, n3, n4, n5, n6] at d); (with_reducible repeat first | refine W.a1 d ?_ | refine W.a2 ?_ | refine W.a3 ?_ | refine W.bo ?_ | refine W.a5 d fun hw d lw kw => ?_ | refine W.a6 d ?_ | refine W.a7 ?_ | refine W.a8 ?_))
  refine W.bs e1 ?_
  have d := d.kN k1
  ((try simp only [n1, n2, n3, n4, n5, n6] at d); (with_reducible repeat first | refine W.a1 d ?_ | refine W.a2 ?_ | refine W.a3 ?_ | refine W.bo ?_ | refine W.a5 d fun hw d lw kw => ?_ | refine W.a6 d ?_ | refine W.a7 ?_ | refine W.a8 ?_))
  dsimp only
  refine W.joinP (fun q => q = ([some (.int .i64 (m : Int)), some (.pointer (at0 bA)), some (.pointer (at0 bR)), some (.pointer (at0 bO)), some (.slice (some ad) bs.length bs.length), some (.int .i64 (pre.length : Int)), some (.int .i64 ((blen pre : Nat) : Int)), some (.int .i64 (b.1 : Int)), some (.bool (b.2 || decide (b.1 < m)))], h1)) ?_ ?_
  ·refine W.ite (fun cu => ?_) (fun cu => ?_)
   ·rw [cu, Bool.true_or]
    exact W.inl rfl
   ·have cu : b.2 = false := by simpa using cu
    rw [cu, Bool.false_or]
    have ed : decide ((b.1 : Int) < (m : Int)) = decide (b.1 < m) := by
     by_cases hh : b.1 < m
     ·rw [decide_eq_true hh, decide_eq_true (by omega)]
     ·rw [decide_eq_false hh, decide_eq_false (by omega)]
    rw [ed]
    exact W.inl rfl
  rintro q rfl
  ((try simp only [n1, n2, n3, n4, n5, n6] at d); (with_reducible repeat first | refine W.a1 d ?_ | refine W.a2 ?_ | refine W.a3 ?_ | refine W.bo ?_ | refine W.a5 d fun hw d lw kw => ?_ | refine W.a6 d ?_ | refine W.a7 ?_ | refine W.a8 ?_))
  dsimp only
  refine W.ite (fun cf => ?_) (fun cf => ?_)
  ·rw [w64i (n := (pre.length : Int) + 1) (by omega) (by omega)]
   exact W.ret (.inr ⟨rfl, rfl, d, cf⟩)
  ·have cf : (b.2 || decide (b.1 < m)) = false := by simpa using cf
   rw [cf]
   have cf' := cf
   rw [Bool.or_eq_false_iff] at cf'
   have hmb : m ≤ b.1 := by have := of_decide_eq_false cf'.2; omega
   refine W.joinP (fun q => q.1 = [some (.pointer (at0 bR)), some (.pointer (at0 bO)), some (.int .i64 ((blen pre : Nat) : Int)), some (.int .i64 ((tkN b.1 m : Nat) : Int))] ∧ Hs base NoB h0 q.2 [(bO, 91, [.slice ao L L]), (bR, 91, [.slice none 0 0]), (bA, 91, [.slice a L L])] [rW base ao (if m + 4 ≤ b.1 then layW Z (blen pre + m + 3) (b.1 - m - 3) false else Z), rSl (blk a) a Z, rSl (blk (some ad)) (some ad) (pls 0 bs)]) ?_ ?_
   ·rw [w64i (n := (b.1 : Int) - m) (by omega) (by omega), w64i (n := ((blen pre : Nat) : Int) + m) (by omega) (by omega), w64i (n := ((blen pre : Nat) : Int) + m + 3) (by omega) (by omega), w64i (n := (b.1 : Int) - m - 3) (by omega) (by omega)]
    refine W.ite (fun c4 => ?_) (fun c4 => ?_)
    ·have c4 := of_decide_eq_true c4
     ((try simp only [n1, n2, n3, n4, n5, n6] at d); (with_reducible repeat first | refine W.a1 d ?_ | refine W.a2 ?_ | refine W.a3 ?_ | refine W.bo ?_ | refine W.a5 d fun hw d lw kw => ?_ | refine W.a6 d ?_ | refine W.a7 ?_ | refine W.a8 ?_))
     obtain ⟨h3, e3, d⟩ := specLay_run (base := base) (u := false) (p := blen pre + m + 3) (n := b.1 - m - 3) (L := L) hL hZ (by omega) d
     rw [show ((blen pre : Nat) : Int) + m + 3 = ((blen pre + m + 3 : Nat) : Int) from by omega, show (b.1 : Int) - m - 3 = ((b.1 - m - 3 : Nat) : Int) from by omega]
     refine W.bs e3 (W.bs rfl ?_)
     unfold tkN
     rw [if_pos (by omega), if_pos (by omega)]
     exact W.inl ⟨rfl, d⟩
    ·have c4 : ¬ ((b.1 : Int) - m ≥ 4) := by simpa using c4
     unfold tkN
     rw [if_neg (by omega), if_neg (by omega)]
     exact W.inl ⟨rfl, d⟩
   rintro ⟨q1, q2⟩ ⟨y1, d⟩
   simp only at y1 d
   subst y1
   ((try simp only [n1, n2, n3, n4, n5, n6] at d); (with_reducible repeat first | refine W.a1 d ?_ | refine W.a2 ?_ | refine W.a3 ?_ | refine W.bo ?_ | refine W.a5 d fun hw d lw kw => ?_ | refine W.a6 d ?_ | refine W.a7 ?_ | refine W.a8 ?_))
   have hlz : (if m + 4 ≤ b.1 then layW Z (blen pre + m + 3) (b.1 - m - 3) false else Z).length = L := by
    split
    ·rw [layW_len (by omega)]; exact hL
    ·exact hL
   obtain ⟨h4, e4, d⟩ := specLay_run (base := base) (u := true) (p := blen pre) (n := tkN b.1 m) (L := L) hlz hZ (by unfold tkN; split <;> omega) d
   refine W.bs e4 (W.bs rfl ?_)
   have etk : layW (if m + 4 ≤ b.1 then layW Z (blen pre + m + 3) (b.1 - m - 3) false else Z) (blen pre) (tkN b.1 m) true = tkW Z (blen pre) b.1 m := by
    unfold tkW tkN
    split <;> rfl
   rw [etk] at d
   ((try simp only [n1, n2, n3, n4, n5, n6] at d); (with_reducible repeat first | refine W.a1 d ?_ | refine W.a2 ?_ | refine W.a3 ?_ | refine W.bo ?_ | refine W.a5 d fun hw d lw kw => ?_ | refine W.a6 d ?_ | refine W.a7 ?_ | refine W.a8 ?_))
   exact W.ret (.inl ⟨rfl, rfl, d, rfl⟩)
theorem specAlc_run {base : Nat} : AlcR base 60 := by
 intro h a Z m hs hlt hZ hm1 hm2 hb
 have d := Hs.inpZ hs hlt hb
 suffices W : Wp (run (Et base) 60 [.agg #[.slice a Z.length Z.length], .int .i64 (m : Int)] h) fun o => ∃ a' Z' pos code, o.1 = .tuple #[.agg #[.slice a' Z.length Z.length], .int .i64 pos, .int .i64 code] ∧ Hs base NoB h o.2 [] [rW base a' Z'] ∧ ((¬ AuOk Z ∧ code = 3 ∧ Z' = Z) ∨ ∃ bs, ChS Z 0 bs Z.length ∧ naf false bs = true ∧ AlcS Z bs m Z' pos code) by
  obtain ⟨⟨o1, o2⟩, e, a', Z', pos, code, y1, y2⟩ := W
  simp only at y1 y2
  subst y1
  exact ⟨a', o2, Z', pos, code, e, y2⟩
 refine W.of (fun r hx => Am.r60 hx) ?_
 ((try simp only [n1, n2, n3, n4, n5, n6] at d); (with_reducible repeat first | refine W.a1 d ?_ | refine W.a2 ?_ | refine W.a3 ?_ | refine W.bo ?_ | refine W.a5 d fun hw d lw kw => ?_ | refine W.a6 d ?_ | refine W.a7 ?_ | refine W.a8 ?_); (refine W.nD d fun h1 d _ kh1 => ?_); (with_reducible repeat first | refine W.a1 d ?_ | refine W.a2 ?_ | refine W.a3 ?_ | refine W.bo ?_ | refine W.a5 d fun hw d lw kw => ?_ | refine W.a6 d ?_ | refine W.a7 ?_ | refine W.a8 ?_); (refine W.nD d fun h2 d _ kh2 => ?_); (with_reducible repeat first | refine W.a1 d ?_ | refine W.a2 ?_ | refine W.a3 ?_ | refine W.bo ?_ | refine W.a5 d fun hw d lw kw => ?_ | refine W.a6 d ?_ | refine W.a7 ?_ | refine W.a8 ?_))
 obtain ⟨ao, h3, e3, o3, k3, f3⟩ := specArC_run (base := base) _ a Z (d.rs (i := 0) rfl) (by omega) d.ge
 refine W.bs e3 ?_
 have d := d.call k3 (blk ao) (fun y => Own base 3 y ao (iv .i64 Z)) o3 (fun U y y' k hs x => x.keep k hs) (fun i hi => ⟨f3 i hi, (o3.lt hi).2⟩)
 simp only [List.cons_append, List.nil_append] at d
 ((try simp only [n1, n2, n3, n4, n5, n6] at d); (with_reducible repeat first | refine W.a1 d ?_ | refine W.a2 ?_ | refine W.a3 ?_ | refine W.bo ?_ | refine W.a5 d fun hw d lw kw => ?_ | refine W.a6 d ?_ | refine W.a7 ?_ | refine W.a8 ?_); (refine W.nD d fun h4 d _ kh4 => ?_); (with_reducible repeat first | refine W.a1 d ?_ | refine W.a2 ?_ | refine W.a3 ?_ | refine W.bo ?_ | refine W.a5 d fun hw d lw kw => ?_ | refine W.a6 d ?_ | refine W.a7 ?_ | refine W.a8 ?_))
 obtain ⟨r, h5, e5, k5, hr, hr2⟩ := specAudit_run (base := base) _ a Z (d.rs (i := 0) rfl) hZ d.ge
 refine W.bs e5 ?_
 have d := d.kN k5
 ((try simp only [n1, n2, n3, n4, n5, n6] at d); (with_reducible repeat first | refine W.a1 d ?_ | refine W.a2 ?_ | refine W.a3 ?_ | refine W.bo ?_ | refine W.a5 d fun hw d lw kw => ?_ | refine W.a6 d ?_ | refine W.a7 ?_ | refine W.a8 ?_))
 refine W.ite (fun c => ?_) (fun c => ?_)
 ·have hna : ¬ AuOk Z := fun ha => by rw [hr.2 ha] at c; simp at c
  ((try simp only [n1, n2, n3, n4, n5, n6] at d); (with_reducible repeat first | refine W.a1 d ?_ | refine W.a2 ?_ | refine W.a3 ?_ | refine W.bo ?_ | refine W.a5 d fun hw d lw kw => ?_ | refine W.a6 d ?_ | refine W.a7 ?_ | refine W.a8 ?_))
  exact W.ret ⟨ao, Z, 0, 3, rfl, (d.takeD 0).frontR (Del.at (i := 1) rfl) |>.takeR 1, .inl ⟨hna, rfl, rfl⟩⟩
 have ha : AuOk Z := hr.1 (by simpa using c)
 obtain ⟨bs, hc, hf⟩ := ha
 have hcn := hc.cnt
 refine W.bs l1In_run (W.bB rfl (W.ifF ?_ ?_))
 ·rw [inB_iff.2 ⟨by omega, by omega⟩]; decide
 ((try simp only [n1, n2, n3, n4, n5, n6] at d); (with_reducible repeat first | refine W.a1 d ?_ | refine W.a2 ?_ | refine W.a3 ?_ | refine W.bo ?_ | refine W.a5 d fun hw d lw kw => ?_ | refine W.a6 d ?_ | refine W.a7 ?_ | refine W.a8 ?_))
 obtain ⟨al, h6, e6, z⟩ := specBlocks_run (base := base) _ a Z bs (d.rs (i := 0) rfl) (d.rlt (i := 0) rfl) hZ hc d.ge
 refine W.bs e6 ?_
 have z1 := z.rs (i := 0) rfl
 have d := d.call z.kb (blk al) (fun y => Own base 3 y al (iv .i64 (pls 0 bs))) z1 (fun U y y' ky hs x => x.keep ky hs) (fun b hb => ⟨(z.rfr (i := 0) rfl rfl b hb).resolve_left fun h => h, z.rlt (i := 0) rfl b hb⟩)
 simp only [List.cons_append, List.nil_append] at d
 ((try simp only [n1, n2, n3, n4, n5, n6] at d); (with_reducible repeat first | refine W.a1 d ?_ | refine W.a2 ?_ | refine W.a3 ?_ | refine W.bo ?_ | refine W.a5 d fun hw d lw kw => ?_ | refine W.a6 d ?_ | refine W.a7 ?_ | refine W.a8 ?_))
 have d := (d.frontR (Del.at (i := 2) rfl)).asSl
 simp only [n5, n6] at d
 have d := (d.frontR (Del.at (i := 1) rfl)).frontR (Del.at (i := 2) rfl)
 simp only [n5, n6] at d
 obtain ⟨⟨o1, o2, h7⟩, e7, y⟩ := specAlc_loop (base := base) rfl hZ ⟨hm1, hm2⟩ hc bs [] h6 rfl (by simp) d
 refine W.bs e7 ?_
 simp only at y
 rcases y with ⟨rfl, Z', pos, rfl, d, hS⟩ | ⟨rfl, rfl, d, hall⟩
 ·refine W.ifT rfl ?_
  ((try simp only [n1, n2, n3, n4, n5, n6] at d); (with_reducible repeat first | refine W.a1 d ?_ | refine W.a2 ?_ | refine W.a3 ?_ | refine W.bo ?_ | refine W.a5 d fun hw d lw kw => ?_ | refine W.a6 d ?_ | refine W.a7 ?_ | refine W.a8 ?_))
  exact W.ret ⟨ao, Z', pos, 0, rfl, (d.takeD 0).takeR 1, .inr ⟨bs, hc, hf, hS⟩⟩
 ·refine W.ifF (show ¬ (3 : Nat) = 1 by decide) (W.ifT rfl ?_)
  ((try simp only [n1, n2, n3, n4, n5, n6] at d); (with_reducible repeat first | refine W.a1 d ?_ | refine W.a2 ?_ | refine W.a3 ?_ | refine W.bo ?_ | refine W.a5 d fun hw d lw kw => ?_ | refine W.a6 d ?_ | refine W.a7 ?_ | refine W.a8 ?_))
  exact W.ret ⟨ao, Z, 0, 1, rfl, (d.takeD 0).takeR 1, .inr ⟨bs, hc, hf, .inl ⟨rfl, rfl, hall⟩⟩⟩
theorem implAlc_loop {base bA bR bO L m : Nat} {h0 : AH} {a ao al : Option Addr} {Z : List Int} {bs : List (Nat × Bool)} (hL : Z.length = L) (hZ : L ≤ 4000) (hm : 1 ≤ m ∧ m ≤ 4000) (hc : ChS Z 0 bs Z.length) : ∀ (post pre : List (Nat × Bool)) (h : AH), bs = pre ++ post → (∀ b ∈ pre, b.2 = true ∨ b.1 < m) → Hs base NoB h0 h [(bO, 91, [.slice ao L L]), (bR, 91, [.slice none 0 0]), (bA, 91, [.slice a L L])] [rW base ao Z, rSl (blk a) a Z, rSl (blk al) al (pls 0 bs)] →
  ∃ o, loopL (B58_0 base) [some (.int .i64 (m : Int)), some (.pointer (at0 bA)), some (.pointer (at0 bR)), some (.pointer (at0 bO)), some (.slice al bs.length bs.length), some (.int .i64 (bs.length : Int)), some (.int .i64 (pre.length : Int))] h = some o ∧ ((o.1 = 1 ∧ ∃ Z' pos, o.2.1 = [some (.pointer (at0 bR)), some (.int .i64 pos), some (.int .i64 0)] ∧ Hs base NoB h0 o.2.2 [(bO, 91, [.slice ao L L]), (bR, 91, [.slice ao L L]), (bA, 91, [.slice a L L])] [rW base ao Z', rSl (blk a) a Z, rSl (blk al) al (pls 0 bs)] ∧ AlcS Z bs m Z' pos 0) ∨ (o.1 = 3 ∧ o.2.1 = [some (.pointer (at0 bR)), some (.pointer (at0 bO))] ∧ Hs base NoB h0 o.2.2 [(bO, 91, [.slice ao L L]), (bR, 91, [.slice none 0 0]), (bA, 91, [.slice a L L])] [rW base ao Z, rSl (blk a) a Z, rSl (blk al) al (pls 0 bs)] ∧ ∀ b ∈ bs, b.2 = true ∨ b.1 < m))
 | [], pre, h, e, hpre, d => by
  have hl : bs.length = pre.length := by rw [e, List.append_nil]
  have hcn := hc.cnt
  suffices w1 : Wp (B58_0 base [some (.int .i64 (m : Int)), some (.pointer (at0 bA)), some (.pointer (at0 bR)), some (.pointer (at0 bO)), some (.slice al bs.length bs.length), some (.int .i64 (bs.length : Int)), some (.int .i64 (pre.length : Int))] h) fun o => o = (3, [some (.pointer (at0 bR)), some (.pointer (at0 bO))], h) by
   obtain ⟨o, ee, rfl⟩ := w1
   exact ⟨_, loop_off (by decide) ee, .inr ⟨rfl, rfl, d, by rw [e, List.append_nil]; exact hpre⟩⟩
  rw [B58_0_eq]
  exact W.ifF (by simp; omega) (W.ret rfl)
 | b :: post, pre, h, e, hpre, d => by
  have hl : bs.length = pre.length + (post.length + 1) := by rw [e]; simp
  have hcn := hc.cnt
  have hcb : bOk Z (blen pre) b.1 b.2 := by
   have := hc
   rw [e, ChS.app] at this
   have := this.2.1
   rwa [Nat.zero_add] at this
  have hb2 := hcb.2.1
  obtain ⟨h1, e1, k1⟩ := BkR.at (@implBk_run base) (d.rs (i := 1) rfl) (by omega) d.ge hcb
  rw [hL] at e1
  obtain ⟨ad, v, rfl, hv, g⟩ := rdZ (d.rs (i := 2) rfl : Sl h al (iv .i64 (pls 0 bs))) (j := pre.length) (by rw [pls_len]; omega)
  have ev : v = ((blen pre : Nat) : Int) := by
   have := pls_get (b := b) (post := post) pre 0
   rw [← e, hv, Nat.zero_add] at this
   injection this
  subst ev
  suffices w1 : Wp (B58_0 base [some (.int .i64 (m : Int)), some (.pointer (at0 bA)), some (.pointer (at0 bR)), some (.pointer (at0 bO)), some (.slice (some ad) bs.length bs.length), some (.int .i64 (bs.length : Int)), some (.int .i64 (pre.length : Int))] h) fun o => (o.1 = 1 ∧ o.2.1 = [some (.pointer (at0 bR)), some (.int .i64 ((blen pre : Nat) : Int)), some (.int .i64 0)] ∧ Hs base NoB h0 o.2.2 [(bO, 91, [.slice ao L L]), (bR, 91, [.slice ao L L]), (bA, 91, [.slice a L L])] [rW base ao (tkW Z (blen pre) b.1 m), rSl (blk a) a Z, rSl (blk (some ad)) (some ad) (pls 0 bs)] ∧ (b.2 || decide (b.1 < m)) = false) ∨ (o.1 = 0 ∧ o.2.1 = [some (.int .i64 (m : Int)), some (.pointer (at0 bA)), some (.pointer (at0 bR)), some (.pointer (at0 bO)), some (.slice (some ad) bs.length bs.length), some (.int .i64 (bs.length : Int)), some (.int .i64 ((pre.length + 1 : Nat) : Int))] ∧ Hs base NoB h0 o.2.2 [(bO, 91, [.slice ao L L]), (bR, 91, [.slice none 0 0]), (bA, 91, [.slice a L L])] [rW base ao Z, rSl (blk a) a Z, rSl (blk (some ad)) (some ad) (pls 0 bs)] ∧ (b.2 || decide (b.1 < m)) = true) by
   obtain ⟨⟨o1, o2, h'⟩, ee, y⟩ := w1
   rcases y with ⟨y1, y2, d', hf⟩ | ⟨y1, y2, d', hf⟩
   ·simp only at y1 y2 d'
    subst y1; subst y2
    rw [Bool.or_eq_false_iff] at hf
    have hbe : b = (b.1, false) := by obtain ⟨b1, b2⟩ := b; simp only at hf; rw [hf.1]
    refine ⟨_, loop_off (by decide) ee, .inl ⟨rfl, _, _, rfl, d', .inr ⟨rfl, pre, b.1, post, by rw [e, ← hbe], by have := of_decide_eq_false hf.2; omega, hpre, rfl, rfl⟩⟩⟩
   ·simp only at y1 y2 d'
    subst y1; subst y2
    have hb' : b.2 = true ∨ b.1 < m := by
     rw [Bool.or_eq_true] at hf
     exact hf.imp id fun x => of_decide_eq_true x
    obtain ⟨o, eo, q⟩ := implAlc_loop hL hZ hm hc post (pre ++ [b]) h' (by rw [e]; simp) (fun x hx => by
     rcases List.mem_append.1 hx with hx | hx
     ·exact hpre x hx
     ·rw [List.mem_singleton] at hx; subst hx; exact hb') d'
    rw [show (pre ++ [b]).length = pre.length + 1 from by simp] at eo
    exact ⟨o, loop_on ee eo, q⟩
  rw [B58_0_eq]
  refine W.ifT (decide_eq_true (by omega)) (W.ifT ⟨by omega, by omega⟩ ?_)
  refine W.bs rfl (W.bI (by rw [Int.toNat_natCast, Nat.mul_one]; exact g) ?_)
  ((try simp only [n1, n2, n3, n4, n5, n6] at d); (with_reducible repeat first | refine W.a1 d ?_ | refine W.a2 ?_ | refine W.a3 ?_ | refine W.bo ?_ | refine W.a5 d fun hw d lw kw => ?_ | refine W.a6 d ?_ | refine W.a7 ?_ | refine W.a8 ?_))
  refine W.bs e1 ?_
  have d := d.kN k1
  ((try simp only [n1, n2, n3, n4, n5, n6] at d); (with_reducible repeat first | refine W.a1 d ?_ | refine W.a2 ?_ | refine W.a3 ?_ | refine W.bo ?_ | refine W.a5 d fun hw d lw kw => ?_ | refine W.a6 d ?_ | refine W.a7 ?_ | refine W.a8 ?_))
  dsimp only
  refine W.joinP (fun q => q = ([some (.int .i64 (m : Int)), some (.pointer (at0 bA)), some (.pointer (at0 bR)), some (.pointer (at0 bO)), some (.int .i64 ((blen pre : Nat) : Int)), some (.int .i64 (b.1 : Int)), some (.slice (some ad) bs.length bs.length), some (.int .i64 (bs.length : Int)), some (.int .i64 (pre.length : Int)), some (.bool (b.2 || decide (b.1 < m)))], h1)) ?_ ?_
  ·refine W.ite (fun cu => ?_) (fun cu => ?_)
   ·rw [cu, Bool.true_or]
    exact W.inl rfl
   ·have cu : b.2 = false := by simpa using cu
    rw [cu, Bool.false_or]
    have ed : decide ((b.1 : Int) < (m : Int)) = decide (b.1 < m) := by
     by_cases hh : b.1 < m
     ·rw [decide_eq_true hh, decide_eq_true (by omega)]
     ·rw [decide_eq_false hh, decide_eq_false (by omega)]
    rw [ed]
    exact W.inl rfl
  rintro q rfl
  ((try simp only [n1, n2, n3, n4, n5, n6] at d); (with_reducible repeat first | refine W.a1 d ?_ | refine W.a2 ?_ | refine W.a3 ?_ | refine W.bo ?_ | refine W.a5 d fun hw d lw kw => ?_ | refine W.a6 d ?_ | refine W.a7 ?_ | refine W.a8 ?_))
  dsimp only
  refine W.ite (fun cf => ?_) (fun cf => ?_)
  ·rw [w64i (n := (pre.length : Int) + 1) (by omega) (by omega)]
   exact W.ret (.inr ⟨rfl, rfl, d, cf⟩)
  ·have cf : (b.2 || decide (b.1 < m)) = false := by simpa using cf
   rw [cf]
   have cf' := cf
   rw [Bool.or_eq_false_iff] at cf'
   have hmb : m ≤ b.1 := by have := of_decide_eq_false cf'.2; omega
   refine W.joinP (fun q => q.1 = [some (.pointer (at0 bR)), some (.pointer (at0 bO)), some (.int .i64 ((blen pre : Nat) : Int))] ∧ Hs base NoB h0 q.2 [(bO, 91, [.slice ao L L]), (bR, 91, [.slice none 0 0]), (bA, 91, [.slice a L L])] [rW base ao (tkW Z (blen pre) b.1 m), rSl (blk a) a Z, rSl (blk (some ad)) (some ad) (pls 0 bs)]) ?_ ?_
   ·rw [← tkW_impl (by omega)]
    rw [w64i (n := (m : Int) + 4) (by omega) (by omega), w64i (n := (m : Int) + 3) (by omega) (by omega), w64i (n := ((blen pre : Nat) : Int) + m) (by omega) (by omega), w64i (n := ((blen pre : Nat) : Int) + m + 3) (by omega) (by omega), w64i (n := (b.1 : Int) - m) (by omega) (by omega), w64i (n := (b.1 : Int) + 3) (by omega) (by omega)]
    refine W.ite (fun c4 => ?_) (fun c4 => ?_)
    ·have c4 := of_decide_eq_true c4
     rw [if_pos (by omega)]
     ((try simp only [n1, n2, n3, n4, n5, n6] at d); (with_reducible repeat first | refine W.a1 d ?_ | refine W.a2 ?_ | refine W.a3 ?_ | refine W.bo ?_ | refine W.a5 d fun hw d lw kw => ?_ | refine W.a6 d ?_ | refine W.a7 ?_ | refine W.a8 ?_))
     obtain ⟨h3, e3, d⟩ := layUsed_run (base := base) (p := blen pre) (n := m) (L := L) hL hZ (by omega) d
     refine W.bs e3 (W.bs rfl ?_)
     ((try simp only [n1, n2, n3, n4, n5, n6] at d); (with_reducible repeat first | refine W.a1 d ?_ | refine W.a2 ?_ | refine W.a3 ?_ | refine W.bo ?_ | refine W.a5 d fun hw d lw kw => ?_ | refine W.a6 d ?_ | refine W.a7 ?_ | refine W.a8 ?_))
     obtain ⟨h4, e4, d⟩ := layFree_run (base := base) (p := blen pre + m + 3) (n := b.1 - m - 3) (L := L) (by rw [layW_len (by omega)]; exact hL) hZ (by omega) d
     rw [show ((blen pre : Nat) : Int) + m + 3 = ((blen pre + m + 3 : Nat) : Int) from by omega, show (b.1 : Int) - m = ((b.1 - m - 3 : Nat) : Int) + 3 from by omega]
     refine W.bs e4 (W.bs rfl ?_)
     exact W.inl ⟨rfl, d⟩
    ·have c4 : ¬ ((b.1 : Int) ≥ (m : Int) + 4) := by simpa using c4
     rw [if_neg (by omega)]
     ((try simp only [n1, n2, n3, n4, n5, n6] at d); (with_reducible repeat first | refine W.a1 d ?_ | refine W.a2 ?_ | refine W.a3 ?_ | refine W.bo ?_ | refine W.a5 d fun hw d lw kw => ?_ | refine W.a6 d ?_ | refine W.a7 ?_ | refine W.a8 ?_))
     obtain ⟨h3, e3, d⟩ := layUsed_run (base := base) (p := blen pre) (n := b.1) (L := L) hL hZ (by omega) d
     refine W.bs e3 (W.bs rfl ?_)
     exact W.inl ⟨rfl, d⟩
   rintro ⟨q1, q2⟩ ⟨y1, d⟩
   simp only at y1 d
   subst y1
   ((try simp only [n1, n2, n3, n4, n5, n6] at d); (with_reducible repeat first | refine W.a1 d ?_ | refine W.a2 ?_ | refine W.a3 ?_ | refine W.bo ?_ | refine W.a5 d fun hw d lw kw => ?_ | refine W.a6 d ?_ | refine W.a7 ?_ | refine W.a8 ?_))
   exact W.ret (.inl ⟨rfl, rfl, d, rfl⟩)
theorem implAlc_run {base : Nat} : AlcR base 58 := by
 intro h a Z m hs hlt hZ hm1 hm2 hb
 have d := Hs.inpZ hs hlt hb
 suffices W : Wp (run (Et base) 58 [.agg #[.slice a Z.length Z.length], .int .i64 (m : Int)] h) fun o => ∃ a' Z' pos code, o.1 = .tuple #[.agg #[.slice a' Z.length Z.length], .int .i64 pos, .int .i64 code] ∧ Hs base NoB h o.2 [] [rW base a' Z'] ∧ ((¬ AuOk Z ∧ code = 3 ∧ Z' = Z) ∨ ∃ bs, ChS Z 0 bs Z.length ∧ naf false bs = true ∧ AlcS Z bs m Z' pos code) by
  obtain ⟨⟨o1, o2⟩, e, a', Z', pos, code, y1, y2⟩ := W
  simp only at y1 y2
  subst y1
  exact ⟨a', o2, Z', pos, code, e, y2⟩
 refine W.of (fun r hx => Am.r58 hx) ?_
 ((try simp only [n1, n2, n3, n4, n5, n6] at d); (with_reducible repeat first | refine W.a1 d ?_ | refine W.a2 ?_ | refine W.a3 ?_ | refine W.bo ?_ | refine W.a5 d fun hw d lw kw => ?_ | refine W.a6 d ?_ | refine W.a7 ?_ | refine W.a8 ?_); (refine W.nD d fun h1 d _ kh1 => ?_); (with_reducible repeat first | refine W.a1 d ?_ | refine W.a2 ?_ | refine W.a3 ?_ | refine W.bo ?_ | refine W.a5 d fun hw d lw kw => ?_ | refine W.a6 d ?_ | refine W.a7 ?_ | refine W.a8 ?_); (refine W.nD d fun h2 d _ kh2 => ?_); (with_reducible repeat first | refine W.a1 d ?_ | refine W.a2 ?_ | refine W.a3 ?_ | refine W.bo ?_ | refine W.a5 d fun hw d lw kw => ?_ | refine W.a6 d ?_ | refine W.a7 ?_ | refine W.a8 ?_))
 obtain ⟨ao, h3, e3, o3, k3, f3⟩ := implArC_run (base := base) _ a Z (d.rs (i := 0) rfl) (by omega) d.ge
 refine W.bs e3 ?_
 have d := d.call k3 (blk ao) (fun y => Own base 3 y ao (iv .i64 Z)) o3 (fun U y y' k hs x => x.keep k hs) (fun i hi => ⟨f3 i hi, (o3.lt hi).2⟩)
 simp only [List.cons_append, List.nil_append] at d
 ((try simp only [n1, n2, n3, n4, n5, n6] at d); (with_reducible repeat first | refine W.a1 d ?_ | refine W.a2 ?_ | refine W.a3 ?_ | refine W.bo ?_ | refine W.a5 d fun hw d lw kw => ?_ | refine W.a6 d ?_ | refine W.a7 ?_ | refine W.a8 ?_); (refine W.nD d fun h4 d _ kh4 => ?_); (with_reducible repeat first | refine W.a1 d ?_ | refine W.a2 ?_ | refine W.a3 ?_ | refine W.bo ?_ | refine W.a5 d fun hw d lw kw => ?_ | refine W.a6 d ?_ | refine W.a7 ?_ | refine W.a8 ?_))
 obtain ⟨r, h5, e5, k5, hr, hr2⟩ := implAudit_run (base := base) _ a Z (d.rs (i := 0) rfl) hZ d.ge
 refine W.bs e5 ?_
 have d := d.kN k5
 ((try simp only [n1, n2, n3, n4, n5, n6] at d); (with_reducible repeat first | refine W.a1 d ?_ | refine W.a2 ?_ | refine W.a3 ?_ | refine W.bo ?_ | refine W.a5 d fun hw d lw kw => ?_ | refine W.a6 d ?_ | refine W.a7 ?_ | refine W.a8 ?_))
 refine W.ite (fun c => ?_) (fun c => ?_)
 ·have hna : ¬ AuOk Z := fun ha => by rw [hr.2 ha] at c; simp at c
  ((try simp only [n1, n2, n3, n4, n5, n6] at d); (with_reducible repeat first | refine W.a1 d ?_ | refine W.a2 ?_ | refine W.a3 ?_ | refine W.bo ?_ | refine W.a5 d fun hw d lw kw => ?_ | refine W.a6 d ?_ | refine W.a7 ?_ | refine W.a8 ?_))
  exact W.ret ⟨ao, Z, 0, 3, rfl, (d.takeD 0).frontR (Del.at (i := 1) rfl) |>.takeR 1, .inl ⟨hna, rfl, rfl⟩⟩
 have ha : AuOk Z := hr.1 (by simpa using c)
 obtain ⟨bs, hc, hf⟩ := ha
 have hcn := hc.cnt
 refine W.bs in_run (W.bB rfl (W.ifF ?_ ?_))
 ·rw [inB_iff.2 ⟨by omega, by omega⟩]; decide
 ((try simp only [n1, n2, n3, n4, n5, n6] at d); (with_reducible repeat first | refine W.a1 d ?_ | refine W.a2 ?_ | refine W.a3 ?_ | refine W.bo ?_ | refine W.a5 d fun hw d lw kw => ?_ | refine W.a6 d ?_ | refine W.a7 ?_ | refine W.a8 ?_))
 obtain ⟨al, h6, e6, z⟩ := implBlocks_run (base := base) _ a Z bs (d.rs (i := 0) rfl) (d.rlt (i := 0) rfl) hZ hc d.ge
 refine W.bs e6 ?_
 have z1 := z.rs (i := 0) rfl
 have d := d.call z.kb (blk al) (fun y => Own base 3 y al (iv .i64 (pls 0 bs))) z1 (fun U y y' ky hs x => x.keep ky hs) (fun b hb => ⟨(z.rfr (i := 0) rfl rfl b hb).resolve_left fun h => h, z.rlt (i := 0) rfl b hb⟩)
 simp only [List.cons_append, List.nil_append] at d
 ((try simp only [n1, n2, n3, n4, n5, n6] at d); (with_reducible repeat first | refine W.a1 d ?_ | refine W.a2 ?_ | refine W.a3 ?_ | refine W.bo ?_ | refine W.a5 d fun hw d lw kw => ?_ | refine W.a6 d ?_ | refine W.a7 ?_ | refine W.a8 ?_))
 have d := (d.frontR (Del.at (i := 2) rfl)).asSl
 simp only [n5, n6] at d
 have d := (d.frontR (Del.at (i := 1) rfl)).frontR (Del.at (i := 2) rfl)
 simp only [n5, n6] at d
 obtain ⟨⟨o1, o2, h7⟩, e7, y⟩ := implAlc_loop (base := base) rfl hZ ⟨hm1, hm2⟩ hc bs [] h6 rfl (by simp) d
 refine W.bs e7 ?_
 simp only at y
 rcases y with ⟨rfl, Z', pos, rfl, d, hS⟩ | ⟨rfl, rfl, d, hall⟩
 ·refine W.ifT rfl ?_
  ((try simp only [n1, n2, n3, n4, n5, n6] at d); (with_reducible repeat first | refine W.a1 d ?_ | refine W.a2 ?_ | refine W.a3 ?_ | refine W.bo ?_ | refine W.a5 d fun hw d lw kw => ?_ | refine W.a6 d ?_ | refine W.a7 ?_ | refine W.a8 ?_))
  exact W.ret ⟨ao, Z', pos, 0, rfl, (d.takeD 0).takeR 1, .inr ⟨bs, hc, hf, hS⟩⟩
 ·refine W.ifF (show ¬ (3 : Nat) = 1 by decide) (W.ifT rfl ?_)
  ((try simp only [n1, n2, n3, n4, n5, n6] at d); (with_reducible repeat first | refine W.a1 d ?_ | refine W.a2 ?_ | refine W.a3 ?_ | refine W.bo ?_ | refine W.a5 d fun hw d lw kw => ?_ | refine W.a6 d ?_ | refine W.a7 ?_ | refine W.a8 ?_))
  exact W.ret ⟨ao, Z, 0, 1, rfl, (d.takeD 0).takeR 1, .inr ⟨bs, hc, hf, .inl ⟨rfl, rfl, hall⟩⟩⟩
end Go.Proofs.Ytjmkbglnjklbcaa.Am
set_option linter.unusedSimpArgs false
set_option linter.unusedVariables false
namespace Go.Proofs.Ytjmkbglnjklbcaa.Am
open Go Go.RowKit
def WB (Z : List Int) : Prop := ∀ w ∈ Z, 0 ≤ w ∧ w ≤ 2000000
theorem gW_wb (a n : Int) (u : Bool) : 0 ≤ gW a n u ∧ gW a n u ≤ 2000000 ∧ 0 ≤ reW a n u ∧ reW a n u ≤ 2000000 := by
 unfold gW reW
 split <;> omega
theorem poW_wb (a : Int) : 0 ≤ poW a ∧ poW a ≤ 2000000 := by
 unfold poW
 split <;> omega
theorem WB.blk {a n : Nat} {u : Bool} (hn : n ≤ 4000) : WB (blkW a n u) := by
 intro w hw
 unfold blkW at hw
 have hg := gW_wb a n u
 rcases List.mem_cons.1 hw with rfl | hw
 ·omega
 rcases List.mem_cons.1 hw with rfl | hw
 ·omega
 rcases List.mem_append.1 hw with hw | hw
 ·unfold payW at hw
  split at hw
  ·rw [List.mem_replicate] at hw; omega
  ·obtain ⟨i, _, rfl⟩ := List.mem_map.1 hw
   exact poW_wb _
 ·rw [List.mem_singleton] at hw; subst hw; omega
theorem WB.lay {Z : List Int} {a n : Nat} {u : Bool} (h : WB Z) (hn : n ≤ 4000) : WB (layW Z a n u) := by
 intro w hw
 unfold layW spl at hw
 rcases List.mem_append.1 hw with hw | hw
 ·exact h w (List.mem_of_mem_take hw)
 rcases List.mem_append.1 hw with hw | hw
 ·exact WB.blk hn w hw
 ·exact h w (List.mem_of_mem_drop hw)
theorem WB.tk {Z : List Int} {p m n : Nat} (h : WB Z) (hm : m ≤ 4000) : WB (tkW Z p m n) := by
 unfold tkW
 split
 ·exact (h.lay (by omega)).lay (by omega)
 ·exact h.lay hm
def RelR (base F : Nat) : Prop := ∀ (h : AH) (a : Option Addr) (Z : List Int) (v : Int), Sl h a (iv .i64 Z) → (∀ b, blk a b → b < h.length) → Z.length ≤ 4000 → AuOk Z → WB Z → base ≤ h.length →
 ∃ a' h' Z' code, run (Et base) F [.agg #[.slice a Z.length Z.length], .int .i64 v] h = some (.tuple #[.agg #[.slice a' Z.length Z.length], .int .i64 code], h') ∧ Hs base NoB h h' [] [rW base a' Z'] ∧ Z'.length = Z.length ∧ AuOk Z' ∧ WB Z'
theorem naf_l {pre post : List (Nat × Bool)} {b : Nat × Bool} (h : naf false (pre ++ b :: post) = true) : naf false pre = true ∧ (b.2 || !lf false pre) = true ∧ naf (!b.2) post = true := by
 rw [naf_app] at h
 simp only [naf, Bool.and_eq_true] at h
 exact ⟨h.1, h.2.1, h.2.2⟩
theorem specRel_loop {base bA bR bO L : Nat} {v : Int} {h0 : AH} {a ao al : Option Addr} {Z : List Int} {bs : List (Nat × Bool)} (hL : Z.length = L) (hZ : L ≤ 4000) (hc : ChS Z 0 bs Z.length) (hf : naf false bs = true) (hwb : WB Z) : ∀ (post pre : List (Nat × Bool)) (h : AH), bs = pre ++ post → Hs base NoB h0 h [(bO, 91, [.slice ao L L]), (bR, 91, [.slice none 0 0]), (bA, 91, [.slice a L L])] [rW base ao Z, rSl (blk a) a Z, rSl (blk al) al (pls 0 bs)] →
  ∃ o, loopL (B167_0 base) [some (.int .i64 v), some (.pointer (at0 bA)), some (.pointer (at0 bR)), some (.pointer (at0 bO)), some (.slice al bs.length bs.length), some (.int .i64 (pre.length : Int))] h = some o ∧ ((o.1 = 1 ∧ ∃ Z', o.2.1 = [some (.pointer (at0 bR)), some (.int .i64 0)] ∧ Hs base NoB h0 o.2.2 [(bO, 91, [.slice ao L L]), (bR, 91, [.slice ao L L]), (bA, 91, [.slice a L L])] [rW base ao Z', rSl (blk a) a Z, rSl (blk al) al (pls 0 bs)] ∧ Z'.length = L ∧ AuOk Z' ∧ WB Z') ∨ (o.1 = 2 ∧ o.2.1 = [some (.pointer (at0 bR)), some (.pointer (at0 bO))] ∧ Hs base NoB h0 o.2.2 [(bO, 91, [.slice ao L L]), (bR, 91, [.slice none 0 0]), (bA, 91, [.slice a L L])] [rW base ao Z, rSl (blk a) a Z, rSl (blk al) al (pls 0 bs)]))
 | [], pre, h, e, d => by
  have hl : bs.length = pre.length := by rw [e, List.append_nil]
  have hcn := hc.cnt
  suffices w1 : Wp (B167_0 base [some (.int .i64 v), some (.pointer (at0 bA)), some (.pointer (at0 bR)), some (.pointer (at0 bO)), some (.slice al bs.length bs.length), some (.int .i64 (pre.length : Int))] h) fun o => o = (2, [some (.pointer (at0 bR)), some (.pointer (at0 bO))], h) by
   obtain ⟨o, ee, rfl⟩ := w1
   exact ⟨_, loop_off (by decide) ee, .inr ⟨rfl, rfl, d⟩⟩
  rw [B167_0_eq]
  exact W.ifF (by simp; omega) (W.ret rfl)
 | b :: post, pre, h, e, d => by
  have hl : bs.length = pre.length + (post.length + 1) := by rw [e]; simp
  have hcn := hc.cnt
  have ok : ∀ x y c, bs = x ++ c :: y → bOk Z (blen x) c.1 c.2 := fun x y c ee => by
   have := hc
   rw [ee, ChS.app] at this
   have := this.2.1
   rwa [Nat.zero_add] at this
  have hcb := ok pre post b e
  have hb2 := hcb.2.1
  have hb1 := hcb.1
  have rdl : ∀ (y : AH) (x z : List (Nat × Bool)) (c : Nat × Bool), Sl y al (iv .i64 (pls 0 bs)) → bs = x ++ c :: z → ∃ ad, al = some ad ∧ Am.cell y ad.block (ad.off + x.length) = some (.int .i64 ((blen x : Nat) : Int)) := fun y x z c hs ee => by
   obtain ⟨ad, v, e1, hv, g⟩ := rdZ hs (j := x.length) (by rw [pls_len, ee]; simp)
   have := pls_get (b := c) (post := z) x 0
   rw [← ee, hv, Nat.zero_add] at this
   injection this with this
   subst this
   exact ⟨ad, e1, g⟩
  obtain ⟨h1, e1, k1⟩ := BkR.at (@specBk_run base) (d.rs (i := 1) rfl) (by omega) d.ge hcb
  rw [hL] at e1
  obtain ⟨ad, rfl, g⟩ := rdl h pre post b (d.rs (i := 2) rfl) e
  suffices w1 : Wp (B167_0 base [some (.int .i64 v), some (.pointer (at0 bA)), some (.pointer (at0 bR)), some (.pointer (at0 bO)), some (.slice (some ad) bs.length bs.length), some (.int .i64 (pre.length : Int))] h) fun o => (o.1 = 1 ∧ ∃ Z', o.2.1 = [some (.pointer (at0 bR)), some (.int .i64 0)] ∧ Hs base NoB h0 o.2.2 [(bO, 91, [.slice ao L L]), (bR, 91, [.slice ao L L]), (bA, 91, [.slice a L L])] [rW base ao Z', rSl (blk a) a Z, rSl (blk (some ad)) (some ad) (pls 0 bs)] ∧ Z'.length = L ∧ AuOk Z' ∧ WB Z') ∨ (o.1 = 0 ∧ o.2.1 = [some (.int .i64 v), some (.pointer (at0 bA)), some (.pointer (at0 bR)), some (.pointer (at0 bO)), some (.slice (some ad) bs.length bs.length), some (.int .i64 ((pre.length + 1 : Nat) : Int))] ∧ Hs base NoB h0 o.2.2 [(bO, 91, [.slice ao L L]), (bR, 91, [.slice none 0 0]), (bA, 91, [.slice a L L])] [rW base ao Z, rSl (blk a) a Z, rSl (blk (some ad)) (some ad) (pls 0 bs)]) by
   obtain ⟨⟨o1, o2, h'⟩, ee, y⟩ := w1
   rcases y with ⟨y1, Z', y2, d', q⟩ | ⟨y1, y2, d'⟩
   ·simp only at y1 y2 d'
    subst y1; subst y2
    exact ⟨_, loop_off (by decide) ee, .inl ⟨rfl, Z', rfl, d', q⟩⟩
   ·simp only at y1 y2 d'
    subst y1; subst y2
    obtain ⟨o, eo, q⟩ := specRel_loop hL hZ hc hf hwb post (pre ++ [b]) h' (by rw [e]; simp) d'
    rw [show (pre ++ [b]).length = pre.length + 1 from by simp] at eo
    exact ⟨o, loop_on ee eo, q⟩
  rw [B167_0_eq]
  refine W.ifT (decide_eq_true (by omega)) ?_
  ((try simp only [n1, n2, n3, n4, n5, n6] at d); (with_reducible repeat first | refine W.a1 d ?_ | refine W.a2 ?_ | refine W.a3 ?_ | refine W.bo ?_ | refine W.a5 d fun hw d lw kw => ?_ | refine W.a6 d ?_ | refine W.a7 ?_ | refine W.a8 ?_))
  refine W.bs rfl (W.bI (by rw [Int.toNat_natCast, Nat.mul_one]; exact g) ?_)
  refine W.bs e1 ?_
  have d := d.kN k1
  ((try simp only [n1, n2, n3, n4, n5, n6] at d); (with_reducible repeat first | refine W.a1 d ?_ | refine W.a2 ?_ | refine W.a3 ?_ | refine W.bo ?_ | refine W.a5 d fun hw d lw kw => ?_ | refine W.a6 d ?_ | refine W.a7 ?_ | refine W.a8 ?_))
  dsimp only
  obtain ⟨_, ex, g1⟩ := rdl h1 pre post b (d.rs (i := 2) rfl) e
  injection ex with ex
  subst ex
  refine W.joinP (fun q => q = ([some (.int .i64 v), some (.pointer (at0 bA)), some (.pointer (at0 bR)), some (.pointer (at0 bO)), some (.slice (some ad) bs.length bs.length), some (.int .i64 (pre.length : Int)), some (.int .i64 (b.1 : Int)), some (.bool (((blen pre : Nat) : Int) != v || !b.2))], h1)) ?_ ?_
  ·refine W.ifT ⟨by omega, by omega⟩ (W.bs rfl (W.bI (by rw [Int.toNat_natCast, Nat.mul_one]; exact g1) ?_))
   refine W.ite (fun cu => ?_) (fun cu => ?_)
   ·rw [cu, Bool.true_or]
    exact W.inl rfl
   ·have cu : (((blen pre : Nat) : Int) != v) = false := by simpa using cu
    rw [cu, Bool.false_or]
    exact W.inl rfl
  rintro q rfl
  ((try simp only [n1, n2, n3, n4, n5, n6] at d); (with_reducible repeat first | refine W.a1 d ?_ | refine W.a2 ?_ | refine W.a3 ?_ | refine W.bo ?_ | refine W.a5 d fun hw d lw kw => ?_ | refine W.a6 d ?_ | refine W.a7 ?_ | refine W.a8 ?_))
  dsimp only
  refine W.ite (fun cf => ?_) (fun cf => ?_)
  ·rw [w64i (n := (pre.length : Int) + 1) (by omega) (by omega)]
   exact W.ret (.inr ⟨rfl, rfl, d⟩)
  have cf : (((blen pre : Nat) : Int) != v || !b.2) = false := by simpa using cf
  rw [Bool.or_eq_false_iff] at cf
  have hv : v = ((blen pre : Nat) : Int) := by have := cf.1; simp at this; exact this.symm
  have hbu : b.2 = true := by simpa using cf.2
  subst hv
  have hnf := hf
  rw [e] at hnf
  obtain ⟨f1, f2, f3⟩ := naf_l hnf
  rw [hbu] at f3
  rw [w64i (n := ((blen pre : Nat) : Int) + b.1) (by omega) (by omega), w64i (n := ((blen pre : Nat) : Int) + b.1 + 3) (by omega) (by omega)]
  refine W.joinP (fun q => ∃ A B0, pre = A ++ B0 ∧ naf false A = true ∧ lf false A = false ∧ q.1 = [some (.pointer (at0 bA)), some (.pointer (at0 bR)), some (.pointer (at0 bO)), some (.slice (some ad) bs.length bs.length), some (.int .i64 (pre.length : Int)), some (.int .i64 ((blen A : Nat) : Int)), some (.int .i64 (((blen pre : Nat) : Int) + b.1 + 3))] ∧ Hs base NoB h0 q.2 [(bO, 91, [.slice ao L L]), (bR, 91, [.slice none 0 0]), (bA, 91, [.slice a L L])] [rW base ao Z, rSl (blk a) a Z, rSl (blk (some ad)) (some ad) (pls 0 bs)]) ?_ ?_
  ·refine W.ite (fun c0 => ?_) (fun c0 => ?_)
   ·have c0 := of_decide_eq_true c0
    rcases List.eq_nil_or_concat pre with hp | ⟨pre', c, hp⟩
    ·rw [hp] at c0; simp at c0
    rw [List.concat_eq_append] at hp
    have ebs : bs = pre' ++ c :: (b :: post) := by rw [e, hp]; simp
    have hpl : pre.length = pre'.length + 1 := by rw [hp]; simp
    have hcc := ok pre' _ c ebs
    ((try simp only [n1, n2, n3, n4, n5, n6] at d); (with_reducible repeat first | refine W.a1 d ?_ | refine W.a2 ?_ | refine W.a3 ?_ | refine W.bo ?_ | refine W.a5 d fun hw d lw kw => ?_ | refine W.a6 d ?_ | refine W.a7 ?_ | refine W.a8 ?_))
    rw [w64i (n := (pre.length : Int) - 1) (by omega) (by omega)]
    obtain ⟨_, ex, g2⟩ := rdl h1 pre' _ c (d.rs (i := 2) rfl) ebs
    injection ex with ex
    subst ex
    refine W.ifT ⟨by omega, by omega⟩ (W.bs rfl (W.bI (by rw [show Int.toNat ((pre.length : Int) - 1) * 1 = pre'.length from by omega]; exact g2) ?_))
    obtain ⟨h2, e2, k2⟩ := BkR.at (@specBk_run base) (d.rs (i := 1) rfl) (by omega) d.ge hcc
    rw [hL] at e2
    refine W.bs e2 ?_
    have d := d.kN k2
    ((try simp only [n1, n2, n3, n4, n5, n6] at d); (with_reducible repeat first | refine W.a1 d ?_ | refine W.a2 ?_ | refine W.a3 ?_ | refine W.bo ?_ | refine W.a5 d fun hw d lw kw => ?_ | refine W.a6 d ?_ | refine W.a7 ?_ | refine W.a8 ?_))
    dsimp only
    refine W.ite (fun cc => ?_) (fun cc => ?_)
    ·have hcf : c.2 = false := by simpa using cc
     obtain ⟨_, ex, g3⟩ := rdl h2 pre' _ c (d.rs (i := 2) rfl) ebs
     injection ex with ex
     subst ex
     refine W.ifT ⟨by omega, by omega⟩ (W.bs rfl (W.bI (by rw [show Int.toNat ((pre.length : Int) - 1) * 1 = pre'.length from by omega]; exact g3) ?_))
     rw [hp] at f1
     obtain ⟨x1, x2, x3⟩ := naf_l f1
     rw [hcf] at x2
     exact W.inl ⟨pre', [c], hp, x1, by simpa using x2, rfl, d⟩
    ·have hcf : c.2 = true := by simpa using cc
     refine W.inl ⟨pre, [], by simp, f1, ?_, rfl, d⟩
     rw [hp, lf_app]
     simp [lf, hcf]
   ·have c0 : ¬ ((pre.length : Int) > 0) := by simpa using c0
    have hp : pre = [] := List.eq_nil_of_length_eq_zero (by omega)
    refine W.inl ⟨pre, [], by simp, f1, by rw [hp]; rfl, rfl, d⟩
  rintro ⟨q1, h3⟩ ⟨A, B0, eA, hA1, hA2, y1, d⟩
  simp only at y1 d
  subst y1
  ((try simp only [n1, n2, n3, n4, n5, n6] at d); (with_reducible repeat first | refine W.a1 d ?_ | refine W.a2 ?_ | refine W.a3 ?_ | refine W.bo ?_ | refine W.a5 d fun hw d lw kw => ?_ | refine W.a6 d ?_ | refine W.a7 ?_ | refine W.a8 ?_))
  dsimp only
  rw [w64i (n := (pre.length : Int) + 1) (by omega) (by omega)]
  refine W.joinP (fun q => ∃ B1 C, post = B1 ++ C ∧ naf true C = true ∧ q.1 = [some (.pointer (at0 bR)), some (.pointer (at0 bO)), some (.int .i64 ((blen A : Nat) : Int)), some (.int .i64 (((blen pre : Nat) : Int) + b.1 + 3 + (blen B1 : Nat)))] ∧ Hs base NoB h0 q.2 [(bO, 91, [.slice ao L L]), (bR, 91, [.slice none 0 0]), (bA, 91, [.slice a L L])] [rW base ao Z, rSl (blk a) a Z, rSl (blk (some ad)) (some ad) (pls 0 bs)]) ?_ ?_
  ·cases post with
   | nil =>
    simp only [List.length_nil] at hl
    refine W.ifF (by simp; omega) ?_
    exact W.inl ⟨[], [], rfl, rfl, by simp [blen], d⟩
   | cons c post' =>
    simp only [List.length_cons] at hl
    have ebs : bs = (pre ++ [b]) ++ c :: post' := by rw [e]; simp
    have hcc := ok _ _ c ebs
    have hcc2 := hcc.2.1
    have ebl : blen (pre ++ [b]) = blen pre + b.1 + 3 := by rw [blen_app]; simp only [blen]; omega
    have f4 := f3
    simp only [naf, Bool.and_eq_true] at f4
    refine W.ifT (decide_eq_true (by omega)) ?_
    ((try simp only [n1, n2, n3, n4, n5, n6] at d); (with_reducible repeat first | refine W.a1 d ?_ | refine W.a2 ?_ | refine W.a3 ?_ | refine W.bo ?_ | refine W.a5 d fun hw d lw kw => ?_ | refine W.a6 d ?_ | refine W.a7 ?_ | refine W.a8 ?_))
    obtain ⟨_, ex, g2⟩ := rdl h3 (pre ++ [b]) _ c (d.rs (i := 2) rfl) ebs
    injection ex with ex
    subst ex
    rw [show (pre ++ [b]).length = pre.length + 1 from by simp] at g2
    refine W.bs rfl (W.bI (by rw [show Int.toNat ((pre.length : Int) + 1) * 1 = pre.length + 1 from by omega]; exact g2) ?_)
    obtain ⟨h4, e4, k4⟩ := BkR.at (@specBk_run base) (d.rs (i := 1) rfl) (by omega) d.ge hcc
    rw [hL] at e4
    refine W.bs e4 ?_
    have d := d.kN k4
    ((try simp only [n1, n2, n3, n4, n5, n6] at d); (with_reducible repeat first | refine W.a1 d ?_ | refine W.a2 ?_ | refine W.a3 ?_ | refine W.bo ?_ | refine W.a5 d fun hw d lw kw => ?_ | refine W.a6 d ?_ | refine W.a7 ?_ | refine W.a8 ?_))
    dsimp only
    refine W.ite (fun cc => ?_) (fun cc => ?_)
    ·have hcf : c.2 = false := by simpa using cc
     rw [w64i (n := ((blen pre : Nat) : Int) + b.1 + 3 + c.1) (by omega) (by omega), w64i (n := ((blen pre : Nat) : Int) + b.1 + 3 + c.1 + 3) (by omega) (by omega)]
     have f5 := f4.2
     rw [hcf] at f5
     refine W.inl ⟨[c], post', rfl, f5, ?_, d⟩
     rw [show ((blen pre : Nat) : Int) + b.1 + 3 + c.1 + 3 = ((blen pre : Nat) : Int) + b.1 + 3 + ((blen [c] : Nat) : Int) from by simp only [blen]; omega]
    ·have hcf : c.2 = true := by simpa using cc
     refine W.inl ⟨[], c :: post', rfl, ?_, by simp [blen], d⟩
     simp only [naf, hcf, Bool.true_or, Bool.true_and]
     rw [hcf] at f4
     exact f4.2
  rintro ⟨q1, h5⟩ ⟨B1, C, eC, hC, y1, d⟩
  simp only at y1 d
  subst y1
  ((try simp only [n1, n2, n3, n4, n5, n6] at d); (with_reducible repeat first | refine W.a1 d ?_ | refine W.a2 ?_ | refine W.a3 ?_ | refine W.bo ?_ | refine W.a5 d fun hw d lw kw => ?_ | refine W.a6 d ?_ | refine W.a7 ?_ | refine W.a8 ?_))
  dsimp only
  have eB : blen (B0 ++ b :: B1) = blen B0 + (b.1 + 3 + blen B1) := by rw [blen_app]; rfl
  have epre : blen pre = blen A + blen B0 := by rw [eA, blen_app]
  have hc2 := hc
  have e2 : bs = A ++ ((B0 ++ b :: B1) ++ C) := by rw [e, eA, eC]; simp
  rw [e2] at hc2
  have hlen := hc2.len
  rw [blen_app, blen_app, eB] at hlen
  obtain ⟨r1, r2, r3⟩ := fr_ok hc2 (by rw [eB]; omega) hA1 hA2 hC
  have hn : ((blen pre : Nat) : Int) + b.1 + 3 + (blen B1 : Nat) - (blen A : Nat) - 3 = ((blen (B0 ++ b :: B1) - 3 : Nat) : Int) := by rw [eB]; omega
  rw [w64i (n := ((blen pre : Nat) : Int) + b.1 + 3 + (blen B1 : Nat) - (blen A : Nat)) (by omega) (by omega), w64i (n := ((blen pre : Nat) : Int) + b.1 + 3 + (blen B1 : Nat) - (blen A : Nat) - 3) (by omega) (by omega), hn]
  obtain ⟨h6, e6, d⟩ := specLay_run (base := base) (u := false) (p := blen A) (n := blen (B0 ++ b :: B1) - 3) (L := L) hL hZ (by rw [eB]; omega) d
  refine W.bs e6 (W.bs rfl ?_)
  ((try simp only [n1, n2, n3, n4, n5, n6] at d); (with_reducible repeat first | refine W.a1 d ?_ | refine W.a2 ?_ | refine W.a3 ?_ | refine W.bo ?_ | refine W.a5 d fun hw d lw kw => ?_ | refine W.a6 d ?_ | refine W.a7 ?_ | refine W.a8 ?_))
  exact W.ret (.inl ⟨rfl, _, rfl, d, by rw [r1]; exact hL, ⟨_, by rw [r1]; exact r2, r3⟩, hwb.lay (by omega)⟩)
theorem specRel_run {base : Nat} : RelR base 167 := by
 intro h a Z v hs hlt hZ ha hwb hb
 have d := Hs.inpZ hs hlt hb
 suffices W : Wp (run (Et base) 167 [.agg #[.slice a Z.length Z.length], .int .i64 v] h) fun o => ∃ a' Z' code, o.1 = .tuple #[.agg #[.slice a' Z.length Z.length], .int .i64 code] ∧ Hs base NoB h o.2 [] [rW base a' Z'] ∧ Z'.length = Z.length ∧ AuOk Z' ∧ WB Z' by
  obtain ⟨⟨o1, o2⟩, e, a', Z', code, y1, y2⟩ := W
  simp only at y1 y2
  subst y1
  exact ⟨a', o2, Z', code, e, y2⟩
 refine W.of (fun r hx => Am.r167 hx) ?_
 ((try simp only [n1, n2, n3, n4, n5, n6] at d); (with_reducible repeat first | refine W.a1 d ?_ | refine W.a2 ?_ | refine W.a3 ?_ | refine W.bo ?_ | refine W.a5 d fun hw d lw kw => ?_ | refine W.a6 d ?_ | refine W.a7 ?_ | refine W.a8 ?_); (refine W.nD d fun h1 d _ kh1 => ?_); (with_reducible repeat first | refine W.a1 d ?_ | refine W.a2 ?_ | refine W.a3 ?_ | refine W.bo ?_ | refine W.a5 d fun hw d lw kw => ?_ | refine W.a6 d ?_ | refine W.a7 ?_ | refine W.a8 ?_); (refine W.nD d fun h2 d _ kh2 => ?_); (with_reducible repeat first | refine W.a1 d ?_ | refine W.a2 ?_ | refine W.a3 ?_ | refine W.bo ?_ | refine W.a5 d fun hw d lw kw => ?_ | refine W.a6 d ?_ | refine W.a7 ?_ | refine W.a8 ?_))
 obtain ⟨ao, h3, e3, o3, k3, f3⟩ := specArC_run (base := base) _ a Z (d.rs (i := 0) rfl) (by omega) d.ge
 refine W.bs e3 ?_
 have d := d.call k3 (blk ao) (fun y => Own base 3 y ao (iv .i64 Z)) o3 (fun U y y' k hs x => x.keep k hs) (fun i hi => ⟨f3 i hi, (o3.lt hi).2⟩)
 simp only [List.cons_append, List.nil_append] at d
 ((try simp only [n1, n2, n3, n4, n5, n6] at d); (with_reducible repeat first | refine W.a1 d ?_ | refine W.a2 ?_ | refine W.a3 ?_ | refine W.bo ?_ | refine W.a5 d fun hw d lw kw => ?_ | refine W.a6 d ?_ | refine W.a7 ?_ | refine W.a8 ?_); (refine W.nD d fun h4 d _ kh4 => ?_); (with_reducible repeat first | refine W.a1 d ?_ | refine W.a2 ?_ | refine W.a3 ?_ | refine W.bo ?_ | refine W.a5 d fun hw d lw kw => ?_ | refine W.a6 d ?_ | refine W.a7 ?_ | refine W.a8 ?_))
 obtain ⟨r, h5, e5, k5, hr, hr2⟩ := specAudit_run (base := base) _ a Z (d.rs (i := 0) rfl) hZ d.ge
 refine W.bs e5 ?_
 have d := d.kN k5
 ((try simp only [n1, n2, n3, n4, n5, n6] at d); (with_reducible repeat first | refine W.a1 d ?_ | refine W.a2 ?_ | refine W.a3 ?_ | refine W.bo ?_ | refine W.a5 d fun hw d lw kw => ?_ | refine W.a6 d ?_ | refine W.a7 ?_ | refine W.a8 ?_))
 refine W.ifF (by rw [hr.2 ha]; simp) ?_
 have ha' := ha
 obtain ⟨bs, hc, hf⟩ := ha'
 have hcn := hc.cnt
 ((try simp only [n1, n2, n3, n4, n5, n6] at d); (with_reducible repeat first | refine W.a1 d ?_ | refine W.a2 ?_ | refine W.a3 ?_ | refine W.bo ?_ | refine W.a5 d fun hw d lw kw => ?_ | refine W.a6 d ?_ | refine W.a7 ?_ | refine W.a8 ?_))
 obtain ⟨al, h6, e6, z⟩ := specBlocks_run (base := base) _ a Z bs (d.rs (i := 0) rfl) (d.rlt (i := 0) rfl) hZ hc d.ge
 refine W.bs e6 ?_
 have z1 := z.rs (i := 0) rfl
 have d := d.call z.kb (blk al) (fun y => Own base 3 y al (iv .i64 (pls 0 bs))) z1 (fun U y y' ky hs x => x.keep ky hs) (fun b hb => ⟨(z.rfr (i := 0) rfl rfl b hb).resolve_left fun h => h, z.rlt (i := 0) rfl b hb⟩)
 simp only [List.cons_append, List.nil_append] at d
 ((try simp only [n1, n2, n3, n4, n5, n6] at d); (with_reducible repeat first | refine W.a1 d ?_ | refine W.a2 ?_ | refine W.a3 ?_ | refine W.bo ?_ | refine W.a5 d fun hw d lw kw => ?_ | refine W.a6 d ?_ | refine W.a7 ?_ | refine W.a8 ?_))
 have d := (d.frontR (Del.at (i := 2) rfl)).asSl
 simp only [n5, n6] at d
 have d := (d.frontR (Del.at (i := 1) rfl)).frontR (Del.at (i := 2) rfl)
 simp only [n5, n6] at d
 obtain ⟨⟨o1, o2, h7⟩, e7, y⟩ := specRel_loop (base := base) (v := v) rfl hZ hc hf hwb bs [] h6 rfl d
 refine W.bs e7 ?_
 simp only at y
 rcases y with ⟨rfl, Z', rfl, d, q⟩ | ⟨rfl, rfl, d⟩
 ·refine W.ifT rfl ?_
  ((try simp only [n1, n2, n3, n4, n5, n6] at d); (with_reducible repeat first | refine W.a1 d ?_ | refine W.a2 ?_ | refine W.a3 ?_ | refine W.bo ?_ | refine W.a5 d fun hw d lw kw => ?_ | refine W.a6 d ?_ | refine W.a7 ?_ | refine W.a8 ?_))
  exact W.ret ⟨ao, Z', 0, rfl, (d.takeD 0).takeR 1, q⟩
 ·refine W.ifF (show ¬ (2 : Nat) = 1 by decide) (W.ifT rfl ?_)
  ((try simp only [n1, n2, n3, n4, n5, n6] at d); (with_reducible repeat first | refine W.a1 d ?_ | refine W.a2 ?_ | refine W.a3 ?_ | refine W.bo ?_ | refine W.a5 d fun hw d lw kw => ?_ | refine W.a6 d ?_ | refine W.a7 ?_ | refine W.a8 ?_))
  exact W.ret ⟨ao, Z, 2, rfl, (d.takeD 0).takeR 1, rfl, ha, hwb⟩
theorem arNew_run {base n : Nat} {h : AH} (hn : 4 ≤ n ∧ n ≤ 4000) (hb : base ≤ h.length) : ∃ a' h', run (Et base) 165 [.int .i64 (n : Int)] h = some (.agg #[.slice a' n n], h') ∧ Hs base NoB h h' [] [rW base a' (layW (List.replicate n 0) 0 (n - 3) false)] := by
 have d := Hs.start hb
 suffices W : Wp (run (Et base) 165 [.int .i64 (n : Int)] h) fun o => ∃ a', o.1 = .agg #[.slice a' n n] ∧ Hs base NoB h o.2 [] [rW base a' (layW (List.replicate n 0) 0 (n - 3) false)] by
  obtain ⟨⟨o1, o2⟩, e, a', y1, y2⟩ := W
  simp only at y1 y2
  subst y1
  exact ⟨a', o2, e, y2⟩
 refine W.of (fun r hx => Am.r165 hx) ?_
 ((try simp only [n1, n2, n3, n4, n5, n6] at d); (with_reducible repeat first | refine W.a1 d ?_ | refine W.a2 ?_ | refine W.a3 ?_ | refine W.bo ?_ | refine W.a5 d fun hw d lw kw => ?_ | refine W.a6 d ?_ | refine W.a7 ?_ | refine W.a8 ?_); (refine W.nD d fun h1 d _ kh1 => ?_); (with_reducible repeat first | refine W.a1 d ?_ | refine W.a2 ?_ | refine W.a3 ?_ | refine W.bo ?_ | refine W.a5 d fun hw d lw kw => ?_ | refine W.a6 d ?_ | refine W.a7 ?_ | refine W.a8 ?_))
 refine W.bs l1In_run (W.bB rfl (W.ifF ?_ ?_))
 ·rw [inB_iff.2 ⟨by omega, by omega⟩]; decide
 refine W.ifT ⟨rfl, by omega, by omega, by omega⟩ ?_
 ((try simp only [n1, n2, n3, n4, n5, n6] at d); (with_reducible repeat first | refine W.a1 d ?_ | refine W.a2 ?_ | refine W.a3 ?_ | refine W.bo ?_ | refine W.a5 d fun hw d lw kw => ?_ | refine W.a6 d ?_ | refine W.a7 ?_ | refine W.a8 ?_); (refine W.nD d fun h2 d _ kh2 => ?_); (with_reducible repeat first | refine W.a1 d ?_ | refine W.a2 ?_ | refine W.a3 ?_ | refine W.bo ?_ | refine W.a5 d fun hw d lw kw => ?_ | refine W.a6 d ?_ | refine W.a7 ?_ | refine W.a8 ?_); (refine W.nD d fun h3 d _ kh3 => ?_); (with_reducible repeat first | refine W.a1 d ?_ | refine W.a2 ?_ | refine W.a3 ?_ | refine W.bo ?_ | refine W.a5 d fun hw d lw kw => ?_ | refine W.a6 d ?_ | refine W.a7 ?_ | refine W.a8 ?_))
 rw [Int.toNat_natCast, rep_ivs] at d
 rw [Int.toNat_natCast]
 have d := d.asW (l := List.replicate n 0) (Del.at (i := 1) rfl)
 simp only [n5, n6] at d
 obtain ⟨h4, e4, d⟩ := specLay_run (base := base) (u := false) (p := 0) (n := n - 3) (L := n) (by simp) (by omega) (by omega) d
 rw [w64i (n := (n : Int) - 3) (by omega) (by omega), show (n : Int) - 3 = ((n - 3 : Nat) : Int) from by omega]
 refine W.bs e4 (W.bs rfl ?_)
 ((try simp only [n1, n2, n3, n4, n5, n6] at d); (with_reducible repeat first | refine W.a1 d ?_ | refine W.a2 ?_ | refine W.a3 ?_ | refine W.bo ?_ | refine W.a5 d fun hw d lw kw => ?_ | refine W.a6 d ?_ | refine W.a7 ?_ | refine W.a8 ?_))
 exact W.ret ⟨_, rfl, d.takeD 0⟩
end Go.Proofs.Ytjmkbglnjklbcaa.Am
set_option linter.unusedSimpArgs false
set_option linter.unusedVariables false
namespace Go.Proofs.Ytjmkbglnjklbcaa.Am
open Go Go.RowKit
end Go.Proofs.Ytjmkbglnjklbcaa.Am
set_option linter.unusedSimpArgs false
set_option linter.unusedVariables false
namespace Go.Proofs.Ytjmkbglnjklbcaa.Am
open Go Go.RowKit
end Go.Proofs.Ytjmkbglnjklbcaa.Am
set_option linter.unusedSimpArgs false
set_option linter.unusedVariables false
namespace Go.Proofs.Ytjmkbglnjklbcaa.Am
open Go Go.RowKit
end Go.Proofs.Ytjmkbglnjklbcaa.Am
set_option linter.unusedSimpArgs false
set_option linter.unusedVariables false
namespace Go.Proofs.Ytjmkbglnjklbcaa.Am
open Go Go.RowKit
theorem Hs.callR {base : Nat} {V : Fp} {h0 h h' : AH} {D D' : Ds} {R R' : List Rs} (d : Hs base V h0 h D R) (z : Hs base NoB h h' D' R') (hm : ∀ r ∈ R', r.mu = true) : Hs base V h0 h' D (R ++ R') := by
 have d' := d.kN z.kb
 have hz : ∀ r ∈ R', ∀ b, r.S b → h.length ≤ b ∧ b < h'.length := fun r hr b hb => by
  obtain ⟨_, _, x3, x4, _⟩ := z.res r hr
  exact ⟨(x4 (hm r hr) b hb).resolve_left fun h => h, x3 b hb⟩
 refine ⟨d'.ge, d'.kb, d'.own, d'.nd, fun r hr => ?_, ?_⟩
 ·rcases List.mem_append.1 hr with hr | hr
  ·exact d'.res r hr
  ·obtain ⟨x1, x2, x3, x4, _⟩ := z.res r hr
   refine ⟨x1, x2, x3, fun _ b hb => .inr ?_, fun x hx hS => ?_⟩
   ·have := (hz r hr b hb).1
    have := d.kb.1
    omega
   ·have := ((d.own x hx).1.lt (blk_at0.2 rfl)).2
    have := (hz r hr _ hS).1
    omega
 ·rw [List.pairwise_append]
  refine ⟨d'.dj, z.dj, fun r hr s hs e b h1 h2 => ?_⟩
  have := (d.res r hr).2.2.1 b h1
  have := (hz s hs b h2).1
  omega
end Go.Proofs.Ytjmkbglnjklbcaa.Am
set_option linter.unusedSimpArgs false
set_option linter.unusedVariables false
namespace Go.Proofs.Ytjmkbglnjklbcaa.Am
open Go Go.RowKit
def ArI (Z : List Int) : Prop := 12 ≤ Z.length ∧ Z.length ≤ 80 ∧ AuOk Z ∧ WB Z
theorem WB.set {Z : List Int} {i : Nat} {v : Int} (h : WB Z) (hv : 0 ≤ v ∧ v ≤ 2000000) : WB (Z.set i v) := fun w hw => by
 rcases List.mem_or_eq_of_mem_set hw with hw | rfl
 ·exact h w hw
 ·exact hv
theorem Hs.pk35 {base : Nat} {V : Fp} {h0 h : AH} {D : Ds} {x y z c e : Rs} (d : Hs base V h0 h D [x, y, z, c, e]) : Hs base V h0 h D [x, y, e] := d.pk5
theorem draw2_loop {base cb bR bA L : Nat} {V : Fp} {hX h0 : AH} : ∀ (i : Nat) (h : AH) (a : Option Addr) (Z : List Int), i ≤ 100 → Z.length = L → ArI Z → Hs base V h0 h [(bA, 91, [.slice a L L]), (bR, 91, [.slice none 0 0])] [rArg base hX, rCur base cb hX, rW base a Z] →
  Wp (loopL (B117_0 base) [some (.pointer (at0 cb)), some (.pointer (at0 bR)), some (.pointer (at0 bA)), some (.int .i64 (i : Int))] h) fun o => ∃ a' Z', o.1 = 2 ∧ o.2.1 = [some (.pointer (at0 bR)), some (.pointer (at0 bA))] ∧ Z'.length = L ∧ ArI Z' ∧ Hs base V h0 o.2.2 [(bA, 91, [.slice a' L L]), (bR, 91, [.slice none 0 0])] [rArg base hX, rCur base cb hX, rW base a' Z'] := by
 intro i
 induction i with
 | zero =>
  intro h a Z hi hL hI d
  suffices w1 : Wp (B117_0 base [some (.pointer (at0 cb)), some (.pointer (at0 bR)), some (.pointer (at0 bA)), some (.int .i64 ((0 : Nat) : Int))] h) fun o => o = (2, [some (.pointer (at0 bR)), some (.pointer (at0 bA))], h) by
   obtain ⟨o, e, rfl⟩ := w1
   exact ⟨_, loop_off (by decide) e, a, Z, rfl, rfl, hL, hI, d⟩
  rw [B117_0_eq]
  exact W.ifF (by decide) (W.ret rfl)
 | succ i ih =>
  intro h a Z hi hL hI d
  obtain ⟨i1, i2, ha, hwb⟩ := hI
  have hI : ArI Z := ⟨i1, i2, ha, hwb⟩
  have ha' := ha
  obtain ⟨bs, hc, hf⟩ := ha'
  have hcn := hc.cnt
  have hul := upl_len bs 0
  suffices w1 : Wp (B117_0 base [some (.pointer (at0 cb)), some (.pointer (at0 bR)), some (.pointer (at0 bA)), some (.int .i64 ((i + 1 : Nat) : Int))] h) fun o => ∃ a' Z', o.1 = 0 ∧ o.2.1 = [some (.pointer (at0 cb)), some (.pointer (at0 bR)), some (.pointer (at0 bA)), some (.int .i64 (i : Int))] ∧ Z'.length = L ∧ ArI Z' ∧ Hs base V h0 o.2.2 [(bA, 91, [.slice a' L L]), (bR, 91, [.slice none 0 0])] [rArg base hX, rCur base cb hX, rW base a' Z'] by
   obtain ⟨⟨o1, o2, h'⟩, e, a', Z', y1, y2, y3, y4, d'⟩ := w1
   simp only at y1 y2 d'
   subst y1; subst y2
   obtain ⟨o, eo, q⟩ := ih h' a' Z' (by omega) y3 y4 d'
   exact ⟨o, loop_on e eo, q⟩
  rw [B117_0_eq]
  refine W.ifT (decide_eq_true (by omega)) ?_
  refine W.joinP (fun q => ∃ a' Z', q.1 = [some (.pointer (at0 cb)), some (.pointer (at0 bR)), some (.pointer (at0 bA)), some (.int .i64 ((i + 1 : Nat) : Int))] ∧ Z'.length = L ∧ ArI Z' ∧ Hs base V h0 q.2 [(bA, 91, [.slice a' L L]), (bR, 91, [.slice none 0 0])] [rArg base hX, rCur base cb hX, rW base a' Z']) ?_ ?_
  ·((try simp only [n1, n2, n3, n4, n5, n6] at d); (with_reducible repeat first | refine W.a1 d ?_ | refine W.a2 ?_ | refine W.a3 ?_ | refine W.bo ?_ | refine W.a5 d fun hw d lw kw => ?_ | refine W.a6 d ?_ | refine W.a7 ?_ | refine W.a8 ?_))
   obtain ⟨l, h1, e1, z⟩ := specUsed_run (base := base) h a Z bs (Own.sl (d.rs (i := 2) rfl)) (d.rlt (i := 2) rfl) (by omega) hc d.ge
   rw [hL] at e1
   refine W.bs e1 ?_
   have d := d.callR z (by simp)
   ((try simp only [n1, n2, n3, n4, n5, n6] at d); (with_reducible repeat first | refine W.a1 d ?_ | refine W.a2 ?_ | refine W.a3 ?_ | refine W.bo ?_ | refine W.a5 d fun hw d lw kw => ?_ | refine W.a6 d ?_ | refine W.a7 ?_ | refine W.a8 ?_))
   refine W.joinP (fun q => ∃ x : Bool, q.1 = [some (.pointer (at0 cb)), some (.pointer (at0 bR)), some (.pointer (at0 bA)), some (.int .i64 ((i + 1 : Nat) : Int)), some (.slice l (upl 0 bs).length (upl 0 bs).length), some (.bool x)] ∧ (x = true → 0 < (upl 0 bs).length) ∧ Hs base V h0 q.2 [(bA, 91, [.slice a L L]), (bR, 91, [.slice none 0 0])] [rArg base hX, rCur base cb hX, rW base a Z, rW base l (upl 0 bs)]) ?_ ?_
   ·refine W.ite (fun c => ?_) (fun c => ?_)
    ·have c := of_decide_eq_true c
     obtain ⟨b, h2, e2, d, _⟩ := d.once (n := 3) (by omega)
     refine W.bs e2 ?_
     ((try simp only [n1, n2, n3, n4, n5, n6] at d); (with_reducible repeat first | refine W.a1 d ?_ | refine W.a2 ?_ | refine W.a3 ?_ | refine W.bo ?_ | refine W.a5 d fun hw d lw kw => ?_ | refine W.a6 d ?_ | refine W.a7 ?_ | refine W.a8 ?_))
     exact W.inl ⟨b, rfl, fun _ => by omega, d⟩
    ·exact W.inl ⟨false, rfl, fun h => (nomatch h), d⟩
   rintro ⟨q1, h2⟩ ⟨x, y1, hx, d⟩
   simp only at y1 d
   subst y1
   ((try simp only [n1, n2, n3, n4, n5, n6] at d); (with_reducible repeat first | refine W.a1 d ?_ | refine W.a2 ?_ | refine W.a3 ?_ | refine W.bo ?_ | refine W.a5 d fun hw d lw kw => ?_ | refine W.a6 d ?_ | refine W.a7 ?_ | refine W.a8 ?_))
   dsimp only
   refine W.ite (fun cx => ?_) (fun cx => ?_)
   ·have hx := hx cx
    ((try simp only [n1, n2, n3, n4, n5, n6] at d); (with_reducible repeat first | refine W.a1 d ?_ | refine W.a2 ?_ | refine W.a3 ?_ | refine W.bo ?_ | refine W.a5 d fun hw d lw kw => ?_ | refine W.a6 d ?_ | refine W.a7 ?_ | refine W.a8 ?_))
    obtain ⟨zi, h3, e3, z0, z1, z2, d, k3⟩ := d.below (n := ((upl 0 bs).length : Int)) (by omega)
    have z1 := z1 (by omega)
    refine W.bs e3 ?_
    ((try simp only [n1, n2, n3, n4, n5, n6] at d); (with_reducible repeat first | refine W.a1 d ?_ | refine W.a2 ?_ | refine W.a3 ?_ | refine W.bo ?_ | refine W.a5 d fun hw d lw kw => ?_ | refine W.a6 d ?_ | refine W.a7 ?_ | refine W.a8 ?_))
    obtain ⟨zn, rfl⟩ : ∃ zn : Nat, zi = (zn : Int) := ⟨zi.toNat, by omega⟩
    obtain ⟨ad, v, rfl, hv, g⟩ := rdZ (Own.sl (d.rs (i := 3) rfl) : Sl _ l (iv .i64 (upl 0 bs))) (j := zn) (by omega)
    refine W.bs rfl (W.bI (by rw [Int.toNat_natCast, Nat.mul_one]; exact g) ?_)
    obtain ⟨a', h4, Z', code, e4, z, zl, za, zw⟩ := specRel_run (base := base) _ a Z v (Own.sl (d.rs (i := 2) rfl)) (d.rlt (i := 2) rfl) (by omega) ha hwb d.ge
    rw [hL] at e4
    refine W.bs e4 ?_
    have d := d.callR z (by simp)
    ((try simp only [n1, n2, n3, n4, n5, n6] at d); (with_reducible repeat first | refine W.a1 d ?_ | refine W.a2 ?_ | refine W.a3 ?_ | refine W.bo ?_ | refine W.a5 d fun hw d lw kw => ?_ | refine W.a6 d ?_ | refine W.a7 ?_ | refine W.a8 ?_))
    have d := d.pk35
    exact W.inl ⟨a', Z', rfl, by omega, ⟨by omega, by omega, za, zw⟩, d⟩
   ·((try simp only [n1, n2, n3, n4, n5, n6] at d); (with_reducible repeat first | refine W.a1 d ?_ | refine W.a2 ?_ | refine W.a3 ?_ | refine W.bo ?_ | refine W.a5 d fun hw d lw kw => ?_ | refine W.a6 d ?_ | refine W.a7 ?_ | refine W.a8 ?_); (refine W.nD d fun h3 d _ kh3 => ?_); (with_reducible repeat first | refine W.a1 d ?_ | refine W.a2 ?_ | refine W.a3 ?_ | refine W.bo ?_ | refine W.a5 d fun hw d lw kw => ?_ | refine W.a6 d ?_ | refine W.a7 ?_ | refine W.a8 ?_))
    obtain ⟨v, h4, e4, hv, d, _⟩ := d.pick (b := List.length h2) (zs := [1, 2, 3, 5, 9]) (.head _) (by simp) (by simp)
    refine W.bs e4 ?_
    ((try simp only [n1, n2, n3, n4, n5, n6] at d); (with_reducible repeat first | refine W.a1 d ?_ | refine W.a2 ?_ | refine W.a3 ?_ | refine W.bo ?_ | refine W.a5 d fun hw d lw kw => ?_ | refine W.a6 d ?_ | refine W.a7 ?_ | refine W.a8 ?_))
    have hv : 1 ≤ v ∧ v ≤ 9 := by simp at hv; omega
    obtain ⟨m, rfl⟩ : ∃ m : Nat, v = (m : Int) := ⟨v.toNat, by omega⟩
    obtain ⟨a', h5, Z', pos, code, e5, z, hS⟩ := specAlc_run (base := base) _ a Z m (Own.sl (d.rs (i := 2) rfl)) (d.rlt (i := 2) rfl) (by omega) (by omega) (by omega) d.ge
    rw [hL] at e5
    refine W.bs e5 ?_
    have d := d.callR z (by simp)
    ((try simp only [n1, n2, n3, n4, n5, n6] at d); (with_reducible repeat first | refine W.a1 d ?_ | refine W.a2 ?_ | refine W.a3 ?_ | refine W.bo ?_ | refine W.a5 d fun hw d lw kw => ?_ | refine W.a6 d ?_ | refine W.a7 ?_ | refine W.a8 ?_); (refine W.nD d fun h6 d _ kh6 => ?_); (with_reducible repeat first | refine W.a1 d ?_ | refine W.a2 ?_ | refine W.a3 ?_ | refine W.bo ?_ | refine W.a5 d fun hw d lw kw => ?_ | refine W.a6 d ?_ | refine W.a7 ?_ | refine W.a8 ?_))
    rcases hS with ⟨hn, _⟩ | ⟨bs', hc', hf', hS⟩
    ·exact absurd ha hn
    rcases hS with ⟨rfl, rfl, _⟩ | ⟨rfl, pre, k, post, eb, hmk, _, rfl, rfl⟩
    ·refine W.ifF (by decide) ?_
     exact W.inl ⟨a, Z', rfl, hL, hI, (d.tl.tl).takeR 3⟩
    ·refine W.ifT (by decide) ?_
     ((try simp only [n1, n2, n3, n4, n5, n6] at d); (with_reducible repeat first | refine W.a1 d ?_ | refine W.a2 ?_ | refine W.a3 ?_ | refine W.bo ?_ | refine W.a5 d fun hw d lw kw => ?_ | refine W.a6 d ?_ | refine W.a7 ?_ | refine W.a8 ?_))
     obtain ⟨zv, h7, e7, z0, _, z2, d, _⟩ := d.below (n := 50) (by omega)
     refine W.bs e7 ?_
     ((try simp only [n1, n2, n3, n4, n5, n6] at d); (with_reducible repeat first | refine W.a1 d ?_ | refine W.a2 ?_ | refine W.a3 ?_ | refine W.bo ?_ | refine W.a5 d fun hw d lw kw => ?_ | refine W.a6 d ?_ | refine W.a7 ?_ | refine W.a8 ?_))
     subst eb
     obtain ⟨t1, post', t2, t3, t4, t5, t6, t7, _⟩ := tk_ok hc' hf' (by omega) hmk
     have hl' := t2.len
     rw [blen_app] at hl'
     simp only [blen] at hl'
     rw [w64i (n := (blen pre : Int) + 2) (by omega) (by omega)]
     refine W.ifT ⟨by omega, by omega⟩ ?_
     obtain ⟨ad, h8, ea, ew, d, _⟩ := d.setW (i := 4) (j := blen pre + 2 + 0) (v := zv) rfl (by omega)
     subst ea
     refine W.bs rfl (W.bs (by rw [show Int.toNat ((blen pre : Int) + 2) * 1 = blen pre + 2 + 0 from by omega]; exact ew) ?_)
     ((try simp only [n1, n2, n3, n4, n5, n6] at d); (with_reducible repeat first | refine W.a1 d ?_ | refine W.a2 ?_ | refine W.a3 ?_ | refine W.bo ?_ | refine W.a5 d fun hw d lw kw => ?_ | refine W.a6 d ?_ | refine W.a7 ?_ | refine W.a8 ?_))
     have hk4 : k ≤ 4000 := by
      rw [ChS.app] at hc'
      have := hc'.2.1.2.1
      omega
     have hw := wr_ok (v := zv) (i := 0) (Z := tkW Z (blen pre) k m) (by rw [t1]; exact t2) (by omega)
     refine W.inl ⟨some ad, _, rfl, by rw [List.length_set, t1]; exact hL, ⟨by rw [List.length_set, t1]; omega, by rw [List.length_set, t1]; omega, ⟨_, by rw [List.length_set]; exact hw, t3⟩, (hwb.tk hk4).set ⟨z0, by omega⟩⟩, (d.tl.tl).pk35⟩
  rintro ⟨q1, q2⟩ ⟨a', Z', y1, y2, y3, d⟩
  simp only at y1 d
  subst y1
  ((try simp only [n1, n2, n3, n4, n5, n6] at d); (with_reducible repeat first | refine W.a1 d ?_ | refine W.a2 ?_ | refine W.a3 ?_ | refine W.bo ?_ | refine W.a5 d fun hw d lw kw => ?_ | refine W.a6 d ?_ | refine W.a7 ?_ | refine W.a8 ?_))
  dsimp only
  rw [w64i (n := ((i + 1 : Nat) : Int) - 1) (by omega) (by omega), show ((i + 1 : Nat) : Int) - 1 = (i : Int) from by omega]
  exact W.ret ⟨a', Z', rfl, rfl, y2, y3, d⟩
end Go.Proofs.Ytjmkbglnjklbcaa.Am
set_option linter.unusedSimpArgs false
set_option linter.unusedVariables false
namespace Go.Proofs.Ytjmkbglnjklbcaa.Am
open Go Go.RowKit
theorem arNew_I {n : Nat} (hn : n = 40 ∨ n = 20 ∨ n = 80 ∨ n = 12) : (layW (List.replicate n 0) 0 (n - 3) false).length = n ∧ ArI (layW (List.replicate n 0) 0 (n - 3) false) := by
 have hl : (layW (List.replicate n 0) 0 (n - 3) false).length = n := by rw [layW_len (by simp; omega)]; simp
 refine ⟨hl, by omega, by omega, ⟨[(n - 3, false)], ⟨layW_ok (by omega) (by simp; omega), ?_⟩, rfl⟩, WB.lay (fun w hw => ?_) (by omega)⟩
 ·simp only [ChS]
  omega
 ·rw [List.mem_replicate] at hw; omega
theorem imC {base cb : Nat} {hX : AH} {z : Rs} (hz : z.mu = true) {R1 : List Rs} : ∀ r ∈ [rArg base hX, rCur base cb hX, z], r.mu = false → ∃ r0 ∈ rArg base hX :: R1, r0.mu = false ∧ r0.S = r.S := by
 intro r hr hm
 simp only [List.mem_cons, List.not_mem_nil, or_false] at hr
 rcases hr with rfl | rfl | rfl
 ·exact ⟨_, .head _, rfl, rfl⟩
 ·cases hm
 ·rw [hz] at hm; cases hm
theorem draw2_run {base cb : Nat} {V : Fp} {hX h0 h : AH} {D : Ds} (d : Hs base V h0 h D [rArg base hX, rCur base cb hX]) :
  Wp (run (Et base) 117 [.pointer (at0 cb)] h) fun o => ∃ a' Z', o.1 = .agg #[.slice a' (List.length Z') (List.length Z')] ∧ ArI Z' ∧ Hs base V h0 o.2 D [rArg base hX, rCur base cb hX, rW base a' Z'] := by
 refine W.of (fun r hx => Am.r117 hx) ?_
 ((try simp only [n1, n2, n3, n4, n5, n6] at d); (with_reducible repeat first | refine W.a1 d ?_ | refine W.a2 ?_ | refine W.a3 ?_ | refine W.bo ?_ | refine W.a5 d fun hw d lw kw => ?_ | refine W.a6 d ?_ | refine W.a7 ?_ | refine W.a8 ?_); (refine W.nD d fun h1 d _ kh1 => ?_); (with_reducible repeat first | refine W.a1 d ?_ | refine W.a2 ?_ | refine W.a3 ?_ | refine W.bo ?_ | refine W.a5 d fun hw d lw kw => ?_ | refine W.a6 d ?_ | refine W.a7 ?_ | refine W.a8 ?_); (refine W.nD d fun h2 d _ kh2 => ?_); (with_reducible repeat first | refine W.a1 d ?_ | refine W.a2 ?_ | refine W.a3 ?_ | refine W.bo ?_ | refine W.a5 d fun hw d lw kw => ?_ | refine W.a6 d ?_ | refine W.a7 ?_ | refine W.a8 ?_))
 obtain ⟨v, h3, e3, hv, d, _⟩ := d.pick (b := List.length h1) (zs := [40, 20, 80, 12]) (.head _) (by simp) (by simp)
 refine W.bs e3 ?_
 ((try simp only [n1, n2, n3, n4, n5, n6] at d); (with_reducible repeat first | refine W.a1 d ?_ | refine W.a2 ?_ | refine W.a3 ?_ | refine W.bo ?_ | refine W.a5 d fun hw d lw kw => ?_ | refine W.a6 d ?_ | refine W.a7 ?_ | refine W.a8 ?_))
 have hv : v = 40 ∨ v = 20 ∨ v = 80 ∨ v = 12 := by simpa using hv
 obtain ⟨n, rfl⟩ : ∃ n : Nat, v = (n : Int) := ⟨v.toNat, by omega⟩
 have hn : n = 40 ∨ n = 20 ∨ n = 80 ∨ n = 12 := by omega
 obtain ⟨a', h4, e4, z⟩ := arNew_run (base := base) (n := n) (h := h3) (by omega) d.ge
 obtain ⟨hl, hI⟩ := arNew_I hn
 refine W.bs e4 ?_
 have d := d.callR z (by simp)
 simp only [List.cons_append, List.nil_append] at d
 ((try simp only [n1, n2, n3, n4, n5, n6] at d); (with_reducible repeat first | refine W.a1 d ?_ | refine W.a2 ?_ | refine W.a3 ?_ | refine W.bo ?_ | refine W.a5 d fun hw d lw kw => ?_ | refine W.a6 d ?_ | refine W.a7 ?_ | refine W.a8 ?_); (refine W.nD d fun h5 d _ kh5 => ?_); (with_reducible repeat first | refine W.a1 d ?_ | refine W.a2 ?_ | refine W.a3 ?_ | refine W.bo ?_ | refine W.a5 d fun hw d lw kw => ?_ | refine W.a6 d ?_ | refine W.a7 ?_ | refine W.a8 ?_))
 obtain ⟨i, h6, e6, i0, i1, i2, d, _⟩ := d.below (n := 10) (by omega)
 refine W.bs e6 ?_
 ((try simp only [n1, n2, n3, n4, n5, n6] at d); (with_reducible repeat first | refine W.a1 d ?_ | refine W.a2 ?_ | refine W.a3 ?_ | refine W.bo ?_ | refine W.a5 d fun hw d lw kw => ?_ | refine W.a6 d ?_ | refine W.a7 ?_ | refine W.a8 ?_))
 obtain ⟨i, rfl⟩ : ∃ k : Nat, i = (k : Int) := ⟨i.toNat, by omega⟩
 generalize layW (List.replicate n 0) 0 (n - 3) false = Z at d hl hI
 have d := (d.front (Del.at (i := 2) rfl)).front (Del.at (i := 1) rfl)
 simp only [n5, n6] at d
 have d1 := Hs.part (D1 := [_, _]) (R1 := [_, _, _]) (R2 := []) d
 refine W.wb (draw2_loop (base := base) (L := n) i h6 a' Z (by omega) hl hI d1) ?_
 rintro ⟨o1, o2, h7⟩ ⟨a2, Z2, y1, y2, y3, y4, d2⟩
 simp only at y1 y2 d2
 subst y1; subst y2
 have d := Hs.back (D1 := [_, _]) (R1 := [_, _, _]) (R2 := []) d d2 (imC rfl)
 clear d1 d2
 refine W.ifT rfl ?_
 ((try simp only [n1, n2, n3, n4, n5, n6] at d); (with_reducible repeat first | refine W.a1 d ?_ | refine W.a2 ?_ | refine W.a3 ?_ | refine W.bo ?_ | refine W.a5 d fun hw d lw kw => ?_ | refine W.a6 d ?_ | refine W.a7 ?_ | refine W.a8 ?_))
 subst y3
 exact W.ret ⟨a2, Z2, rfl, y4, d.tl.tl.tl⟩
theorem drawArena_run {base : Nat} {h : AH} {a : Option Addr} {zs : List Int} (s : Sl h a (iv .u8 zs)) (hz : zs = [] ∨ ∀ b, blk a b → b < base) (hl : zs.length ≤ 9223372036854775806) (hb : base ≤ h.length) :
  ∃ a' Z' h', run (Et base) 57 [.slice a zs.length zs.length] h = some (.agg #[.slice a' (List.length Z') (List.length Z')], h') ∧ ArI Z' ∧ Hs base NoB h h' [] [rW base a' Z'] := by
 suffices w : Wp (run (Et base) 57 [.slice a zs.length zs.length] h) fun o => ∃ a' Z', o.1 = .agg #[.slice a' (List.length Z') (List.length Z')] ∧ ArI Z' ∧ Hs base NoB h o.2 [] [rW base a' Z'] by
  obtain ⟨⟨o1, o2⟩, e, a', Z', y1, y2⟩ := w
  simp only at y1 y2
  subst y1
  exact ⟨a', Z', o2, e, y2⟩
 have d := Hs.start hb
 refine W.of (fun r hx => Am.r57 hx) ?_
 ((try simp only [n1, n2, n3, n4, n5, n6] at d); (with_reducible repeat first | refine W.a1 d ?_ | refine W.a2 ?_ | refine W.a3 ?_ | refine W.bo ?_ | refine W.a5 d fun hw d lw kw => ?_ | refine W.a6 d ?_ | refine W.a7 ?_ | refine W.a8 ?_); (refine W.nD d fun h1 d _ kh1 => ?_); (with_reducible repeat first | refine W.a1 d ?_ | refine W.a2 ?_ | refine W.a3 ?_ | refine W.bo ?_ | refine W.a5 d fun hw d lw kw => ?_ | refine W.a6 d ?_ | refine W.a7 ?_ | refine W.a8 ?_))
 obtain ⟨h2, e2, x2, k2, l2⟩ := l1New_run (s.keepN d.kb) hz hl d.ge
 refine W.bs e2 ?_
 have d := d.newD x2 k2
 ((try simp only [n1, n2, n3, n4, n5, n6] at d); (with_reducible repeat first | refine W.a1 d ?_ | refine W.a2 ?_ | refine W.a3 ?_ | refine W.bo ?_ | refine W.a5 d fun hw d lw kw => ?_ | refine W.a6 d ?_ | refine W.a7 ?_ | refine W.a8 ?_))
 refine W.wb (draw2_run (base := base) d) ?_
 rintro ⟨u, h3⟩ ⟨a', Z', y1, y2, d⟩
 simp only at y1 d
 subst y1
 ((try simp only [n1, n2, n3, n4, n5, n6] at d); (with_reducible repeat first | refine W.a1 d ?_ | refine W.a2 ?_ | refine W.a3 ?_ | refine W.bo ?_ | refine W.a5 d fun hw d lw kw => ?_ | refine W.a6 d ?_ | refine W.a7 ?_ | refine W.a8 ?_))
 exact W.ret ⟨a', Z', rfl, y2, (d.takeD 0).frontR (Del.at (i := 2) rfl) |>.takeR 1⟩
end Go.Proofs.Ytjmkbglnjklbcaa.Am
set_option linter.unusedSimpArgs false
set_option linter.unusedVariables false
namespace Go.Proofs.Ytjmkbglnjklbcaa.Am
open Go Go.RowKit
end Go.Proofs.Ytjmkbglnjklbcaa.Am
set_option linter.unusedSimpArgs false
set_option linter.unusedVariables false
namespace Go.Proofs.Ytjmkbglnjklbcaa.Am
open Go Go.RowKit
theorem arWordAt_run {base : Nat} {h : AH} {a : Option Addr} {Z : List Int} {p n i : Nat} (hs : Sl h a (iv .i64 Z)) (hlt : ∀ b, blk a b → b < h.length) (hZ : Z.length ≤ 4000) (hk : bOk Z p n true) (hi : i < n) (hb : base ≤ h.length) :
  ∃ h', run (Et base) 130 [.agg #[.slice a Z.length Z.length], .int .i64 (p : Int), .int .i64 (i : Int)] h = some (.tuple #[.int .i64 ((p + 2 + i : Nat) : Int), .bool true], h') ∧ KB NoB h h' := by
 have d := Hs.inpZ hs hlt hb
 have hl := hk.2.1
 suffices W : Wp (run (Et base) 130 [.agg #[.slice a Z.length Z.length], .int .i64 (p : Int), .int .i64 (i : Int)] h) fun o => o.1 = .tuple #[.int .i64 ((p + 2 + i : Nat) : Int), .bool true] ∧ KB NoB h o.2 by
  obtain ⟨⟨o1, o2⟩, e, y1, y2⟩ := W
  simp only at y1 y2
  subst y1
  exact ⟨o2, e, y2⟩
 refine W.of (fun r hx => Am.r130 hx) ?_
 ((try simp only [n1, n2, n3, n4, n5, n6] at d); (with_reducible repeat first | refine W.a1 d ?_ | refine W.a2 ?_ | refine W.a3 ?_ | refine W.bo ?_ | refine W.a5 d fun hw d lw kw => ?_ | refine W.a6 d ?_ | refine W.a7 ?_ | refine W.a8 ?_); (refine W.nD d fun h1 d _ kh1 => ?_); (with_reducible repeat first | refine W.a1 d ?_ | refine W.a2 ?_ | refine W.a3 ?_ | refine W.bo ?_ | refine W.a5 d fun hw d lw kw => ?_ | refine W.a6 d ?_ | refine W.a7 ?_ | refine W.a8 ?_))
 obtain ⟨h2, e2, k2⟩ := BkR.at (@implBk_run base) (d.rs (i := 0) rfl) hZ d.ge hk
 refine W.bs e2 ?_
 have d := d.kN k2
 ((try simp only [n1, n2, n3, n4, n5, n6] at d); (with_reducible repeat first | refine W.a1 d ?_ | refine W.a2 ?_ | refine W.a3 ?_ | refine W.bo ?_ | refine W.a5 d fun hw d lw kw => ?_ | refine W.a6 d ?_ | refine W.a7 ?_ | refine W.a8 ?_))
 dsimp only
 refine W.joinP (fun q => q = ([some (.int .i64 (p : Int)), some (.int .i64 (i : Int)), some (.bool false)], h2)) ?_ ?_
 ·refine W.ifF (by decide) (W.ifF (by decide) ?_)
  rw [w64i (n := (n : Int) - 1) (by omega) (by omega)]
  refine W.bs in_run (W.bB rfl ?_)
  rw [inB_iff.2 ⟨by omega, by omega⟩]
  exact W.inl rfl
 rintro q rfl
 ((try simp only [n1, n2, n3, n4, n5, n6] at d); (with_reducible repeat first | refine W.a1 d ?_ | refine W.a2 ?_ | refine W.a3 ?_ | refine W.bo ?_ | refine W.a5 d fun hw d lw kw => ?_ | refine W.a6 d ?_ | refine W.a7 ?_ | refine W.a8 ?_))
 dsimp only
 refine W.ifF (by decide) ?_
 rw [w64i (n := (p : Int) + 2) (by omega) (by omega), w64i (n := (p : Int) + 2 + i) (by omega) (by omega)]
 exact W.ret ⟨by rw [show (p : Int) + 2 + i = ((p + 2 + i : Nat) : Int) from by omega], d.kb⟩
theorem readWord_run {base : Nat} {h : AH} {a : Option Addr} {Z : List Int} {p n i : Nat} {v : Int} (hs : Sl h a (iv .i64 Z)) (hlt : ∀ b, blk a b → b < h.length) (hZ : Z.length ≤ 4000) (hk : bOk Z p n true) (hi : i < n) (hv : Z[p + 2 + i]? = some v) (hb : base ≤ h.length) :
  ∃ h', run (Et base) 63 [.agg #[.slice a Z.length Z.length], .int .i64 (p : Int), .int .i64 (i : Int)] h = some (.tuple #[.int .i64 v, .bool true], h') ∧ KB NoB h h' := by
 have d := Hs.inpZ hs hlt hb
 have hl := hk.2.1
 suffices W : Wp (run (Et base) 63 [.agg #[.slice a Z.length Z.length], .int .i64 (p : Int), .int .i64 (i : Int)] h) fun o => o.1 = .tuple #[.int .i64 v, .bool true] ∧ KB NoB h o.2 by
  obtain ⟨⟨o1, o2⟩, e, y1, y2⟩ := W
  simp only at y1 y2
  subst y1
  exact ⟨o2, e, y2⟩
 refine W.of (fun r hx => Am.r63 hx) ?_
 ((try simp only [n1, n2, n3, n4, n5, n6] at d); (with_reducible repeat first | refine W.a1 d ?_ | refine W.a2 ?_ | refine W.a3 ?_ | refine W.bo ?_ | refine W.a5 d fun hw d lw kw => ?_ | refine W.a6 d ?_ | refine W.a7 ?_ | refine W.a8 ?_); (refine W.nD d fun h1 d _ kh1 => ?_); (with_reducible repeat first | refine W.a1 d ?_ | refine W.a2 ?_ | refine W.a3 ?_ | refine W.bo ?_ | refine W.a5 d fun hw d lw kw => ?_ | refine W.a6 d ?_ | refine W.a7 ?_ | refine W.a8 ?_))
 obtain ⟨h2, e2, k2⟩ := arWordAt_run (base := base) (d.rs (i := 0) rfl) (d.rlt (i := 0) rfl) hZ hk hi d.ge
 refine W.bs e2 ?_
 have d := d.kN k2
 ((try simp only [n1, n2, n3, n4, n5, n6] at d); (with_reducible repeat first | refine W.a1 d ?_ | refine W.a2 ?_ | refine W.a3 ?_ | refine W.bo ?_ | refine W.a5 d fun hw d lw kw => ?_ | refine W.a6 d ?_ | refine W.a7 ?_ | refine W.a8 ?_))
 dsimp only
 refine W.ifF (by decide) ?_
 ((try simp only [n1, n2, n3, n4, n5, n6] at d); (with_reducible repeat first | refine W.a1 d ?_ | refine W.a2 ?_ | refine W.a3 ?_ | refine W.bo ?_ | refine W.a5 d fun hw d lw kw => ?_ | refine W.a6 d ?_ | refine W.a7 ?_ | refine W.a8 ?_))
 obtain ⟨ad, v', rfl, hv', g⟩ := rdZ (d.rs (i := 0) rfl : Sl h2 a (iv .i64 Z)) (j := p + 2 + i) (by omega)
 rw [hv] at hv'
 injection hv' with hv'
 subst hv'
 refine W.bs rfl (W.bI (by rw [Int.toNat_natCast, Nat.mul_one]; exact g) ?_)
 exact W.ret ⟨rfl, d.kb⟩
theorem writeWord_run {base : Nat} {h : AH} {a : Option Addr} {Z : List Int} {p n i : Nat} {v : Int} (hs : Sl h a (iv .i64 Z)) (hlt : ∀ b, blk a b → b < h.length) (hZ : Z.length ≤ 4000) (hk : bOk Z p n true) (hi : i < n) (hb : base ≤ h.length) :
  ∃ a' h', run (Et base) 62 [.agg #[.slice a Z.length Z.length], .int .i64 (p : Int), .int .i64 (i : Int), .int .i64 v] h = some (.tuple #[.agg #[.slice a' Z.length Z.length], .bool true], h') ∧ Hs base NoB h h' [] [rW base a' (Z.set (p + 2 + i) v)] := by
 have d := Hs.inpZ hs hlt hb
 have hl := hk.2.1
 suffices W : Wp (run (Et base) 62 [.agg #[.slice a Z.length Z.length], .int .i64 (p : Int), .int .i64 (i : Int), .int .i64 v] h) fun o => ∃ a', o.1 = .tuple #[.agg #[.slice a' Z.length Z.length], .bool true] ∧ Hs base NoB h o.2 [] [rW base a' (Z.set (p + 2 + i) v)] by
  obtain ⟨⟨o1, o2⟩, e, a', y1, y2⟩ := W
  simp only at y1 y2
  subst y1
  exact ⟨a', o2, e, y2⟩
 refine W.of (fun r hx => Am.r62 hx) ?_
 ((try simp only [n1, n2, n3, n4, n5, n6] at d); (with_reducible repeat first | refine W.a1 d ?_ | refine W.a2 ?_ | refine W.a3 ?_ | refine W.bo ?_ | refine W.a5 d fun hw d lw kw => ?_ | refine W.a6 d ?_ | refine W.a7 ?_ | refine W.a8 ?_); (refine W.nD d fun h1 d _ kh1 => ?_); (with_reducible repeat first | refine W.a1 d ?_ | refine W.a2 ?_ | refine W.a3 ?_ | refine W.bo ?_ | refine W.a5 d fun hw d lw kw => ?_ | refine W.a6 d ?_ | refine W.a7 ?_ | refine W.a8 ?_); (refine W.nD d fun h2 d _ kh2 => ?_); (with_reducible repeat first | refine W.a1 d ?_ | refine W.a2 ?_ | refine W.a3 ?_ | refine W.bo ?_ | refine W.a5 d fun hw d lw kw => ?_ | refine W.a6 d ?_ | refine W.a7 ?_ | refine W.a8 ?_))
 obtain ⟨ao, h3, e3, o3, k3, f3⟩ := implArC_run (base := base) _ a Z (d.rs (i := 0) rfl) (by omega) d.ge
 refine W.bs e3 ?_
 have d := d.call k3 (blk ao) (fun y => Own base 3 y ao (iv .i64 Z)) o3 (fun U y y' k hs x => x.keep k hs) (fun i hi => ⟨f3 i hi, (o3.lt hi).2⟩)
 simp only [List.cons_append, List.nil_append] at d
 ((try simp only [n1, n2, n3, n4, n5, n6] at d); (with_reducible repeat first | refine W.a1 d ?_ | refine W.a2 ?_ | refine W.a3 ?_ | refine W.bo ?_ | refine W.a5 d fun hw d lw kw => ?_ | refine W.a6 d ?_ | refine W.a7 ?_ | refine W.a8 ?_); (refine W.nD d fun h4 d _ kh4 => ?_); (with_reducible repeat first | refine W.a1 d ?_ | refine W.a2 ?_ | refine W.a3 ?_ | refine W.bo ?_ | refine W.a5 d fun hw d lw kw => ?_ | refine W.a6 d ?_ | refine W.a7 ?_ | refine W.a8 ?_))
 obtain ⟨h5, e5, k5⟩ := arWordAt_run (base := base) (d.rs (i := 0) rfl) (d.rlt (i := 0) rfl) hZ hk hi d.ge
 refine W.bs e5 ?_
 have d := d.kN k5
 ((try simp only [n1, n2, n3, n4, n5, n6] at d); (with_reducible repeat first | refine W.a1 d ?_ | refine W.a2 ?_ | refine W.a3 ?_ | refine W.bo ?_ | refine W.a5 d fun hw d lw kw => ?_ | refine W.a6 d ?_ | refine W.a7 ?_ | refine W.a8 ?_))
 dsimp only
 refine W.joinP (fun q => q.1 = [some (.pointer (at0 h1.length)), some (.pointer (at0 h3.length)), some (.bool true)] ∧ Hs base NoB h q.2 [(h3.length, 91, [.slice ao Z.length Z.length]), (h1.length, 91, [.slice none 0 0]), (h.length, 91, [.slice a Z.length Z.length])] [rSl (blk a) a Z, rW base ao (Z.set (p + 2 + i) v)]) ?_ ?_
 ·refine W.ifT rfl ?_
  ((try simp only [n1, n2, n3, n4, n5, n6] at d); (with_reducible repeat first | refine W.a1 d ?_ | refine W.a2 ?_ | refine W.a3 ?_ | refine W.bo ?_ | refine W.a5 d fun hw d lw kw => ?_ | refine W.a6 d ?_ | refine W.a7 ?_ | refine W.a8 ?_))
  obtain ⟨ad3, h9, ea, ew, d, _⟩ := d.setW (i := 1) (j := p + 2 + i) (v := v) rfl (by omega)
  subst ea
  refine W.bs rfl (W.bs (by rw [Int.toNat_natCast, Nat.mul_one]; exact ew) ?_)
  exact W.inl ⟨rfl, d⟩
 rintro ⟨q1, q2⟩ ⟨y1, d⟩
 simp only at y1 d
 subst y1
 ((try simp only [n1, n2, n3, n4, n5, n6] at d); (with_reducible repeat first | refine W.a1 d ?_ | refine W.a2 ?_ | refine W.a3 ?_ | refine W.bo ?_ | refine W.a5 d fun hw d lw kw => ?_ | refine W.a6 d ?_ | refine W.a7 ?_ | refine W.a8 ?_))
 exact W.ret ⟨ao, rfl, (d.takeD 0).frontR (Del.at (i := 1) rfl) |>.takeR 1⟩
theorem ChS.uniq {Z : List Int} (hZ : Z.length ≤ 4000) : ∀ {bs bs' : List (Nat × Bool)} {a e : Nat}, ChS Z a bs e → ChS Z a bs' e → bs = bs'
 | [], [], a, e, h, h' => rfl
 | [], c :: r, a, e, h, h' => by have := h'.len; simp only [ChS] at h; simp only [blen] at this; omega
 | b :: r, [], a, e, h, h' => by have := h.len; simp only [ChS] at h'; simp only [blen] at this; omega
 | b :: r, c :: r', a, e, h, h' => by
  obtain ⟨e1, e2⟩ := h.1.fun_ hZ h'.1
  have ed : b = c := by obtain ⟨c1, c2⟩ := b; obtain ⟨d1, d2⟩ := c; simp only at e1 e2; rw [e1, e2]
  subst ed
  rw [ChS.uniq hZ h.2 h'.2]
theorem dec2 {α : Type} {x y : α} (hne : x ≠ y) : ∀ {pre pre2 post post2 : List α}, pre ++ x :: post = pre2 ++ y :: post2 → (∃ mid, pre2 = pre ++ x :: mid ∧ post = mid ++ y :: post2) ∨ (∃ mid, pre = pre2 ++ y :: mid ∧ post2 = mid ++ x :: post)
 | [], [], post, post2, h => by simp only [List.nil_append, List.cons.injEq] at h; exact absurd h.1 hne
 | [], c :: r, post, post2, h => by
  simp only [List.nil_append, List.cons_append, List.cons.injEq] at h
  obtain ⟨rfl, h⟩ := h
  exact .inl ⟨r, rfl, h⟩
 | c :: r, [], post, post2, h => by
  simp only [List.nil_append, List.cons_append, List.cons.injEq] at h
  obtain ⟨rfl, h⟩ := h
  exact .inr ⟨r, rfl, h.symm⟩
 | c :: r, d :: r', post, post2, h => by
  simp only [List.cons_append, List.cons.injEq] at h
  obtain ⟨rfl, h⟩ := h
  rcases dec2 hne h with ⟨mid, e1, e2⟩ | ⟨mid, e1, e2⟩
  ·exact .inl ⟨mid, by rw [e1]; rfl, e2⟩
  ·exact .inr ⟨mid, by rw [e1]; rfl, e2⟩
theorem two_ok {Z Z1 Z2 : List Int} {bs : List (Nat × Bool)} {m m2 : Nat} {p q : Int} (hZ : Z.length ≤ 4000) (hc : ChS Z 0 bs Z.length) (hf : naf false bs = true) (hm : 1 ≤ m) (hm2 : 1 ≤ m2) (h1 : AlcS Z bs m Z1 p 0) (h2 : ∃ bs', ChS Z1 0 bs' Z1.length ∧ naf false bs' = true ∧ AlcS Z1 bs' m2 Z2 q 0) :
  ∃ (P Q n1 n2 : Nat), p = (P : Int) ∧ q = (Q : Int) ∧ Z1.length = Z.length ∧ Z2.length = Z.length ∧ bOk Z2 P n1 true ∧ bOk Z2 Q n2 true ∧ (P + n1 + 3 ≤ Q ∨ Q + n2 + 3 ≤ P) ∧ (∀ i, i < n2 → Z2[Q + 2 + i]? = some 0) ∧ ∀ i v, i < n1 → AuOk (Z2.set (P + 2 + i) v) := by
 rcases h1 with ⟨h, _⟩ | ⟨_, pre, k, post, eb, hmk, _, rfl, rfl⟩
 ·cases h
 subst eb
 obtain ⟨t1, post', t2, t3, t4, t5, t6, t7, _⟩ := tk_ok hc hf hm hmk
 obtain ⟨bs', c', f', h2⟩ := h2
 rw [t1] at c'
 have := ChS.uniq (by rw [t1]; exact hZ) t2 c'
 subst this
 rcases h2 with ⟨h, _⟩ | ⟨_, pre2, k2, post2, eb2, hmk2, _, rfl, rfl⟩
 ·cases h
 have c2 := t2
 have f2 := t3
 rw [eb2] at c2 f2
 generalize tkW Z (blen pre) k m = Z1 at t1 t2 t4 t5 c2 f2 c' ⊢
 rw [← t1] at c2 hZ
 obtain ⟨s1, post3, s2, s3, s4, s5, s6, s7, qq, eq3, _⟩ := tk_ok c2 f2 hm2 hmk2
 have l1 := c2.len
 have l2 := s2.len
 rw [blen_app] at l1 l2
 simp only [blen] at l1 l2
 rw [eq3, blen_app] at l2
 have okp : bOk Z1 (blen pre) (tkN k m) true := by
  have := t2
  rw [ChS.app] at this
  have := this.2.1
  rwa [Nat.zero_add] at this
 have okq : bOk (tkW Z1 (blen pre2) k2 m2) (blen pre2) (tkN k2 m2) true := by
  have := s2
  rw [ChS.app] at this
  have := this.2.1
  rwa [Nat.zero_add] at this
 have hl0 := t2.len
 rw [blen_app] at hl0
 simp only [blen] at hl0
 have hne : ((tkN k m, true) : Nat × Bool) ≠ (k2, false) := fun e => by injection e with _ e; cases e
 have hs2l : (tkW Z1 (blen pre2) k2 m2).length = Z1.length := s1
 rcases dec2 hne eb2 with ⟨mid, e1, e2⟩ | ⟨mid, e1, e2⟩
 ·have hp2 : blen pre2 = blen pre + (tkN k m + 3 + blen mid) := by rw [e1, blen_app]; rfl
  have hout : ∀ i, blen pre ≤ i → i < blen pre + tkN k m + 3 → (tkW Z1 (blen pre2) k2 m2)[i]? = Z1[i]? := fun i _ hi => s5 i (.inl (by omega))
  refine ⟨blen pre, blen pre2, tkN k m, tkN k2 m2, rfl, rfl, t1, by rw [hs2l, t1], okp.congr hs2l hout, okq, .inl (by omega), s4, fun i v hi => ?_⟩
  have ec : pre2 ++ (tkN k2 m2, true) :: post3 = pre ++ (tkN k m, true) :: (mid ++ (tkN k2 m2, true) :: post3) := by rw [e1]; simp
  rw [ec] at s2 s3
  have := wr_ok (Z := tkW Z1 (blen pre2) k2 m2) (v := v) (by rw [hs2l]; exact s2) hi
  exact ⟨_, by rw [List.length_set]; exact this, s3⟩
 ·have hp : blen pre = blen pre2 + (k2 + 3 + blen mid) := by rw [e1, blen_app]; rfl
  have hout : ∀ i, blen pre ≤ i → i < blen pre + tkN k m + 3 → (tkW Z1 (blen pre2) k2 m2)[i]? = Z1[i]? := fun i hi _ => s5 i (.inr (by omega))
  refine ⟨blen pre, blen pre2, tkN k m, tkN k2 m2, rfl, rfl, t1, by rw [hs2l, t1], okp.congr hs2l hout, okq, .inr (by omega), s4, fun i v hi => ?_⟩
  have ec : pre2 ++ (tkN k2 m2, true) :: post3 = (pre2 ++ (tkN k2 m2, true) :: (qq ++ mid)) ++ (tkN k m, true) :: post' := by rw [eq3, e2]; simp
  have hpb : blen (pre2 ++ (tkN k2 m2, true) :: (qq ++ mid)) = blen pre := by
   rw [blen_app]
   simp only [blen]
   rw [blen_app, hp]
   omega
  rw [ec] at s2 s3
  have := wr_ok (Z := tkW Z1 (blen pre2) k2 m2) (v := v) (by rw [hs2l]; exact s2) hi
  rw [hpb] at this
  exact ⟨_, by rw [List.length_set]; exact this, s3⟩
def atV (zs : List Int) (i : Nat) : Int := if i < zs.length then zs.getD i 0 else ((i : Int) * 31 + (zs.length : Int) * 7).tmod 256
theorem codeAtV_run {base : Nat} {h : AH} {a : Option Addr} {zs : List Int} {i : Nat} (s : Sl h a (iv .u8 zs)) (hz : ∀ z ∈ zs, 0 ≤ z ∧ z ≤ 255) (hl : zs.length ≤ 1048576) (hi : i ≤ 1000) :
  run (Et base) 59 [.slice a zs.length zs.length, .int .i64 (i : Int)] h = some (.int .i64 (atV zs i), h) ∧ 0 ≤ atV zs i ∧ atV zs i ≤ 255 := by
 unfold atV
 by_cases c : (i : Int) < ((zs.length : Nat) : Int)
 ·obtain ⟨ad, rfl, g⟩ := s.int (i := i) (by omega)
  have hb := hz zs[i] (List.getElem_mem (by omega))
  rw [if_pos (by omega), List.getD_eq_getElem?_getD, List.getElem?_eq_getElem (by omega), Option.getD_some]
  refine ⟨Am.r59 (ifT (decide_eq_true c) (ifT ⟨by omega, c⟩ (bs rfl ?_))), hb.1, hb.2⟩
  rw [Int.toNat_natCast, Nat.mul_one]
  refine bs g ?_
  rw [w64i (by omega) (by omega)]
 ·rw [if_neg (by omega)]
  have h1 := Int.tmod_nonneg 256 (show 0 ≤ (i : Int) * 31 + (zs.length : Int) * 7 by omega)
  have h2 := Int.tmod_lt_of_pos ((i : Int) * 31 + (zs.length : Int) * 7) (show (0 : Int) < 256 by decide)
  refine ⟨Am.r59 (ifF (by simpa using c) ?_), h1, by omega⟩
  rw [w64i (n := (i : Int) * 31) (by omega) (by omega), w64i (n := ((zs.length : Nat) : Int) * 7) (by omega) (by omega), w64i (by omega) (by omega)]
theorem apart_loop {base bz L n2 Q : Nat} {c1 c2 : Int} {okb : Bool} {V : Fp} {h0 : AH} {D : Ds} {R : List Rs} {a : Option Addr} {Z : List Int} (hL : Z.length = L) (hZ : L ≤ 4000) (hk : bOk Z Q n2 true) (hz : ∀ i, i < n2 → Z[Q + 2 + i]? = some 0) : ∀ (r i : Nat) (h : AH), i + r = n2 → Hs base V h0 h ((bz, 91, [.slice a L L]) :: D) (rW base a Z :: R) →
  Wp (loopL (B9_0 base) [some (.int .i64 c1), some (.int .i64 (Q : Int)), some (.int .i64 c2), some (.int .i64 (n2 : Int)), some (.pointer (at0 bz)), some (.bool okb), some (.int .i64 (i : Int))] h) fun o => o.1 = 2 ∧ o.2.1 = [some (.int .i64 c1), some (.int .i64 c2), some (.pointer (at0 bz)), some (.bool okb)] ∧ Hs base V h0 o.2.2 ((bz, 91, [.slice a L L]) :: D) (rW base a Z :: R) := by
 have hl := hk.2.1
 intro r
 induction r with
 | zero =>
  intro i h hi d
  suffices w1 : Wp (B9_0 base [some (.int .i64 c1), some (.int .i64 (Q : Int)), some (.int .i64 c2), some (.int .i64 (n2 : Int)), some (.pointer (at0 bz)), some (.bool okb), some (.int .i64 (i : Int))] h) fun o => o = (2, [some (.int .i64 c1), some (.int .i64 c2), some (.pointer (at0 bz)), some (.bool okb)], h) by
   obtain ⟨o, e, rfl⟩ := w1
   exact ⟨_, loop_off (by decide) e, rfl, rfl, d⟩
  rw [B9_0_eq]
  exact W.ifF (by simp; omega) (W.ret rfl)
 | succ r ih =>
  intro i h hi d
  obtain ⟨h1, e1, k1⟩ := readWord_run (base := base) (Own.sl (d.rs (i := 0) rfl) : Sl h a (iv .i64 Z)) (d.rlt (i := 0) rfl) (by omega) hk (i := i) (by omega) (hz i (by omega)) d.ge
  rw [hL] at e1
  suffices w1 : Wp (B9_0 base [some (.int .i64 c1), some (.int .i64 (Q : Int)), some (.int .i64 c2), some (.int .i64 (n2 : Int)), some (.pointer (at0 bz)), some (.bool okb), some (.int .i64 (i : Int))] h) fun o => o = (0, [some (.int .i64 c1), some (.int .i64 (Q : Int)), some (.int .i64 c2), some (.int .i64 (n2 : Int)), some (.pointer (at0 bz)), some (.bool okb), some (.int .i64 ((i + 1 : Nat) : Int))], h1) by
   obtain ⟨o, e, rfl⟩ := w1
   obtain ⟨o, eo, q⟩ := ih (i + 1) h1 (by omega) (d.kN k1)
   exact ⟨o, loop_on e eo, q⟩
  rw [B9_0_eq]
  refine W.ifT (decide_eq_true (by omega)) ?_
  ((try simp only [n1, n2, n3, n4, n5, n6] at d); (with_reducible repeat first | refine W.a1 d ?_ | refine W.a2 ?_ | refine W.a3 ?_ | refine W.bo ?_ | refine W.a5 d fun hw d lw kw => ?_ | refine W.a6 d ?_ | refine W.a7 ?_ | refine W.a8 ?_))
  refine W.bs e1 ?_
  have d := d.kN k1
  ((try simp only [n1, n2, n3, n4, n5, n6] at d); (with_reducible repeat first | refine W.a1 d ?_ | refine W.a2 ?_ | refine W.a3 ?_ | refine W.bo ?_ | refine W.a5 d fun hw d lw kw => ?_ | refine W.a6 d ?_ | refine W.a7 ?_ | refine W.a8 ?_))
  dsimp only
  refine W.joinP (fun q => q = ([some (.int .i64 c1), some (.int .i64 (Q : Int)), some (.int .i64 c2), some (.int .i64 (n2 : Int)), some (.pointer (at0 bz)), some (.bool okb), some (.int .i64 (i : Int)), some (.bool false)], h1)) (W.ifF (by decide) (W.inl rfl)) ?_
  rintro q rfl
  ((try simp only [n1, n2, n3, n4, n5, n6] at d); (with_reducible repeat first | refine W.a1 d ?_ | refine W.a2 ?_ | refine W.a3 ?_ | refine W.bo ?_ | refine W.a5 d fun hw d lw kw => ?_ | refine W.a6 d ?_ | refine W.a7 ?_ | refine W.a8 ?_))
  dsimp only
  refine W.ifF (by decide) ?_
  rw [w64i (n := (i : Int) + 1) (by omega) (by omega)]
  exact W.ret rfl
theorem alc_facts {Z Z' : List Int} {m : Nat} {p c : Int} (hm : 1 ≤ m) (ha : AuOk Z) (h : (¬ AuOk Z ∧ c = 3 ∧ Z' = Z) ∨ ∃ bs, ChS Z 0 bs Z.length ∧ naf false bs = true ∧ AlcS Z bs m Z' p c) : Z'.length = Z.length ∧ AuOk Z' ∧ ∃ bs, ChS Z 0 bs Z.length ∧ naf false bs = true ∧ AlcS Z bs m Z' p c := by
 rcases h with ⟨h, _⟩ | ⟨bs, hc, hf, hS⟩
 ·exact absurd ha h
 refine ⟨?_, ?_, bs, hc, hf, hS⟩
 ·rcases hS with ⟨_, rfl, _⟩ | ⟨_, pre, k, post, rfl, hmk, _, rfl, rfl⟩
  ·rfl
  ·exact (tk_ok hc hf hm hmk).1
 ·rcases hS with ⟨_, rfl, _⟩ | ⟨_, pre, k, post, rfl, hmk, _, rfl, rfl⟩
  ·exact ha
  ·obtain ⟨t1, post', t2, t3, _⟩ := tk_ok hc hf hm hmk
   exact ⟨_, by rw [t1]; exact t2, t3⟩
theorem alc_code {Z Z' Z2 : List Int} {bs : List (Nat × Bool)} {m : Nat} {p p' c c' : Int} (h : AlcS Z bs m Z' p c) (h' : AlcS Z bs m Z2 p' c') : c = c' := by
 rcases h with ⟨rfl, _, hs⟩ | ⟨rfl, pre, k, post, e, hmk, _⟩
 ·rcases h' with ⟨rfl, _⟩ | ⟨rfl, pre, k, post, e, hmk, _⟩
  ·rfl
  ·rcases hs (k, false) (by rw [e]; simp) with h | h
   ·cases h
   ·simp only at h; omega
 ·rcases h' with ⟨rfl, _, hs⟩ | ⟨rfl, _⟩
  ·rcases hs (k, false) (by rw [e]; simp) with h | h
   ·cases h
   ·simp only at h; omega
  ·rfl
theorem apart_law {base : Nat} {h : AH} {a : Option Addr} {zs : List Int} (s : Sl h a (iv .u8 zs)) (hzb : ∀ z ∈ zs, 0 ≤ z ∧ z ≤ 255) (hz : zs = [] ∨ ∀ b, blk a b → b < base) (hb : base ≤ h.length) :
  Wp (run (Et base) 9 [.slice a zs.length zs.length] h) fun r => r.1 = .bool true := by
 have big : run (Et base) 38 [.slice a zs.length zs.length] h = some (.bool (decide (((zs.length : Nat) : Int) > (1048576 : Int))), h) := Am.r38 rfl
 have d := Hs.start hb
 refine W.of (fun r hx => Am.r9 hx) ?_
 refine W.bs big ?_
 ((try simp only [n1, n2, n3, n4, n5, n6] at d); (with_reducible repeat first | refine W.a1 d ?_ | refine W.a2 ?_ | refine W.a3 ?_ | refine W.bo ?_ | refine W.a5 d fun hw d lw kw => ?_ | refine W.a6 d ?_ | refine W.a7 ?_ | refine W.a8 ?_))
 refine W.ite (fun c => W.ret rfl) (fun c => ?_)
 have c : ¬ ((zs.length : Int) > 1048576) := by simpa using c
 obtain ⟨a1, Z, h1, e1, hI, z⟩ := drawArena_run (base := base) s hz (by omega) hb
 refine W.bs e1 ?_
 have d := d.callR z (by simp)
 simp only [List.nil_append] at d
 obtain ⟨i1, i2, ha, hwb⟩ := hI
 have hm6 : ∀ x : Int, 0 ≤ x → ∃ m : Nat, IntKind.wrap .i64 (1 + x.tmod 6) = (m : Int) ∧ 1 ≤ m ∧ m ≤ 6 := fun x hx => by
  have h1 := Int.tmod_nonneg 6 hx
  have h2 := Int.tmod_lt_of_pos x (show (0 : Int) < 6 by decide)
  refine ⟨(1 + x.tmod 6).toNat, ?_, by omega, by omega⟩
  rw [w64i (by omega) (by omega)]
  omega
 ((try simp only [n1, n2, n3, n4, n5, n6] at d); (with_reducible repeat first | refine W.a1 d ?_ | refine W.a2 ?_ | refine W.a3 ?_ | refine W.bo ?_ | refine W.a5 d fun hw d lw kw => ?_ | refine W.a6 d ?_ | refine W.a7 ?_ | refine W.a8 ?_); (refine W.nD d fun h2 d _ kh2 => ?_); (with_reducible repeat first | refine W.a1 d ?_ | refine W.a2 ?_ | refine W.a3 ?_ | refine W.bo ?_ | refine W.a5 d fun hw d lw kw => ?_ | refine W.a6 d ?_ | refine W.a7 ?_ | refine W.a8 ?_))
 obtain ⟨e2, x2l, x2u⟩ := codeAtV_run (base := base) (i := 2) (s.keepN d.kb) hzb (by omega) (by omega)
 refine W.bs e2 (W.bI rfl ?_)
 obtain ⟨m, em, m1, m2⟩ := hm6 (atV zs 2) x2l
 rw [em]
 ((try simp only [n1, n2, n3, n4, n5, n6] at d); (with_reducible repeat first | refine W.a1 d ?_ | refine W.a2 ?_ | refine W.a3 ?_ | refine W.bo ?_ | refine W.a5 d fun hw d lw kw => ?_ | refine W.a6 d ?_ | refine W.a7 ?_ | refine W.a8 ?_))
 obtain ⟨ax, h3, Z1, p, cc, e3, z, hS1⟩ := implAlc_run (base := base) _ a1 Z m (Own.sl (d.rs (i := 0) rfl)) (d.rlt (i := 0) rfl) (by omega) (by omega) (by omega) d.ge
 refine W.bs e3 ?_
 have d := d.callR z (by simp)
 simp only [List.cons_append, List.nil_append] at d
 ((try simp only [n1, n2, n3, n4, n5, n6] at d); (with_reducible repeat first | refine W.a1 d ?_ | refine W.a2 ?_ | refine W.a3 ?_ | refine W.bo ?_ | refine W.a5 d fun hw d lw kw => ?_ | refine W.a6 d ?_ | refine W.a7 ?_ | refine W.a8 ?_); (refine W.nD d fun h4 d _ kh4 => ?_); (with_reducible repeat first | refine W.a1 d ?_ | refine W.a2 ?_ | refine W.a3 ?_ | refine W.bo ?_ | refine W.a5 d fun hw d lw kw => ?_ | refine W.a6 d ?_ | refine W.a7 ?_ | refine W.a8 ?_))
 obtain ⟨e4, x3l, x3u⟩ := codeAtV_run (base := base) (i := 3) (s.keepN d.kb) hzb (by omega) (by omega)
 refine W.bs e4 (W.bI rfl ?_)
 obtain ⟨mm, emm, mm1, mm2⟩ := hm6 (atV zs 3) x3l
 rw [emm]
 ((try simp only [n1, n2, n3, n4, n5, n6] at d); (with_reducible repeat first | refine W.a1 d ?_ | refine W.a2 ?_ | refine W.a3 ?_ | refine W.bo ?_ | refine W.a5 d fun hw d lw kw => ?_ | refine W.a6 d ?_ | refine W.a7 ?_ | refine W.a8 ?_))
 obtain ⟨l1, ha1, bs1, b1c, b1f, hS1⟩ := alc_facts m1 ha hS1
 obtain ⟨ay, h5, Z2, q, dd, e5, z, hS2⟩ := implAlc_run (base := base) _ ax Z1 mm (Own.sl (d.rs (i := 1) rfl)) (d.rlt (i := 1) rfl) (by omega) (by omega) (by omega) d.ge
 obtain ⟨l2, ha2, bs2, b2c, b2f, hS2⟩ := alc_facts mm1 ha1 hS2
 rw [l1] at e5
 refine W.bs e5 ?_
 have d := d.callR z (by simp)
 simp only [List.cons_append, List.nil_append] at d
 ((try simp only [n1, n2, n3, n4, n5, n6] at d); (with_reducible repeat first | refine W.a1 d ?_ | refine W.a2 ?_ | refine W.a3 ?_ | refine W.bo ?_ | refine W.a5 d fun hw d lw kw => ?_ | refine W.a6 d ?_ | refine W.a7 ?_ | refine W.a8 ?_); (refine W.nD d fun h6 d _ kh6 => ?_); (with_reducible repeat first | refine W.a1 d ?_ | refine W.a2 ?_ | refine W.a3 ?_ | refine W.bo ?_ | refine W.a5 d fun hw d lw kw => ?_ | refine W.a6 d ?_ | refine W.a7 ?_ | refine W.a8 ?_))
 obtain ⟨e6, _, _⟩ := codeAtV_run (base := base) (i := 2) (s.keepN d.kb) hzb (by omega) (by omega)
 refine W.bs e6 (W.bI rfl ?_)
 rw [em]
 ((try simp only [n1, n2, n3, n4, n5, n6] at d); (with_reducible repeat first | refine W.a1 d ?_ | refine W.a2 ?_ | refine W.a3 ?_ | refine W.bo ?_ | refine W.a5 d fun hw d lw kw => ?_ | refine W.a6 d ?_ | refine W.a7 ?_ | refine W.a8 ?_))
 obtain ⟨asp, h7, Z3, p3, can, e7, z, hS3⟩ := specAlc_run (base := base) _ a1 Z m (Own.sl (d.rs (i := 0) rfl)) (d.rlt (i := 0) rfl) (by omega) (by omega) (by omega) d.ge
 obtain ⟨_, _, bs3, b3c, b3f, hS3⟩ := alc_facts m1 ha hS3
 have ebs := ChS.uniq (by omega) b1c b3c
 subst ebs
 have ecc := alc_code hS1 hS3
 subst ecc
 refine W.bs e7 ?_
 have d := d.callR z (by simp)
 simp only [List.cons_append, List.nil_append] at d
 ((try simp only [n1, n2, n3, n4, n5, n6] at d); (with_reducible repeat first | refine W.a1 d ?_ | refine W.a2 ?_ | refine W.a3 ?_ | refine W.bo ?_ | refine W.a5 d fun hw d lw kw => ?_ | refine W.a6 d ?_ | refine W.a7 ?_ | refine W.a8 ?_); (refine W.nD d fun h8 d _ kh8 => ?_); (with_reducible repeat first | refine W.a1 d ?_ | refine W.a2 ?_ | refine W.a3 ?_ | refine W.bo ?_ | refine W.a5 d fun hw d lw kw => ?_ | refine W.a6 d ?_ | refine W.a7 ?_ | refine W.a8 ?_))
 refine W.joinP (fun z => z = ([some (.int .i64 p), some (.int .i64 cc), some (.pointer (at0 h5.length)), some (.int .i64 q), some (.int .i64 cc), some (.bool (cc != 0 || dd != 0))], hw)) ?_ ?_
 ·refine W.ifF (by simp) ?_
  refine W.ite (fun c0 => ?_) (fun c0 => ?_)
  ·rw [c0, Bool.true_or]
   exact W.inl rfl
  ·have c0 : (cc != 0) = false := by simpa using c0
   rw [c0, Bool.false_or]
   exact W.inl rfl
 rintro z rfl
 ((try simp only [n1, n2, n3, n4, n5, n6] at d); (with_reducible repeat first | refine W.a1 d ?_ | refine W.a2 ?_ | refine W.a3 ?_ | refine W.bo ?_ | refine W.a5 d fun hw d lw kw => ?_ | refine W.a6 d ?_ | refine W.a7 ?_ | refine W.a8 ?_))
 dsimp only
 refine W.ite (fun cf => ?_) (fun cf => ?_)
 ·exact W.ret (by simp)
 have cf : (cc != 0 || dd != 0) = false := by simpa using cf
 rw [Bool.or_eq_false_iff] at cf
 have hcc : cc = 0 := by simpa using cf.1
 have hdd : dd = 0 := by simpa using cf.2
 subst hcc; subst hdd
 obtain ⟨P, Q, n1, n2, rfl, rfl, _, l22, okP, okQ, hdis, hz0, hau⟩ := two_ok (by omega) b1c b1f m1 mm1 hS1 ⟨bs2, b2c, b2f, hS2⟩
 have hP := okP.2.1
 have hQ := okQ.2.1
 have hP1 := okP.1
 ((try simp only [n1, n2, n3, n4, n5, n6] at d); (with_reducible repeat first | refine W.a1 d ?_ | refine W.a2 ?_ | refine W.a3 ?_ | refine W.bo ?_ | refine W.a5 d fun hw d lw kw => ?_ | refine W.a6 d ?_ | refine W.a7 ?_ | refine W.a8 ?_))
 obtain ⟨h9, e9, k9⟩ := BkR.at (@implBk_run base) (Own.sl (d.rs (i := 2) rfl) : Sl _ ay (iv .i64 Z2)) (by omega) d.ge okP
 rw [l22] at e9
 refine W.bs e9 ?_
 have d := d.kN k9
 ((try simp only [n1, n2, n3, n4, n5, n6] at d); (with_reducible repeat first | refine W.a1 d ?_ | refine W.a2 ?_ | refine W.a3 ?_ | refine W.bo ?_ | refine W.a5 d fun hw d lw kw => ?_ | refine W.a6 d ?_ | refine W.a7 ?_ | refine W.a8 ?_))
 dsimp only
 ((try simp only [n1, n2, n3, n4, n5, n6] at d); (with_reducible repeat first | refine W.a1 d ?_ | refine W.a2 ?_ | refine W.a3 ?_ | refine W.bo ?_ | refine W.a5 d fun hw d lw kw => ?_ | refine W.a6 d ?_ | refine W.a7 ?_ | refine W.a8 ?_))
 obtain ⟨h10, e10, k10⟩ := BkR.at (@implBk_run base) (Own.sl (d.rs (i := 2) rfl) : Sl _ ay (iv .i64 Z2)) (by omega) d.ge okQ
 rw [l22] at e10
 refine W.bs e10 ?_
 have d := d.kN k10
 ((try simp only [n1, n2, n3, n4, n5, n6] at d); (with_reducible repeat first | refine W.a1 d ?_ | refine W.a2 ?_ | refine W.a3 ?_ | refine W.bo ?_ | refine W.a5 d fun hw d lw kw => ?_ | refine W.a6 d ?_ | refine W.a7 ?_ | refine W.a8 ?_))
 dsimp only
 rw [w64i (n := (P : Int) + n1) (by omega) (by omega), w64i (n := (P : Int) + n1 + 3) (by omega) (by omega), w64i (n := (Q : Int) + n2) (by omega) (by omega), w64i (n := (Q : Int) + n2 + 3) (by omega) (by omega)]
 refine W.joinP (fun z => z = ([some (.int .i64 (P : Int)), some (.pointer (at0 h5.length)), some (.int .i64 (Q : Int)), some (.int .i64 (n1 : Int)), some (.int .i64 (n2 : Int)), some (.bool false)], h10)) ?_ ?_
 ·have hne : ((P : Int) == (Q : Int)) = false := by rw [beq_eq_false_iff_ne]; omega
  rw [hne]
  refine W.ite (fun x1 => ?_) (fun x1 => ?_)
  ·have x1 := of_decide_eq_true x1
   refine W.ifF (by simp; omega) (W.ifF (by simp; omega) (W.inl rfl))
  ·have x1 : ¬ ((P : Int) < (Q : Int)) := by simpa using x1
   refine W.ite (fun x2 => ?_) (fun x2 => W.inl rfl)
   exact W.ifF (by simp; omega) (W.inl rfl)
 rintro z rfl
 ((try simp only [n1, n2, n3, n4, n5, n6] at d); (with_reducible repeat first | refine W.a1 d ?_ | refine W.a2 ?_ | refine W.a3 ?_ | refine W.bo ?_ | refine W.a5 d fun hw d lw kw => ?_ | refine W.a6 d ?_ | refine W.a7 ?_ | refine W.a8 ?_))
 dsimp only
 refine W.ifF (by decide) ?_
 ((try simp only [n1, n2, n3, n4, n5, n6] at d); (with_reducible repeat first | refine W.a1 d ?_ | refine W.a2 ?_ | refine W.a3 ?_ | refine W.bo ?_ | refine W.a5 d fun hw d lw kw => ?_ | refine W.a6 d ?_ | refine W.a7 ?_ | refine W.a8 ?_))
 rw [w64i (n := (n1 : Int) - 1) (by omega) (by omega), show (n1 : Int) - 1 = ((n1 - 1 : Nat) : Int) from by omega]
 obtain ⟨az, h11, e11, z⟩ := writeWord_run (base := base) (v := 77) (Own.sl (d.rs (i := 2) rfl) : Sl _ ay (iv .i64 Z2)) (d.rlt (i := 2) rfl) (by omega) okP (i := n1 - 1) (by omega) d.ge
 rw [l22] at e11
 refine W.bs e11 ?_
 have d := d.callR z (by simp)
 simp only [List.cons_append, List.nil_append] at d
 ((try simp only [n1, n2, n3, n4, n5, n6] at d); (with_reducible repeat first | refine W.a1 d ?_ | refine W.a2 ?_ | refine W.a3 ?_ | refine W.bo ?_ | refine W.a5 d fun hw d lw kw => ?_ | refine W.a6 d ?_ | refine W.a7 ?_ | refine W.a8 ?_); (refine W.nD d fun h12 d _ kh12 => ?_); (with_reducible repeat first | refine W.a1 d ?_ | refine W.a2 ?_ | refine W.a3 ?_ | refine W.bo ?_ | refine W.a5 d fun hw d lw kw => ?_ | refine W.a6 d ?_ | refine W.a7 ?_ | refine W.a8 ?_))
 have hau := hau (n1 - 1) 77 (by omega)
 have hsl : (Z2.set (P + 2 + (n1 - 1)) 77).length = Z.length := by rw [List.length_set]; exact l22
 have hset : ∀ j, j ≠ P + 2 + (n1 - 1) → (Z2.set (P + 2 + (n1 - 1)) 77)[j]? = Z2[j]? := fun j hj => by rw [List.getElem?_set_ne (by omega)]
 have hat : (Z2.set (P + 2 + (n1 - 1)) 77)[P + 2 + (n1 - 1)]? = some 77 := by rw [List.getElem?_set_self (by omega)]
 have okQ' : bOk (Z2.set (P + 2 + (n1 - 1)) 77) Q n2 true := okQ.congr (List.length_set ..) fun j _ _ => hset j (by omega)
 have hz0' : ∀ i, i < n2 → (Z2.set (P + 2 + (n1 - 1)) 77)[Q + 2 + i]? = some 0 := fun i hi => by rw [hset _ (by omega)]; exact hz0 i hi
 have okP' : bOk (Z2.set (P + 2 + (n1 - 1)) 77) P n1 true := by
  obtain ⟨o1, o2, o3, o4, o5, _⟩ := okP
  exact ⟨o1, by rw [hsl]; omega, by rw [hset _ (by omega)]; exact o3, by rw [hset _ (by omega)]; exact o4, by rw [hset _ (by omega)]; exact o5, fun h => (nomatch h)⟩
 generalize Z2.set (P + 2 + (n1 - 1)) 77 = Z4 at d hau hsl hat okQ' hz0' okP'
 have d := d.frontR (Del.at (i := 4) rfl)
 simp only [n5, n6] at d
 refine W.wb (apart_loop (base := base) (L := Z.length) hsl (by omega) okQ' hz0' n2 0 _ (by omega) d) ?_
 rintro ⟨o1, o2, h13⟩ ⟨y1, y2, d⟩
 simp only at y1 y2 d
 subst y1; subst y2
 refine W.ifF (show ¬ (2 : Nat) = 1 by decide) (W.ifT rfl ?_)
 ((try simp only [n1, n2, n3, n4, n5, n6] at d); (with_reducible repeat first | refine W.a1 d ?_ | refine W.a2 ?_ | refine W.a3 ?_ | refine W.bo ?_ | refine W.a5 d fun hw d lw kw => ?_ | refine W.a6 d ?_ | refine W.a7 ?_ | refine W.a8 ?_))
 rw [w64i (n := (n1 : Int) - 1) (by omega) (by omega), show (n1 : Int) - 1 = ((n1 - 1 : Nat) : Int) from by omega]
 obtain ⟨h14, e14, k14⟩ := readWord_run (base := base) (Own.sl (d.rs (i := 0) rfl) : Sl _ az (iv .i64 Z4)) (d.rlt (i := 0) rfl) (by omega) okP' (i := n1 - 1) (by omega) hat d.ge
 rw [hsl] at e14
 refine W.bs e14 ?_
 have d := d.kN k14
 ((try simp only [n1, n2, n3, n4, n5, n6] at d); (with_reducible repeat first | refine W.a1 d ?_ | refine W.a2 ?_ | refine W.a3 ?_ | refine W.bo ?_ | refine W.a5 d fun hw d lw kw => ?_ | refine W.a6 d ?_ | refine W.a7 ?_ | refine W.a8 ?_))
 dsimp only
 refine W.ifT rfl (W.ifT rfl (W.ifT (by decide) ?_))
 ((try simp only [n1, n2, n3, n4, n5, n6] at d); (with_reducible repeat first | refine W.a1 d ?_ | refine W.a2 ?_ | refine W.a3 ?_ | refine W.bo ?_ | refine W.a5 d fun hw d lw kw => ?_ | refine W.a6 d ?_ | refine W.a7 ?_ | refine W.a8 ?_))
 obtain ⟨r, h15, e15, k15, hr, _⟩ := implAudit_run (base := base) _ az Z4 (Own.sl (d.rs (i := 0) rfl)) (by omega) d.ge
 rw [hsl] at e15
 refine W.bs e15 ?_
 ((try simp only [n1, n2, n3, n4, n5, n6] at d); (with_reducible repeat first | refine W.a1 d ?_ | refine W.a2 ?_ | refine W.a3 ?_ | refine W.bo ?_ | refine W.a5 d fun hw d lw kw => ?_ | refine W.a6 d ?_ | refine W.a7 ?_ | refine W.a8 ?_))
 have := hr.2 hau
 subst this
 exact W.ret rfl
theorem apart_all {base : Nat} {h : AH} {a : Option Addr} {zs : List Int} (s : Sl h a (iv .u8 zs)) (hw : ∀ n ∈ zs, (Lit.int .u8 n).wf = true) (hb : h.length = base) :
  ∃ h', run (Et base) 9 [.slice a zs.length zs.length] h = some (.bool true, h') := by
 have hz : zs = [] ∨ ∀ b, blk a b → b < base := by
  rcases sl_below s with e | e
  ·exact .inl (by cases zs with | nil => rfl | cons x r => simp [iv] at e)
  ·exact .inr fun b hb' => by have := e b hb'; omega
 have hzb : ∀ z ∈ zs, 0 ≤ z ∧ z ≤ 255 := fun z hz' => by
  have := (Lit.wf_int_iff .u8 z).1 (hw z hz')
  simp only [IntKind.min, IntKind.max, IntKind.signed, IntKind.bits] at this
  simp at this
  omega
 obtain ⟨⟨u, h'⟩, e, q⟩ := apart_law (base := base) s hzb hz (by omega)
 simp only at q
 exact ⟨h', by rw [e, q]⟩
end Go.Proofs.Ytjmkbglnjklbcaa.Am
