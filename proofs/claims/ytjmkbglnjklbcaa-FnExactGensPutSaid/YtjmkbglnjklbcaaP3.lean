/- What the functions of this law compute, lemma by lemma, up to the law.
Conditions: none. -/
import Derived.Test.YtjmkbglnjklbcaaP2
import Derived.IntWalk
import Derived.Laws.BitsLemmas

set_option linter.unusedSimpArgs false
set_option linter.unusedVariables false
namespace Go.Proofs.Ytjmkbglnjklbcaa.Am
open Go Go.RowKit
theorem gensPut_law {base f : Nat} {h : AH} {p : Nat → Prop} {oa ya aa : Option Addr} {G : Gn} {ats : List ByteArray} {k n : Int} {s : ByteArray} {l : List Tm} {ta : Option Addr} (m1 : G.old.length ≤ maxLen) (m1' : G.young.length ≤ maxLen) (m2 : ats.length ≤ 9223372036854775807) (hz : ∀ s ∈ ats, s.size ≤ maxLen) (xg : GnS h oa ya G) (xa : Sl h aa (stV ats)) (xt : TmR h p (f + 1) (.mk k n s l) (termV k n s ta l.length)) (hp : ∀ b, p b → b < h.length) (hb : base ≤ h.length) :
  Wp (run (Et base) 4 [.agg (gensV oa ya G).toArray, .slice aa ats.length ats.length, .agg (termV k n s ta l.length).toArray] h) fun r => r.1 = .bool true := by
 have gk : ∀ {y}, KB NoB h y → GnS y oa ya G := fun k => ⟨xg.1.keepN k, xg.2.keepN k⟩
 have d := Hs.start hb
 have d := d.inp p (fun y => TmR y p (f + 1) (.mk k n s l) (termV k n s ta l.length)) xt (fun U y y' ky hs x => TmR.keep ky hs _ _ _ x) hp (by simp) rfl
 simp only [List.nil_append] at d
 refine W.of (fun r hx => Am.r4 hx) ?_
 ((try simp only [n1, n2, n3, n4, n5, n6] at d); (with_reducible repeat first | refine W.a1 d ?_ | refine W.a2 ?_ | refine W.a3 ?_ | refine W.bo ?_ | refine W.a5 d fun hw d lw kw => ?_ | refine W.a6 d ?_ | refine W.a7 ?_ | refine W.a8 ?_); (refine W.nD d fun p1 d _ kp1 => ?_); (with_reducible repeat first | refine W.a1 d ?_ | refine W.a2 ?_ | refine W.a3 ?_ | refine W.bo ?_ | refine W.a5 d fun hw d lw kw => ?_ | refine W.a6 d ?_ | refine W.a7 ?_ | refine W.a8 ?_); (refine W.nD d fun p2 d _ kp2 => ?_); (with_reducible repeat first | refine W.a1 d ?_ | refine W.a2 ?_ | refine W.a3 ?_ | refine W.bo ?_ | refine W.a5 d fun hw d lw kw => ?_ | refine W.a6 d ?_ | refine W.a7 ?_ | refine W.a8 ?_))
 obtain ⟨z1, h1, e1, k1, a1, a2, a3⟩ := szGens_run (base := base) (oa := oa) (ya := ya) (G := G) (left := 1048576) m1 m1' d.ge (by omega) (by omega)
 have d := d.kN k1
 refine W.bs e1 ?_
 ((try simp only [n1, n2, n3, n4, n5, n6] at d); (with_reducible repeat first | refine W.a1 d ?_ | refine W.a2 ?_ | refine W.a3 ?_ | refine W.bo ?_ | refine W.a5 d fun hw d lw kw => ?_ | refine W.a6 d ?_ | refine W.a7 ?_ | refine W.a8 ?_))
 refine W.ite (fun c => W.ret rfl) (fun c1 => ?_)
 have c1 : ¬ z1 < 0 := by simpa using c1
 have a3 := a3 c1
 obtain ⟨z2, e2, b1, b2, b3⟩ := szStringS_run (base := base) (left := z1) m2 hz (xa.keepN d.kb) (by omega) (by omega)
 refine W.bs e2 ?_
 ((try simp only [n1, n2, n3, n4, n5, n6] at d); (with_reducible repeat first | refine W.a1 d ?_ | refine W.a2 ?_ | refine W.a3 ?_ | refine W.bo ?_ | refine W.a5 d fun hw d lw kw => ?_ | refine W.a6 d ?_ | refine W.a7 ?_ | refine W.a8 ?_))
 refine W.ite (fun c => W.ret rfl) (fun c2 => ?_)
 have c2 : ¬ z2 < 0 := by simpa using c2
 have b3 := b3 c2
 ((try simp only [n1, n2, n3, n4, n5, n6] at d); (with_reducible repeat first | refine W.a1 d ?_ | refine W.a2 ?_ | refine W.a3 ?_ | refine W.bo ?_ | refine W.a5 d fun hw d lw kw => ?_ | refine W.a6 d ?_ | refine W.a7 ?_ | refine W.a8 ?_))
 obtain ⟨z3, h3, e3, k3, g1, g2, g3⟩ := szTerm_run (base := base) (f + 1) _ p _ _ z2 (d.rs (i := 0) rfl) d.ge (d.rlt (i := 0) rfl) (by omega) (by omega)
 have d := d.kN k3
 refine W.bs e3 ?_
 ((try simp only [n1, n2, n3, n4, n5, n6] at d); (with_reducible repeat first | refine W.a1 d ?_ | refine W.a2 ?_ | refine W.a3 ?_ | refine W.bo ?_ | refine W.a5 d fun hw d lw kw => ?_ | refine W.a6 d ?_ | refine W.a7 ?_ | refine W.a8 ?_))
 refine W.ite (fun c => W.ret rfl) (fun c3 => ?_)
 have c3 : ¬ z3 < 0 := by simpa using c3
 obtain ⟨hB, hcn⟩ := g3 c3
 have hol : G.old.length ≤ 1048576 := by omega
 have hyl : G.young.length ≤ 1048576 := by omega
 have hal : ats.length ≤ 1048576 := by omega
 ((try simp only [n1, n2, n3, n4, n5, n6] at d); (with_reducible repeat first | refine W.a1 d ?_ | refine W.a2 ?_ | refine W.a3 ?_ | refine W.bo ?_ | refine W.a5 d fun hw d lw kw => ?_ | refine W.a6 d ?_ | refine W.a7 ?_ | refine W.a8 ?_))
 obtain ⟨wa1, wb1, h4, e4, d, _⟩ := d.toGn hol hyl (gk d.kb)
 refine W.bs e4 ?_
 ((try simp only [n1, n2, n3, n4, n5, n6] at d); (with_reducible repeat first | refine W.a1 d ?_ | refine W.a2 ?_ | refine W.a3 ?_ | refine W.bo ?_ | refine W.a5 d fun hw d lw kw => ?_ | refine W.a6 d ?_ | refine W.a7 ?_ | refine W.a8 ?_))
 obtain ⟨sa1, h5, e5, d, _⟩ := d.toSt hal (xa.keepN d.kb)
 refine W.bs e5 ?_
 ((try simp only [n1, n2, n3, n4, n5, n6] at d); (with_reducible repeat first | refine W.a1 d ?_ | refine W.a2 ?_ | refine W.a3 ?_ | refine W.bo ?_ | refine W.a5 d fun hw d lw kw => ?_ | refine W.a6 d ?_ | refine W.a7 ?_ | refine W.a8 ?_))
 obtain ⟨ta1, S1, h6, e6, d, _⟩ := d.toTm (d.rs (i := 0) rfl) hB (d.rlt (i := 0) rfl)
 refine W.bs e6 ?_
 ((try simp only [n1, n2, n3, n4, n5, n6] at d); (with_reducible repeat first | refine W.a1 d ?_ | refine W.a2 ?_ | refine W.a3 ?_ | refine W.bo ?_ | refine W.a5 d fun hw d lw kw => ?_ | refine W.a6 d ?_ | refine W.a7 ?_ | refine W.a8 ?_))
 obtain ⟨wq, vq, sq, h7, e7, dq⟩ := specGPut_run (base := base) (f := f + 1) _ S1 (.mk k n s l) _ G ats wa1 wb1 sa1 (TmG.tmR (d.rs (i := 4) rfl)) (d.rlt (i := 4) rfl) ⟨Own.sl (d.rs (i := 1) rfl), Own.sl (d.rs (i := 2) rfl)⟩ (Own.sl (d.rs (i := 3) rfl)) hol hyl hal d.ge
 have d := d.callR dq (by simp)
 refine W.bs e7 ?_
 obtain ⟨hq1, hq2⟩ := putT_len (fr := 100000) (most := 1000) (f := f + 1) (w := G.young) (ats := ats) (t := .mk k n s l)
 generalize hQ : putT 100000 1000 (f + 1) G.young ats (.mk k n s l) = q at d hq1 hq2 ⊢
 have q1l : q.1.1.length ≤ 1048576 := by omega
 have q2l : q.1.2.length ≤ 1048576 := by omega
 ((try simp only [n1, n2, n3, n4, n5, n6] at d); (with_reducible repeat first | refine W.a1 d ?_ | refine W.a2 ?_ | refine W.a3 ?_ | refine W.bo ?_ | refine W.a5 d fun hw d lw kw => ?_ | refine W.a6 d ?_ | refine W.a7 ?_ | refine W.a8 ?_); (refine W.nD d fun w1 d _ kw1 => ?_); (with_reducible repeat first | refine W.a1 d ?_ | refine W.a2 ?_ | refine W.a3 ?_ | refine W.bo ?_ | refine W.a5 d fun hw d lw kw => ?_ | refine W.a6 d ?_ | refine W.a7 ?_ | refine W.a8 ?_))
 obtain ⟨wa2, wb2, h8, e8, d, _⟩ := d.toGn hol hyl (gk d.kb)
 refine W.bs e8 ?_
 ((try simp only [n1, n2, n3, n4, n5, n6] at d); (with_reducible repeat first | refine W.a1 d ?_ | refine W.a2 ?_ | refine W.a3 ?_ | refine W.bo ?_ | refine W.a5 d fun hw d lw kw => ?_ | refine W.a6 d ?_ | refine W.a7 ?_ | refine W.a8 ?_); (refine W.nD d fun w2 d _ kw2 => ?_); (with_reducible repeat first | refine W.a1 d ?_ | refine W.a2 ?_ | refine W.a3 ?_ | refine W.bo ?_ | refine W.a5 d fun hw d lw kw => ?_ | refine W.a6 d ?_ | refine W.a7 ?_ | refine W.a8 ?_))
 obtain ⟨sa2, h9, e9, d, _⟩ := d.toSt hal (xa.keepN d.kb)
 refine W.bs e9 ?_
 ((try simp only [n1, n2, n3, n4, n5, n6] at d); (with_reducible repeat first | refine W.a1 d ?_ | refine W.a2 ?_ | refine W.a3 ?_ | refine W.bo ?_ | refine W.a5 d fun hw d lw kw => ?_ | refine W.a6 d ?_ | refine W.a7 ?_ | refine W.a8 ?_))
 obtain ⟨ta2, S2, h10, e10, d, _⟩ := d.toTm (d.rs (i := 0) rfl) hB (d.rlt (i := 0) rfl)
 refine W.bs e10 ?_
 ((try simp only [n1, n2, n3, n4, n5, n6] at d); (with_reducible repeat first | refine W.a1 d ?_ | refine W.a2 ?_ | refine W.a3 ?_ | refine W.bo ?_ | refine W.a5 d fun hw d lw kw => ?_ | refine W.a6 d ?_ | refine W.a7 ?_ | refine W.a8 ?_); (refine W.nD d fun w3 d _ kw3 => ?_); (with_reducible repeat first | refine W.a1 d ?_ | refine W.a2 ?_ | refine W.a3 ?_ | refine W.bo ?_ | refine W.a5 d fun hw d lw kw => ?_ | refine W.a6 d ?_ | refine W.a7 ?_ | refine W.a8 ?_))
 obtain ⟨wg, vg, sgs, h11, e11, dg⟩ := implGPut_run (base := base) (f := f + 1) _ S2 (.mk k n s l) _ G ats wa2 wb2 sa2 (TmG.tmR (d.rs (i := 11) rfl)) (d.rlt (i := 11) rfl) ⟨Own.sl (d.rs (i := 8) rfl), Own.sl (d.rs (i := 9) rfl)⟩ (Own.sl (d.rs (i := 10) rfl)) hol hyl hal d.ge
 have d := d.callR dg (by simp)
 refine W.bs e11 ?_
 rw [hQ] at d ⊢
 ((try simp only [n1, n2, n3, n4, n5, n6] at d); (with_reducible repeat first | refine W.a1 d ?_ | refine W.a2 ?_ | refine W.a3 ?_ | refine W.bo ?_ | refine W.a5 d fun hw d lw kw => ?_ | refine W.a6 d ?_ | refine W.a7 ?_ | refine W.a8 ?_); (refine W.nD d fun w4 d _ kw4 => ?_); (with_reducible repeat first | refine W.a1 d ?_ | refine W.a2 ?_ | refine W.a3 ?_ | refine W.bo ?_ | refine W.a5 d fun hw d lw kw => ?_ | refine W.a6 d ?_ | refine W.a7 ?_ | refine W.a8 ?_))
 apply W.jb false d
 ·((try simp only [n1, n2, n3, n4, n5, n6] at d); (with_reducible repeat first | refine W.a1 d ?_ | refine W.a2 ?_ | refine W.a3 ?_ | refine W.bo ?_ | refine W.a5 d fun hw d lw kw => ?_ | refine W.a6 d ?_ | refine W.a7 ?_ | refine W.a8 ?_))
  obtain ⟨hx1, ex1, kx1⟩ := eqGens_run (base := base) (G := ⟨G.old, q.1.1, G.mark⟩) hol q1l ⟨Own.sl (d.rs (i := 12) rfl), Own.sl (d.rs (i := 13) rfl)⟩ ⟨Own.sl (d.rs (i := 5) rfl), Own.sl (d.rs (i := 6) rfl)⟩ d.ge
  refine W.bs ex1 ?_
  have d := d.kN kx1
  ((try simp only [n1, n2, n3, n4, n5, n6] at d); (with_reducible repeat first | refine W.a1 d ?_ | refine W.a2 ?_ | refine W.a3 ?_ | refine W.bo ?_ | refine W.a5 d fun hw d lw kw => ?_ | refine W.a6 d ?_ | refine W.a7 ?_ | refine W.a8 ?_))
  refine W.ifF (by decide) ?_
  refine W.bs (eqStringS_run (base := base) (l := q.1.2) (by omega) (Own.sl (d.rs (i := 14) rfl)) (Own.sl (d.rs (i := 7) rfl))) ?_
  ((try simp only [n1, n2, n3, n4, n5, n6] at d); (with_reducible repeat first | refine W.a1 d ?_ | refine W.a2 ?_ | refine W.a3 ?_ | refine W.bo ?_ | refine W.a5 d fun hw d lw kw => ?_ | refine W.a6 d ?_ | refine W.a7 ?_ | refine W.a8 ?_))
  refine W.ifF (by decide) ?_
  refine W.ifF (by simp) ?_
  exact W.lb rfl (by simp) kx1
 intro hj1 d nj1
 ((try simp only [n1, n2, n3, n4, n5, n6] at d); (with_reducible repeat first | refine W.a1 d ?_ | refine W.a2 ?_ | refine W.a3 ?_ | refine W.bo ?_ | refine W.a5 d fun hw d lw kw => ?_ | refine W.a6 d ?_ | refine W.a7 ?_ | refine W.a8 ?_))
 refine W.ifF (by decide) ?_
 ((try simp only [n1, n2, n3, n4, n5, n6] at d); (with_reducible repeat first | refine W.a1 d ?_ | refine W.a2 ?_ | refine W.a3 ?_ | refine W.bo ?_ | refine W.a5 d fun hw d lw kw => ?_ | refine W.a6 d ?_ | refine W.a7 ?_ | refine W.a8 ?_))
 obtain ⟨wa3, wb3, h12, e12, d, _⟩ := d.toGn hol hyl (gk d.kb)
 refine W.bs e12 ?_
 ((try simp only [n1, n2, n3, n4, n5, n6] at d); (with_reducible repeat first | refine W.a1 d ?_ | refine W.a2 ?_ | refine W.a3 ?_ | refine W.bo ?_ | refine W.a5 d fun hw d lw kw => ?_ | refine W.a6 d ?_ | refine W.a7 ?_ | refine W.a8 ?_))
 obtain ⟨h13, e13, k13⟩ := eqGens_run (base := base) hol hyl ⟨Own.sl (d.rs (i := 8) rfl), Own.sl (d.rs (i := 9) rfl)⟩ ⟨Own.sl (d.rs (i := 15) rfl), Own.sl (d.rs (i := 16) rfl)⟩ d.ge
 refine W.bs e13 ?_
 have d := d.kN k13
 ((try simp only [n1, n2, n3, n4, n5, n6] at d); (with_reducible repeat first | refine W.a1 d ?_ | refine W.a2 ?_ | refine W.a3 ?_ | refine W.bo ?_ | refine W.a5 d fun hw d lw kw => ?_ | refine W.a6 d ?_ | refine W.a7 ?_ | refine W.a8 ?_))
 refine W.ifF (by decide) ?_
 obtain ⟨sa3, h14, e14, d, _⟩ := d.toSt hal (xa.keepN d.kb)
 refine W.bs e14 ?_
 ((try simp only [n1, n2, n3, n4, n5, n6] at d); (with_reducible repeat first | refine W.a1 d ?_ | refine W.a2 ?_ | refine W.a3 ?_ | refine W.bo ?_ | refine W.a5 d fun hw d lw kw => ?_ | refine W.a6 d ?_ | refine W.a7 ?_ | refine W.a8 ?_))
 refine W.bs (eqStringS_run (base := base) (l := ats) (by omega) (Own.sl (d.rs (i := 10) rfl)) (Own.sl (d.rs (i := 17) rfl))) ?_
 ((try simp only [n1, n2, n3, n4, n5, n6] at d); (with_reducible repeat first | refine W.a1 d ?_ | refine W.a2 ?_ | refine W.a3 ?_ | refine W.bo ?_ | refine W.a5 d fun hw d lw kw => ?_ | refine W.a6 d ?_ | refine W.a7 ?_ | refine W.a8 ?_))
 refine W.ifF (by decide) ?_
 ((try simp only [n1, n2, n3, n4, n5, n6] at d); (with_reducible repeat first | refine W.a1 d ?_ | refine W.a2 ?_ | refine W.a3 ?_ | refine W.bo ?_ | refine W.a5 d fun hw d lw kw => ?_ | refine W.a6 d ?_ | refine W.a7 ?_ | refine W.a8 ?_))
 obtain ⟨ta3, S3, h15, e15, d, _⟩ := d.toTm (d.rs (i := 0) rfl) hB (d.rlt (i := 0) rfl)
 refine W.bs e15 ?_
 ((try simp only [n1, n2, n3, n4, n5, n6] at d); (with_reducible repeat first | refine W.a1 d ?_ | refine W.a2 ?_ | refine W.a3 ?_ | refine W.bo ?_ | refine W.a5 d fun hw d lw kw => ?_ | refine W.a6 d ?_ | refine W.a7 ?_ | refine W.a8 ?_))
 obtain ⟨h16, e16, k16⟩ := eqTerm_run (base := base) (f + 1) (f + 1) _ _ _ (.mk k n s l) _ _ (TmG.tmR (d.rs (i := 11) rfl)) (TmG.tmR (d.rs (i := 18) rfl)) d.ge
 refine W.bs e16 ?_
 have d := d.kN k16
 ((try simp only [n1, n2, n3, n4, n5, n6] at d); (with_reducible repeat first | refine W.a1 d ?_ | refine W.a2 ?_ | refine W.a3 ?_ | refine W.bo ?_ | refine W.a5 d fun hw d lw kw => ?_ | refine W.a6 d ?_ | refine W.a7 ?_ | refine W.a8 ?_))
 refine W.ifF (by decide) ?_
 ((try simp only [n1, n2, n3, n4, n5, n6] at d); (with_reducible repeat first | refine W.a1 d ?_ | refine W.a2 ?_ | refine W.a3 ?_ | refine W.bo ?_ | refine W.a5 d fun hw d lw kw => ?_ | refine W.a6 d ?_ | refine W.a7 ?_ | refine W.a8 ?_))
 obtain ⟨h17, e17, d⟩ := d.markGn (i := 8) (j := 9) (k := 1) (a := wa2) (b := wb2) (G := G) rfl rfl (by omega) (by omega) (by omega)
 refine W.bs e17 ?_
 ((try simp only [n1, n2, n3, n4, n5, n6] at d); (with_reducible repeat first | refine W.a1 d ?_ | refine W.a2 ?_ | refine W.a3 ?_ | refine W.bo ?_ | refine W.a5 d fun hw d lw kw => ?_ | refine W.a6 d ?_ | refine W.a7 ?_ | refine W.a8 ?_))
 obtain ⟨h18, e18, d⟩ := d.markS (i := 10) (k := 1 + G.old.length + G.young.length) (a := sa2) (l := ats) rfl (by omega) (by omega)
 refine W.bs e18 ?_
 ((try simp only [n1, n2, n3, n4, n5, n6] at d); (with_reducible repeat first | refine W.a1 d ?_ | refine W.a2 ?_ | refine W.a3 ?_ | refine W.bo ?_ | refine W.a5 d fun hw d lw kw => ?_ | refine W.a6 d ?_ | refine W.a7 ?_ | refine W.a8 ?_))
 obtain ⟨z19, h19, e19, hz19, k19⟩ := markTerm_run (base := base) (k := ((1 + G.old.length + G.young.length + ats.length : Nat) : Int)) (TmG.d (d.rs (i := 11) rfl)) (fun b hb' => ⟨Nat.le_trans hb ((d.rfr (i := 11) rfl rfl b hb').resolve_left fun h => h), d.rlt (i := 11) rfl b hb'⟩) d.ge (by omega) (by omega)
 refine W.bs e19 ?_
 have d := d.junk (i := 11) rfl rfl k19 (fun b hb => .inl hb)
 ((try simp only [n1, n2, n3, n4, n5, n6] at d); (with_reducible repeat first | refine W.a1 d ?_ | refine W.a2 ?_ | refine W.a3 ?_ | refine W.bo ?_ | refine W.a5 d fun hw d lw kw => ?_ | refine W.a6 d ?_ | refine W.a7 ?_ | refine W.a8 ?_))
 apply W.jb false d
 ·((try simp only [n1, n2, n3, n4, n5, n6] at d); (with_reducible repeat first | refine W.a1 d ?_ | refine W.a2 ?_ | refine W.a3 ?_ | refine W.bo ?_ | refine W.a5 d fun hw d lw kw => ?_ | refine W.a6 d ?_ | refine W.a7 ?_ | refine W.a8 ?_))
  refine W.ifF (by simp; omega) ?_
  ((try simp only [n1, n2, n3, n4, n5, n6] at d); (with_reducible repeat first | refine W.a1 d ?_ | refine W.a2 ?_ | refine W.a3 ?_ | refine W.bo ?_ | refine W.a5 d fun hw d lw kw => ?_ | refine W.a6 d ?_ | refine W.a7 ?_ | refine W.a8 ?_))
  obtain ⟨hx2, ex2, kx2⟩ := eqGens_run (base := base) (G := ⟨G.old, q.1.1, G.mark⟩) hol q1l ⟨Own.sl (d.rs (i := 12) rfl), Own.sl (d.rs (i := 13) rfl)⟩ ⟨Own.sl (d.rs (i := 5) rfl), Own.sl (d.rs (i := 6) rfl)⟩ d.ge
  refine W.bs ex2 ?_
  have d := d.kN kx2
  ((try simp only [n1, n2, n3, n4, n5, n6] at d); (with_reducible repeat first | refine W.a1 d ?_ | refine W.a2 ?_ | refine W.a3 ?_ | refine W.bo ?_ | refine W.a5 d fun hw d lw kw => ?_ | refine W.a6 d ?_ | refine W.a7 ?_ | refine W.a8 ?_))
  refine W.ifF (by decide) ?_
  refine W.bs (eqStringS_run (base := base) (l := q.1.2) (by omega) (Own.sl (d.rs (i := 14) rfl)) (Own.sl (d.rs (i := 7) rfl))) ?_
  ((try simp only [n1, n2, n3, n4, n5, n6] at d); (with_reducible repeat first | refine W.a1 d ?_ | refine W.a2 ?_ | refine W.a3 ?_ | refine W.bo ?_ | refine W.a5 d fun hw d lw kw => ?_ | refine W.a6 d ?_ | refine W.a7 ?_ | refine W.a8 ?_))
  refine W.ifF (by decide) ?_
  refine W.ifF (by simp) ?_
  exact W.lb rfl (by simp) kx2
 intro hj2 d nj2
 ((try simp only [n1, n2, n3, n4, n5, n6] at d); (with_reducible repeat first | refine W.a1 d ?_ | refine W.a2 ?_ | refine W.a3 ?_ | refine W.bo ?_ | refine W.a5 d fun hw d lw kw => ?_ | refine W.a6 d ?_ | refine W.a7 ?_ | refine W.a8 ?_))
 refine W.ifF (by decide) ?_
 ((try simp only [n1, n2, n3, n4, n5, n6] at d); (with_reducible repeat first | refine W.a1 d ?_ | refine W.a2 ?_ | refine W.a3 ?_ | refine W.bo ?_ | refine W.a5 d fun hw d lw kw => ?_ | refine W.a6 d ?_ | refine W.a7 ?_ | refine W.a8 ?_))
 obtain ⟨h20, e20, d⟩ := d.markGn (i := 12) (j := 13) (k := 1) (a := wg) (b := vg) (G := ⟨G.old, q.1.1, G.mark⟩) rfl rfl (by show G.old.length ≤ _; omega) (by show q.1.1.length ≤ _; omega) (by omega)
 refine W.bs e20 ?_
 ((try simp only [n1, n2, n3, n4, n5, n6] at d); (with_reducible repeat first | refine W.a1 d ?_ | refine W.a2 ?_ | refine W.a3 ?_ | refine W.bo ?_ | refine W.a5 d fun hw d lw kw => ?_ | refine W.a6 d ?_ | refine W.a7 ?_ | refine W.a8 ?_))
 obtain ⟨h21, e21, d⟩ := d.markS (i := 14) (k := 1 + G.old.length + q.1.1.length) (a := sgs) (l := q.1.2) rfl (by omega) (by omega)
 refine W.bs e21 ?_
 ((try simp only [n1, n2, n3, n4, n5, n6] at d); (with_reducible repeat first | refine W.a1 d ?_ | refine W.a2 ?_ | refine W.a3 ?_ | refine W.bo ?_ | refine W.a5 d fun hw d lw kw => ?_ | refine W.a6 d ?_ | refine W.a7 ?_ | refine W.a8 ?_))
 obtain ⟨h22, e22, k22⟩ := heldGens_run (base := base) (k := 1) (G := ⟨G.old, q.1.1, G.mark⟩) (Own.sl (d.rs (i := 12) rfl)) (Own.sl (d.rs (i := 13) rfl)) (by show G.old.length ≤ _; omega) (by show q.1.1.length ≤ _; omega) (by omega) d.ge
 refine W.bs e22 ?_
 have d := d.kN k22
 ((try simp only [n1, n2, n3, n4, n5, n6] at d); (with_reducible repeat first | refine W.a1 d ?_ | refine W.a2 ?_ | refine W.a3 ?_ | refine W.bo ?_ | refine W.a5 d fun hw d lw kw => ?_ | refine W.a6 d ?_ | refine W.a7 ?_ | refine W.a8 ?_))
 refine W.ifF (by simp; omega) ?_
 obtain ⟨h23, e23, k23⟩ := heldStringS_run (base := base) (k := 1 + G.old.length + q.1.1.length) (n := q.1.2.length) (Own.sl (d.rs (i := 14) rfl)) (by omega) (by omega)
 refine W.bs e23 ?_
 have d := d.kN k23
 ((try simp only [n1, n2, n3, n4, n5, n6] at d); (with_reducible repeat first | refine W.a1 d ?_ | refine W.a2 ?_ | refine W.a3 ?_ | refine W.bo ?_ | refine W.a5 d fun hw d lw kw => ?_ | refine W.a6 d ?_ | refine W.a7 ?_ | refine W.a8 ?_))
 refine W.ifF (by simp; omega) ?_
 refine W.ifF (by simp) ?_
 ((try simp only [n1, n2, n3, n4, n5, n6] at d); (with_reducible repeat first | refine W.a1 d ?_ | refine W.a2 ?_ | refine W.a3 ?_ | refine W.bo ?_ | refine W.a5 d fun hw d lw kw => ?_ | refine W.a6 d ?_ | refine W.a7 ?_ | refine W.a8 ?_))
 obtain ⟨wa4, wb4, h24, e24, d, _⟩ := d.toGn hol hyl (gk d.kb)
 refine W.bs e24 ?_
 ((try simp only [n1, n2, n3, n4, n5, n6] at d); (with_reducible repeat first | refine W.a1 d ?_ | refine W.a2 ?_ | refine W.a3 ?_ | refine W.bo ?_ | refine W.a5 d fun hw d lw kw => ?_ | refine W.a6 d ?_ | refine W.a7 ?_ | refine W.a8 ?_))
 obtain ⟨sa4, h25, e25, d, _⟩ := d.toSt hal (xa.keepN d.kb)
 refine W.bs e25 ?_
 ((try simp only [n1, n2, n3, n4, n5, n6] at d); (with_reducible repeat first | refine W.a1 d ?_ | refine W.a2 ?_ | refine W.a3 ?_ | refine W.bo ?_ | refine W.a5 d fun hw d lw kw => ?_ | refine W.a6 d ?_ | refine W.a7 ?_ | refine W.a8 ?_))
 obtain ⟨ta4, S4, h26, e26, d, _⟩ := d.toTm (d.rs (i := 0) rfl) hB (d.rlt (i := 0) rfl)
 refine W.bs e26 ?_
 ((try simp only [n1, n2, n3, n4, n5, n6] at d); (with_reducible repeat first | refine W.a1 d ?_ | refine W.a2 ?_ | refine W.a3 ?_ | refine W.bo ?_ | refine W.a5 d fun hw d lw kw => ?_ | refine W.a6 d ?_ | refine W.a7 ?_ | refine W.a8 ?_))
 obtain ⟨wh, vh, sh, h27, e27, dh⟩ := implGPut_run (base := base) (f := f + 1) _ S4 (.mk k n s l) _ G ats wa4 wb4 sa4 (TmG.tmR (d.rs (i := 22) rfl)) (d.rlt (i := 22) rfl) ⟨Own.sl (d.rs (i := 19) rfl), Own.sl (d.rs (i := 20) rfl)⟩ (Own.sl (d.rs (i := 21) rfl)) hol hyl hal d.ge
 have d := d.callR dh (by simp)
 refine W.bs e27 ?_
 rw [hQ] at d ⊢
 ((try simp only [n1, n2, n3, n4, n5, n6] at d); (with_reducible repeat first | refine W.a1 d ?_ | refine W.a2 ?_ | refine W.a3 ?_ | refine W.bo ?_ | refine W.a5 d fun hw d lw kw => ?_ | refine W.a6 d ?_ | refine W.a7 ?_ | refine W.a8 ?_); (refine W.nD d fun w5 d _ kw5 => ?_); (with_reducible repeat first | refine W.a1 d ?_ | refine W.a2 ?_ | refine W.a3 ?_ | refine W.bo ?_ | refine W.a5 d fun hw d lw kw => ?_ | refine W.a6 d ?_ | refine W.a7 ?_ | refine W.a8 ?_))
 apply W.jb false d
 ·((try simp only [n1, n2, n3, n4, n5, n6] at d); (with_reducible repeat first | refine W.a1 d ?_ | refine W.a2 ?_ | refine W.a3 ?_ | refine W.bo ?_ | refine W.a5 d fun hw d lw kw => ?_ | refine W.a6 d ?_ | refine W.a7 ?_ | refine W.a8 ?_))
  obtain ⟨hx3, ex3, kx3⟩ := eqGens_run (base := base) (G := ⟨G.old, q.1.1, G.mark⟩) hol q1l ⟨Own.sl (d.rs (i := 23) rfl), Own.sl (d.rs (i := 24) rfl)⟩ ⟨Own.sl (d.rs (i := 5) rfl), Own.sl (d.rs (i := 6) rfl)⟩ d.ge
  refine W.bs ex3 ?_
  have d := d.kN kx3
  ((try simp only [n1, n2, n3, n4, n5, n6] at d); (with_reducible repeat first | refine W.a1 d ?_ | refine W.a2 ?_ | refine W.a3 ?_ | refine W.bo ?_ | refine W.a5 d fun hw d lw kw => ?_ | refine W.a6 d ?_ | refine W.a7 ?_ | refine W.a8 ?_))
  refine W.ifF (by decide) ?_
  refine W.bs (eqStringS_run (base := base) (l := q.1.2) (by omega) (Own.sl (d.rs (i := 25) rfl)) (Own.sl (d.rs (i := 7) rfl))) ?_
  ((try simp only [n1, n2, n3, n4, n5, n6] at d); (with_reducible repeat first | refine W.a1 d ?_ | refine W.a2 ?_ | refine W.a3 ?_ | refine W.bo ?_ | refine W.a5 d fun hw d lw kw => ?_ | refine W.a6 d ?_ | refine W.a7 ?_ | refine W.a8 ?_))
  refine W.ifF (by decide) ?_
  refine W.ifF (by simp) ?_
  exact W.lb rfl (by simp) kx3
 intro hj3 d nj3
 ((try simp only [n1, n2, n3, n4, n5, n6] at d); (with_reducible repeat first | refine W.a1 d ?_ | refine W.a2 ?_ | refine W.a3 ?_ | refine W.bo ?_ | refine W.a5 d fun hw d lw kw => ?_ | refine W.a6 d ?_ | refine W.a7 ?_ | refine W.a8 ?_))
 refine W.ifF (by decide) ?_
 ((try simp only [n1, n2, n3, n4, n5, n6] at d); (with_reducible repeat first | refine W.a1 d ?_ | refine W.a2 ?_ | refine W.a3 ?_ | refine W.bo ?_ | refine W.a5 d fun hw d lw kw => ?_ | refine W.a6 d ?_ | refine W.a7 ?_ | refine W.a8 ?_))
 obtain ⟨h28, e28, k28⟩ := heldGens_run (base := base) (k := 1) (G := ⟨G.old, q.1.1, G.mark⟩) (Own.sl (d.rs (i := 12) rfl)) (Own.sl (d.rs (i := 13) rfl)) (by show G.old.length ≤ _; omega) (by show q.1.1.length ≤ _; omega) (by omega) d.ge
 refine W.bs e28 ?_
 have d := d.kN k28
 ((try simp only [n1, n2, n3, n4, n5, n6] at d); (with_reducible repeat first | refine W.a1 d ?_ | refine W.a2 ?_ | refine W.a3 ?_ | refine W.bo ?_ | refine W.a5 d fun hw d lw kw => ?_ | refine W.a6 d ?_ | refine W.a7 ?_ | refine W.a8 ?_))
 refine W.ifF (by simp; omega) ?_
 obtain ⟨h29, e29, k29⟩ := heldStringS_run (base := base) (k := 1 + G.old.length + q.1.1.length) (n := q.1.2.length) (Own.sl (d.rs (i := 14) rfl)) (by omega) (by omega)
 refine W.bs e29 ?_
 ((try simp only [n1, n2, n3, n4, n5, n6] at d); (with_reducible repeat first | refine W.a1 d ?_ | refine W.a2 ?_ | refine W.a3 ?_ | refine W.bo ?_ | refine W.a5 d fun hw d lw kw => ?_ | refine W.a6 d ?_ | refine W.a7 ?_ | refine W.a8 ?_))
 refine W.ifF (by simp; omega) ?_
 refine W.ifF (by simp) (W.ret rfl)
theorem gensPut_entry {base : Nat} {h : AH} {f f2 f3 : Nat} {cs ts : List Value} {v : Value} (x : Rd Try.prog h f 48 cs) (y : Rd Try.prog h f2 25 [v]) (z : Rd Try.prog h f3 28 ts) (hb : base ≤ h.length) : ∃ h', run (Et base) 4 [.agg cs.toArray, v, .agg ts.toArray] h = some (.bool true, h') := by
 obtain ⟨a, b, G, rfl, h1, h2, h3, h4, h5⟩ := rd_gens x
 obtain ⟨sa, ats, rfl, s1, s2, s3⟩ := rd_strs y
 obtain ⟨t, xt⟩ := rd_term _ _ z
 clear z x y
 cases f3 with
 | zero => exact xt.elim
 | succ f3 =>
  obtain ⟨k, n, s, l⟩ := t
  obtain ⟨ta, rfl, _⟩ := xt.parts
  obtain ⟨⟨u, h'⟩, e, q⟩ := gensPut_law (base := base) h1 h2 (by have := s1; unfold maxLen at this; exact this) s3 h3 s2 xt (fun b hb => hb) hb
  simp only at q
  exact ⟨h', by rw [e, q]⟩
end Go.Proofs.Ytjmkbglnjklbcaa.Am
