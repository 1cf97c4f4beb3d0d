/- What the functions of this law compute, lemma by lemma, up to the law.
Conditions: none. -/
import Derived.Test.YtjmkbglnjklbcaaP2
import Derived.IntWalk
import Derived.Laws.BitsLemmas

set_option linter.unusedSimpArgs false
set_option linter.unusedVariables false
namespace Go.Proofs.Ytjmkbglnjklbcaa.Am
open Go Go.RowKit
def AtO (base : Nat) (a : Option Addr) (ats : List ByteArray) (y : AH) : Prop := TyOk base y a 9 ∧ Sl y a (stV ats)
def InO (base : Nat) (a : Option Addr) (l : List Int) (y : AH) : Prop := TyOk base y a 3 ∧ Sl y a (iv .i64 l)
theorem AtO.keep {base : Nat} {a : Option Addr} {ats : List ByteArray} (U : Fp) (h h' : AH) (k : KB U h h') (hS : ∀ b, blk a b → ¬ U b) (x : AtO base a ats h) : AtO base a ats h' := ⟨x.1.keep k hS, x.2.keep k hS⟩
theorem InO.keep {base : Nat} {a : Option Addr} {l : List Int} (U : Fp) (h h' : AH) (k : KB U h h') (hS : ∀ b, blk a b → ¬ U b) (x : InO base a l h) : InO base a l h' := ⟨x.1.keep k hS, x.2.keep k hS⟩
abbrev rGn (base : Nat) (a b : Option Addr) (G : Gn) : Rs := ⟨fun i => blk a i ∨ blk b i, true, fun y => GnO base y a b G⟩
abbrev rAt (base : Nat) (a : Option Addr) (ats : List ByteArray) : Rs := ⟨blk a, true, AtO base a ats⟩
abbrev rIn_ (base : Nat) (a : Option Addr) (l : List Int) : Rs := ⟨blk a, true, InO base a l⟩
theorem mkRdA {base : Nat} {a b c : Option Addr} {G : Gn} {ats : List ByteArray} {y : AH} (x : GnO base y a b G) (z : AtO base c ats y) : RdA base a b G c ats y := ⟨x.1, x.2.1, z.1, x.2.2, z.2⟩
theorem Hs.toGens {base : Nat} {V : Fp} {h0 h : AH} {D : Ds} {R : List Rs} {oa ya : Option Addr} {G : Gn} (d : Hs base V h0 h D R) (h1 : G.old.length ≤ 1048576) (h2 : G.young.length ≤ 1048576) (x : GnS h oa ya G) :
  ∃ a b h', run (Et base) 29 [.agg (gensV oa ya G).toArray] h = some (.agg (gensV a b G).toArray, h') ∧ Hs base V h0 h' D (R ++ [rGn base a b G]) ∧ KB NoB h h' := by
 obtain ⟨a, b, h', e, o1, o2, k, q, _⟩ := toGens_run (base := base) h1 h2 x d.ge
 exact ⟨a, b, h', e, d.call k _ (fun y => GnO base y a b G) ⟨TyOk.own o1, TyOk.own o2, o1.sl, o2.sl⟩ (fun U y y' k hS x => x.keep k hS) q, k⟩
theorem Hs.toAts {base : Nat} {V : Fp} {h0 h : AH} {D : Ds} {R : List Rs} {aa : Option Addr} {ats : List ByteArray} (d : Hs base V h0 h D R) (h1 : ats.length ≤ 1048576) (x : Sl h aa (stV ats)) :
  ∃ a h', run (Et base) 16 [.slice aa ats.length ats.length] h = some (.slice a ats.length ats.length, h') ∧ Hs base V h0 h' D (R ++ [rAt base a ats]) ∧ KB NoB h h' := by
 obtain ⟨a, h', e, o1, k, q⟩ := toStringS_run (base := base) x h1 d.ge
 exact ⟨a, h', e, d.call k _ (AtO base a ats) ⟨TyOk.own o1, o1.sl⟩ AtO.keep q, k⟩
theorem Hs.toIns {base : Nat} {V : Fp} {h0 h : AH} {D : Ds} {R : List Rs} {aa : Option Addr} {l : List Int} (d : Hs base V h0 h D R) (h1 : l.length ≤ 1048576) (x : Sl h aa (iv .i64 l)) :
  ∃ a h', run (Et base) 35 [.slice aa l.length l.length] h = some (.slice a l.length l.length, h') ∧ Hs base V h0 h' D (R ++ [rIn_ base a l]) ∧ KB NoB h h' := by
 obtain ⟨a, h', e, o1, k, q⟩ := toIntS_run (base := base) x h1 d.ge
 exact ⟨a, h', e, d.call k _ (InO base a l) ⟨TyOk.own o1, o1.sl⟩ InO.keep fun b hb => ⟨q b hb, (o1.lt hb).2⟩, k⟩
theorem gensOk_law {base : Nat} {h : AH} {oa ya aa ra : Option Addr} {G : Gn} {ats : List ByteArray} {roots : List Int} (m1 : G.old.length ≤ maxLen) (m2 : G.young.length ≤ maxLen) (m3 : ats.length ≤ 9223372036854775807) (w1 : ∀ n ∈ G.old, wOk n) (w2 : ∀ n ∈ G.young, wOk n) (hz : ∀ s ∈ ats, s.size ≤ maxLen) (hr : ∀ w ∈ roots, wOk w) (x : GnS h oa ya G) (xa : Sl h aa (stV ats)) (xr : Sl h ra (iv .i64 roots)) (hb : base ≤ h.length) :
  Wp (run (Et base) 5 [.agg (gensV oa ya G).toArray, .slice aa ats.length ats.length, .slice ra roots.length roots.length] h) fun r => r.1 = .bool true := by
 have gk : ∀ {y}, KB NoB h y → GnS y oa ya G := fun k => ⟨x.1.keepN k, x.2.keepN k⟩
 have d := Hs.start hb
 refine W.of (fun r hx => Am.r5 hx) ?_
 ((try simp only [n1, n2, n3, n4, n5, n6] at d); (with_reducible repeat first | refine W.a1 d ?_ | refine W.a2 ?_ | refine W.a3 ?_ | refine W.bo ?_ | refine W.a5 d fun hw d lw kw => ?_ | refine W.a6 d ?_ | refine W.a7 ?_ | refine W.a8 ?_); (refine W.nD d fun p1 d _ kp1 => ?_); (with_reducible repeat first | refine W.a1 d ?_ | refine W.a2 ?_ | refine W.a3 ?_ | refine W.bo ?_ | refine W.a5 d fun hw d lw kw => ?_ | refine W.a6 d ?_ | refine W.a7 ?_ | refine W.a8 ?_))
 refine W.ite (fun c => W.ret rfl) (fun c => ?_)
 have c : ¬ (roots.length : Int) > 1048576 := by simpa using c
 ((try simp only [n1, n2, n3, n4, n5, n6] at d); (with_reducible repeat first | refine W.a1 d ?_ | refine W.a2 ?_ | refine W.a3 ?_ | refine W.bo ?_ | refine W.a5 d fun hw d lw kw => ?_ | refine W.a6 d ?_ | refine W.a7 ?_ | refine W.a8 ?_))
 obtain ⟨z1, h1, e1, k1, a1, a2, a3⟩ := szGens_run (base := base) (oa := oa) (ya := ya) (G := G) (left := 1048576) m1 m2 d.ge (by omega) (by omega)
 have d := d.kN k1
 refine W.bs e1 ?_
 ((try simp only [n1, n2, n3, n4, n5, n6] at d); (with_reducible repeat first | refine W.a1 d ?_ | refine W.a2 ?_ | refine W.a3 ?_ | refine W.bo ?_ | refine W.a5 d fun hw d lw kw => ?_ | refine W.a6 d ?_ | refine W.a7 ?_ | refine W.a8 ?_))
 refine W.ite (fun c => W.ret rfl) (fun c1 => ?_)
 have c1 : ¬ z1 < 0 := by simpa using c1
 have a3 := a3 c1
 obtain ⟨z2, e2, b1, b2, b3⟩ := szStringS_run (base := base) (left := z1) m3 hz (xa.keepN d.kb) (by omega) (by omega)
 refine W.bs e2 ?_
 ((try simp only [n1, n2, n3, n4, n5, n6] at d); (with_reducible repeat first | refine W.a1 d ?_ | refine W.a2 ?_ | refine W.a3 ?_ | refine W.bo ?_ | refine W.a5 d fun hw d lw kw => ?_ | refine W.a6 d ?_ | refine W.a7 ?_ | refine W.a8 ?_))
 refine W.ite (fun c => W.ret rfl) (fun c2 => ?_)
 have c2 : ¬ z2 < 0 := by simpa using c2
 have b3 := b3 c2
 have hG : G.Ok := ⟨by omega, by omega, w1, w2⟩
 have ha : ats.length ≤ 1048576 := by omega
 have hrl : roots.length ≤ 1048576 := by omega
 ((try simp only [n1, n2, n3, n4, n5, n6] at d); (with_reducible repeat first | refine W.a1 d ?_ | refine W.a2 ?_ | refine W.a3 ?_ | refine W.bo ?_ | refine W.a5 d fun hw d lw kw => ?_ | refine W.a6 d ?_ | refine W.a7 ?_ | refine W.a8 ?_))
 obtain ⟨ga, gb, h3, e3, d, _⟩ := d.toGens hG.1 hG.2.1 (gk d.kb)
 refine W.bs e3 ?_
 ((try simp only [n1, n2, n3, n4, n5, n6] at d); (with_reducible repeat first | refine W.a1 d ?_ | refine W.a2 ?_ | refine W.a3 ?_ | refine W.bo ?_ | refine W.a5 d fun hw d lw kw => ?_ | refine W.a6 d ?_ | refine W.a7 ?_ | refine W.a8 ?_))
 obtain ⟨sa, h4, e4, d, _⟩ := d.toAts ha (xa.keepN d.kb)
 refine W.bs e4 ?_
 ((try simp only [n1, n2, n3, n4, n5, n6] at d); (with_reducible repeat first | refine W.a1 d ?_ | refine W.a2 ?_ | refine W.a3 ?_ | refine W.bo ?_ | refine W.a5 d fun hw d lw kw => ?_ | refine W.a6 d ?_ | refine W.a7 ?_ | refine W.a8 ?_))
 obtain ⟨ia, h5, e5, d, _⟩ := d.toIns hrl (xr.keepN d.kb)
 refine W.bs e5 ?_
 ((try simp only [n1, n2, n3, n4, n5, n6] at d); (with_reducible repeat first | refine W.a1 d ?_ | refine W.a2 ?_ | refine W.a3 ?_ | refine W.bo ?_ | refine W.a5 d fun hw d lw kw => ?_ | refine W.a6 d ?_ | refine W.a7 ?_ | refine W.a8 ?_))
 have q0 : GnO base h5 ga gb G := d.rs (i := 0) rfl
 have q1 : AtO base sa ats h5 := d.rs (i := 1) rfl
 have q2 : InO base ia roots h5 := d.rs (i := 2) rfl
 obtain ⟨h6, e6, k6⟩ := specGensOk_run (base := base) hG ha hz hr (by omega) (mkRdA q0 q1) q2.2 q2.1 d.ge
 refine W.bs e6 ?_
 have d := d.kN k6
 ((try simp only [n1, n2, n3, n4, n5, n6] at d); (with_reducible repeat first | refine W.a1 d ?_ | refine W.a2 ?_ | refine W.a3 ?_ | refine W.bo ?_ | refine W.a5 d fun hw d lw kw => ?_ | refine W.a6 d ?_ | refine W.a7 ?_ | refine W.a8 ?_))
 obtain ⟨gc, gd, h7, e7, d, _⟩ := d.toGens hG.1 hG.2.1 (gk d.kb)
 refine W.bs e7 ?_
 ((try simp only [n1, n2, n3, n4, n5, n6] at d); (with_reducible repeat first | refine W.a1 d ?_ | refine W.a2 ?_ | refine W.a3 ?_ | refine W.bo ?_ | refine W.a5 d fun hw d lw kw => ?_ | refine W.a6 d ?_ | refine W.a7 ?_ | refine W.a8 ?_); (refine W.nD d fun h8 d _ kh8 => ?_); (with_reducible repeat first | refine W.a1 d ?_ | refine W.a2 ?_ | refine W.a3 ?_ | refine W.bo ?_ | refine W.a5 d fun hw d lw kw => ?_ | refine W.a6 d ?_ | refine W.a7 ?_ | refine W.a8 ?_))
 obtain ⟨sb, h9, e9, d, _⟩ := d.toAts ha (xa.keepN d.kb)
 refine W.bs e9 ?_
 ((try simp only [n1, n2, n3, n4, n5, n6] at d); (with_reducible repeat first | refine W.a1 d ?_ | refine W.a2 ?_ | refine W.a3 ?_ | refine W.bo ?_ | refine W.a5 d fun hw d lw kw => ?_ | refine W.a6 d ?_ | refine W.a7 ?_ | refine W.a8 ?_))
 obtain ⟨ib, h10, e10, d, _⟩ := d.toIns hrl (xr.keepN d.kb)
 refine W.bs e10 ?_
 ((try simp only [n1, n2, n3, n4, n5, n6] at d); (with_reducible repeat first | refine W.a1 d ?_ | refine W.a2 ?_ | refine W.a3 ?_ | refine W.bo ?_ | refine W.a5 d fun hw d lw kw => ?_ | refine W.a6 d ?_ | refine W.a7 ?_ | refine W.a8 ?_))
 have q3 : GnO base h10 gc gd G := d.rs (i := 3) rfl
 have q4 : AtO base sb ats h10 := d.rs (i := 4) rfl
 have q5 : InO base ib roots h10 := d.rs (i := 5) rfl
 obtain ⟨h11, e11, k11⟩ := implGensOk_run (base := base) hG ha hz hr (by omega) (mkRdA q3 q4) q5.2 q5.1 d.ge
 refine W.bs e11 ?_
 have d := d.kN k11
 ((try simp only [n1, n2, n3, n4, n5, n6] at d); (with_reducible repeat first | refine W.a1 d ?_ | refine W.a2 ?_ | refine W.a3 ?_ | refine W.bo ?_ | refine W.a5 d fun hw d lw kw => ?_ | refine W.a6 d ?_ | refine W.a7 ?_ | refine W.a8 ?_))
 refine W.ifF (by simp) ?_
 ((try simp only [n1, n2, n3, n4, n5, n6] at d); (with_reducible repeat first | refine W.a1 d ?_ | refine W.a2 ?_ | refine W.a3 ?_ | refine W.bo ?_ | refine W.a5 d fun hw d lw kw => ?_ | refine W.a6 d ?_ | refine W.a7 ?_ | refine W.a8 ?_))
 obtain ⟨ge, gf, h12, e12, d, _⟩ := d.toGens hG.1 hG.2.1 (gk d.kb)
 refine W.bs e12 ?_
 ((try simp only [n1, n2, n3, n4, n5, n6] at d); (with_reducible repeat first | refine W.a1 d ?_ | refine W.a2 ?_ | refine W.a3 ?_ | refine W.bo ?_ | refine W.a5 d fun hw d lw kw => ?_ | refine W.a6 d ?_ | refine W.a7 ?_ | refine W.a8 ?_))
 have q6 : GnO base h12 gc gd G := d.rs (i := 3) rfl
 have q7 : GnO base h12 ge gf G := d.rs (i := 6) rfl
 obtain ⟨h13, e13, k13⟩ := eqGens_run (base := base) hG.1 hG.2.1 q6.2.2 q7.2.2 d.ge
 refine W.bs e13 ?_
 have d := d.kN k13
 ((try simp only [n1, n2, n3, n4, n5, n6] at d); (with_reducible repeat first | refine W.a1 d ?_ | refine W.a2 ?_ | refine W.a3 ?_ | refine W.bo ?_ | refine W.a5 d fun hw d lw kw => ?_ | refine W.a6 d ?_ | refine W.a7 ?_ | refine W.a8 ?_))
 refine W.ifF (by decide) ?_
 obtain ⟨sc, h14, e14, d, _⟩ := d.toAts ha (xa.keepN d.kb)
 refine W.bs e14 ?_
 ((try simp only [n1, n2, n3, n4, n5, n6] at d); (with_reducible repeat first | refine W.a1 d ?_ | refine W.a2 ?_ | refine W.a3 ?_ | refine W.bo ?_ | refine W.a5 d fun hw d lw kw => ?_ | refine W.a6 d ?_ | refine W.a7 ?_ | refine W.a8 ?_))
 have q8 : AtO base sb ats h14 := d.rs (i := 4) rfl
 have q9 : AtO base sc ats h14 := d.rs (i := 7) rfl
 refine W.bs (eqStringS_run m3 q8.2 q9.2) ?_
 ((try simp only [n1, n2, n3, n4, n5, n6] at d); (with_reducible repeat first | refine W.a1 d ?_ | refine W.a2 ?_ | refine W.a3 ?_ | refine W.bo ?_ | refine W.a5 d fun hw d lw kw => ?_ | refine W.a6 d ?_ | refine W.a7 ?_ | refine W.a8 ?_))
 refine W.ifF (by decide) ?_
 obtain ⟨ic, h15, e15, d, _⟩ := d.toIns hrl (xr.keepN d.kb)
 refine W.bs e15 ?_
 ((try simp only [n1, n2, n3, n4, n5, n6] at d); (with_reducible repeat first | refine W.a1 d ?_ | refine W.a2 ?_ | refine W.a3 ?_ | refine W.bo ?_ | refine W.a5 d fun hw d lw kw => ?_ | refine W.a6 d ?_ | refine W.a7 ?_ | refine W.a8 ?_))
 have q10 : InO base ib roots h15 := d.rs (i := 5) rfl
 have q11 : InO base ic roots h15 := d.rs (i := 8) rfl
 refine W.bs (eqIntS_run (base := base) q10.2 q11.2 (by omega)) ?_
 ((try simp only [n1, n2, n3, n4, n5, n6] at d); (with_reducible repeat first | refine W.a1 d ?_ | refine W.a2 ?_ | refine W.a3 ?_ | refine W.bo ?_ | refine W.a5 d fun hw d lw kw => ?_ | refine W.a6 d ?_ | refine W.a7 ?_ | refine W.a8 ?_))
 refine W.ifF (by simp) (W.ret rfl)
theorem rd_ints {h : AH} {f : Nat} {v : Value} (x : Rd Try.prog h f 22 [v]) : ∃ a l, v = .slice a (List.length l) (List.length l) ∧ l.length ≤ maxLen ∧ Sl h a (iv .i64 l) ∧ ∀ n ∈ l, wOk n := by
 obtain ⟨a, zs, e, h1, h2, h3⟩ := x.ints Try.underlying22 Try.underlying3 (by kernel_rfl)
 injection e with e _
 refine ⟨a, zs, e, h1, h2, fun n hn => ?_⟩
 have := h3 n hn
 simp only [Lit.wf, Bool.and_eq_true, decide_eq_true_eq] at this
 exact ⟨this.1, this.2⟩
theorem strs_of : ∀ (vs : List Value), (∀ i, i < vs.length → ∃ s, vs[i]? = some (.string s) ∧ s.size ≤ maxLen) → ∃ l, vs = stV l ∧ ∀ s ∈ l, s.size ≤ maxLen
 | [], _ => ⟨[], rfl, fun s hs => by cases hs⟩
 | v :: vs, h => by
  obtain ⟨s, e, hs⟩ := h 0 (by simp)
  obtain ⟨l, e2, h2⟩ := strs_of vs fun i hi => by
   have := h (i + 1) (by simp; omega)
   simpa using this
  simp only [List.getElem?_cons_zero] at e
  injection e with e
  refine ⟨s :: l, by rw [e, e2]; rfl, fun t ht => ?_⟩
  rcases List.mem_cons.1 ht with rfl | ht
  ·exact hs
  ·exact h2 t ht
theorem rd_strs {h : AH} {f : Nat} {v : Value} (x : Rd Try.prog h f 25 [v]) : ∃ a l, v = .slice a (List.length l) (List.length l) ∧ l.length ≤ maxLen ∧ Sl h a (stV l) ∧ ∀ s ∈ l, s.size ≤ maxLen := by
 have c9 : Try.prog.cellsOf 9 = 1 := by kernel_rfl
 obtain ⟨g, a, n, vs, e, h1, h2, h3, h4⟩ := x.slice Try.underlying25
 rw [c9] at h3 h4
 simp only [Nat.mul_one] at h3 h4
 obtain ⟨l, e2, hl⟩ := strs_of vs fun i hi => by
  obtain ⟨s, e, hs⟩ := (h4 i (by omega)).str Try.underlying9
  refine ⟨s, ?_, hs⟩
  have := congrArg (·[0]?) e
  simp only [List.getElem?_take_of_lt (show 0 < 1 by decide), List.getElem?_drop, Nat.add_zero, List.getElem?_cons_zero] at this
  exact this
 injection e with e _
 have hn : l.length = n := by rw [← h3, e2, stV_len]
 subst e2
 exact ⟨a, l, by rw [hn]; exact e, by omega, h2, hl⟩
set_option maxRecDepth 100000 in
theorem rd_gens {h : AH} {f : Nat} {cs : List Value} (x : Rd Try.prog h f 48 cs) : ∃ a b G, cs = gensV a b G ∧ G.old.length ≤ maxLen ∧ G.young.length ≤ maxLen ∧ GnS h a b G ∧ (∀ n ∈ G.old, wOk n) ∧ ∀ n ∈ G.young, wOk n := by
 have cT : Try.prog.cellsOf 48 = 3 := by kernel_rfl
 have c3 : Try.prog.cellsOf 3 = 1 := by kernel_rfl
 have cL : Try.prog.cellsOf 22 = 1 := by kernel_rfl
 match f, x with
 | 0, x => exact x.elim
 | f + 1, x =>
  simp only [Rd, Try.underlying48] at x
  obtain ⟨hl, hf⟩ := x
  rw [cT] at hl
  match cs, hl with
  | [v0, v1, v2], _ =>
   simp only [List.forall_mem_cons, c3, cL, List.drop_zero, List.drop_succ_cons, List.take_succ_cons, List.take_zero] at hf
   obtain ⟨f0, f1, f2, _⟩ := hf
   obtain ⟨a, l, rfl, h1, h2, h3⟩ := rd_ints f0
   obtain ⟨b, y, rfl, h4, h5, h6⟩ := rd_ints f1
   obtain ⟨n2, e2, _⟩ := f2.int Try.underlying3
   injection e2 with e2 _
   subst e2
   exact ⟨a, b, ⟨l, y, n2⟩, rfl, h1, h4, ⟨h2, h5⟩, h3, h6⟩
theorem gensOk_entry {base : Nat} {h : AH} {f f2 f3 : Nat} {cs : List Value} {v w : Value} (x : Rd Try.prog h f 48 cs) (y : Rd Try.prog h f2 25 [v]) (z : Rd Try.prog h f3 22 [w]) (hb : base ≤ h.length) : ∃ h', run (Et base) 5 [.agg cs.toArray, v, w] h = some (.bool true, h') := by
 obtain ⟨a, b, G, rfl, h1, h2, h3, h4, h5⟩ := rd_gens x
 obtain ⟨sa, ats, rfl, s1, s2, s3⟩ := rd_strs y
 obtain ⟨ia, l, rfl, i1, i2, i3⟩ := rd_ints z
 obtain ⟨⟨u, h'⟩, e, q⟩ := gensOk_law (base := base) h1 h2 (by have := s1; unfold maxLen at this; exact this) h4 h5 s3 i3 h3 s2 i2 hb
 simp only at q
 exact ⟨h', by rw [e, q]⟩
end Go.Proofs.Ytjmkbglnjklbcaa.Am
