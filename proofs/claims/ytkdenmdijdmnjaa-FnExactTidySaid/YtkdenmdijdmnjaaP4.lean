/- What the functions of this law compute, lemma by lemma, up to the law.
Conditions: none. -/
import Derived.Test.YtkdenmdijdmnjaaP3
import Derived.IntWalk
import Derived.Laws.BitsLemmas

set_option linter.unusedSimpArgs false
set_option linter.unusedVariables false
namespace Go.Proofs.Ytkdenmdijdmnjaa.Am
open Go Go.RowKit
theorem tidy_law {base : Nat} {h : AH} {oa ya aa ra : Option Addr} {G : Gn} {ats : List ByteArray} {roots : List Int} {om ym : Int} (m1 : G.old.length≤maxLen) (m2 : G.young.length≤maxLen) (m3 : ats.length≤9223372036854775807) (w1 : ∀ n ∈ G.old,wOk n) (w2 : ∀ n ∈ G.young,wOk n) (hz : ∀ s ∈ ats,s.size≤maxLen) (hr : ∀ w ∈ roots,wOk w) (x : GnS h oa ya G) (xa : Sl h aa (stV ats)) (xr : Sl h ra (iv .i64 roots)) (hb : base≤h.length) :
  Wp (run (Et base) 8 ([.agg (gensV oa ya G).toArray,.slice aa ats.length ats.length,.slice ra roots.length roots.length] ++ [.int .i64 om,.int .i64 ym]) h) fun r=>r.1 = .bool true:=by
 have gk : ∀ {y},KB NoB h y→GnS y oa ya G:=fun k=>⟨x.1.keepN k,x.2.keepN k⟩
 have d:=Hs.start hb
 refine W.of (fun r hx=>Am.r8 hx) ?_
 ((try simp only [n1,n2,n3,n4,n5,n6] at d); (with_reducible repeat first|refine W.a1 d ?_|refine W.a2 ?_|refine W.a3 ?_|refine W.bo ?_|refine W.a5 d fun hw d lw kw=>?_|refine W.a6 d ?_|refine W.a7 ?_|refine W.a8 ?_); (refine W.nD d fun p1 d _ kp1=>?_); (with_reducible repeat first|refine W.a1 d ?_|refine W.a2 ?_|refine W.a3 ?_|refine W.bo ?_|refine W.a5 d fun hw d lw kw=>?_|refine W.a6 d ?_|refine W.a7 ?_|refine W.a8 ?_))
 refine W.ite (fun c=>W.ret rfl) (fun c=>?_)
 have c : ¬ (roots.length : Int) > 1048576:=by simpa using c
 ((try simp only [n1,n2,n3,n4,n5,n6] at d); (with_reducible repeat first|refine W.a1 d ?_|refine W.a2 ?_|refine W.a3 ?_|refine W.bo ?_|refine W.a5 d fun hw d lw kw=>?_|refine W.a6 d ?_|refine W.a7 ?_|refine W.a8 ?_))
 obtain ⟨z1,h1,e1,k1,a1,a2,a3⟩:=szGens_run (base:=base) (oa:=oa) (ya:=ya) (G:=G) (left:=1048576) m1 m2 d.ge (by omega) (by omega)
 have d:=d.kN k1
 refine W.bs e1 ?_
 ((try simp only [n1,n2,n3,n4,n5,n6] at d); (with_reducible repeat first|refine W.a1 d ?_|refine W.a2 ?_|refine W.a3 ?_|refine W.bo ?_|refine W.a5 d fun hw d lw kw=>?_|refine W.a6 d ?_|refine W.a7 ?_|refine W.a8 ?_))
 refine W.ite (fun c=>W.ret rfl) (fun c1=>?_)
 have c1 : ¬ z1 < 0:=by simpa using c1
 have a3:=a3 c1
 obtain ⟨z2,e2,b1,b2,b3⟩:=szStringS_run (base:=base) (left:=z1) m3 hz (xa.keepN d.kb) (by omega) (by omega)
 refine W.bs e2 ?_
 ((try simp only [n1,n2,n3,n4,n5,n6] at d); (with_reducible repeat first|refine W.a1 d ?_|refine W.a2 ?_|refine W.a3 ?_|refine W.bo ?_|refine W.a5 d fun hw d lw kw=>?_|refine W.a6 d ?_|refine W.a7 ?_|refine W.a8 ?_))
 refine W.ite (fun c=>W.ret rfl) (fun c2=>?_)
 have c2 : ¬ z2 < 0:=by simpa using c2
 have b3:=b3 c2
 have hG : G.Ok:=⟨by omega,by omega,w1,w2⟩
 have ha : ats.length≤1048576:=by omega
 have hrl : roots.length≤1048576:=by omega
 have swOf : ∀ {y : AH} {a b s i : Option Addr},Own base 3 y a (iv .i64 G.old)→Own base 3 y b (iv .i64 G.young)→Own base 9 y s (stV ats)→Own base 3 y i (iv .i64 roots)→SwA base a b G s ats i roots y:=fun o1 o2 o3 o4=>⟨⟨TyOk.own o1,TyOk.own o2,TyOk.own o3,⟨o1.sl,o2.sl⟩,o3.sl⟩,o4.sl,TyOk.own o4⟩
 ((try simp only [n1,n2,n3,n4,n5,n6] at d); (with_reducible repeat first|refine W.a1 d ?_|refine W.a2 ?_|refine W.a3 ?_|refine W.bo ?_|refine W.a5 d fun hw d lw kw=>?_|refine W.a6 d ?_|refine W.a7 ?_|refine W.a8 ?_))
 obtain ⟨wa1,wb1,h4,e4,d,_⟩:=d.toGn hG.1 hG.2.1 (gk d.kb)
 refine W.bs e4 ?_
 ((try simp only [n1,n2,n3,n4,n5,n6] at d); (with_reducible repeat first|refine W.a1 d ?_|refine W.a2 ?_|refine W.a3 ?_|refine W.bo ?_|refine W.a5 d fun hw d lw kw=>?_|refine W.a6 d ?_|refine W.a7 ?_|refine W.a8 ?_))
 obtain ⟨sa1,h5,e5,d,_⟩:=d.toSt ha (xa.keepN d.kb)
 refine W.bs e5 ?_
 ((try simp only [n1,n2,n3,n4,n5,n6] at d); (with_reducible repeat first|refine W.a1 d ?_|refine W.a2 ?_|refine W.a3 ?_|refine W.bo ?_|refine W.a5 d fun hw d lw kw=>?_|refine W.a6 d ?_|refine W.a7 ?_|refine W.a8 ?_))
 obtain ⟨ra1,h6,e6,d,_⟩:=d.toIn hrl (xr.keepN d.kb)
 refine W.bs e6 ?_
 ((try simp only [n1,n2,n3,n4,n5,n6] at d); (with_reducible repeat first|refine W.a1 d ?_|refine W.a2 ?_|refine W.a3 ?_|refine W.bo ?_|refine W.a5 d fun hw d lw kw=>?_|refine W.a6 d ?_|refine W.a7 ?_|refine W.a8 ?_))
 obtain ⟨wq,vq,rq,h7,e7,dq⟩:=specTidy_run (base:=base) (x:=om) (y:=ym) h6 G ats roots wa1 wb1 sa1 ra1 hG ha hz hr hrl (swOf (d.rs (i:=0) rfl) (d.rs (i:=1) rfl) (d.rs (i:=2) rfl) (d.rs (i:=3) rfl)) d.ge
 have d:=d.callR dq (by simp)
 refine W.bs e7 ?_
 obtain ⟨q1l,q2l,q3l⟩:=tdy_len G ats roots hG hr hrl om ym
 generalize hQ : tdy G ats roots om ym = q at d q1l q2l q3l ⊢
 ((try simp only [n1,n2,n3,n4,n5,n6] at d); (with_reducible repeat first|refine W.a1 d ?_|refine W.a2 ?_|refine W.a3 ?_|refine W.bo ?_|refine W.a5 d fun hw d lw kw=>?_|refine W.a6 d ?_|refine W.a7 ?_|refine W.a8 ?_); (refine W.nD d fun w1 d _ kw1=>?_); (with_reducible repeat first|refine W.a1 d ?_|refine W.a2 ?_|refine W.a3 ?_|refine W.bo ?_|refine W.a5 d fun hw d lw kw=>?_|refine W.a6 d ?_|refine W.a7 ?_|refine W.a8 ?_))
 obtain ⟨wa2,wb2,h8,e8,d,_⟩:=d.toGn hG.1 hG.2.1 (gk d.kb)
 refine W.bs e8 ?_
 ((try simp only [n1,n2,n3,n4,n5,n6] at d); (with_reducible repeat first|refine W.a1 d ?_|refine W.a2 ?_|refine W.a3 ?_|refine W.bo ?_|refine W.a5 d fun hw d lw kw=>?_|refine W.a6 d ?_|refine W.a7 ?_|refine W.a8 ?_); (refine W.nD d fun w2 d _ kw2=>?_); (with_reducible repeat first|refine W.a1 d ?_|refine W.a2 ?_|refine W.a3 ?_|refine W.bo ?_|refine W.a5 d fun hw d lw kw=>?_|refine W.a6 d ?_|refine W.a7 ?_|refine W.a8 ?_))
 obtain ⟨sa2,h9,e9,d,_⟩:=d.toSt ha (xa.keepN d.kb)
 refine W.bs e9 ?_
 ((try simp only [n1,n2,n3,n4,n5,n6] at d); (with_reducible repeat first|refine W.a1 d ?_|refine W.a2 ?_|refine W.a3 ?_|refine W.bo ?_|refine W.a5 d fun hw d lw kw=>?_|refine W.a6 d ?_|refine W.a7 ?_|refine W.a8 ?_))
 obtain ⟨ra2,h10,e10,d,_⟩:=d.toIn hrl (xr.keepN d.kb)
 refine W.bs e10 ?_
 ((try simp only [n1,n2,n3,n4,n5,n6] at d); (with_reducible repeat first|refine W.a1 d ?_|refine W.a2 ?_|refine W.a3 ?_|refine W.bo ?_|refine W.a5 d fun hw d lw kw=>?_|refine W.a6 d ?_|refine W.a7 ?_|refine W.a8 ?_))
 obtain ⟨wg,vg,rg,h11,e11,dg⟩:=implTidy_run (base:=base) (x:=om) (y:=ym) h10 G ats roots wa2 wb2 sa2 ra2 hG ha hz hr hrl (swOf (d.rs (i:=7) rfl) (d.rs (i:=8) rfl) (d.rs (i:=9) rfl) (d.rs (i:=10) rfl)) d.ge
 have d:=d.callR dg (by simp)
 refine W.bs e11 ?_
 rw [hQ] at d ⊢
 ((try simp only [n1,n2,n3,n4,n5,n6] at d); (with_reducible repeat first|refine W.a1 d ?_|refine W.a2 ?_|refine W.a3 ?_|refine W.bo ?_|refine W.a5 d fun hw d lw kw=>?_|refine W.a6 d ?_|refine W.a7 ?_|refine W.a8 ?_); (refine W.nD d fun w4 d _ kw4=>?_); (with_reducible repeat first|refine W.a1 d ?_|refine W.a2 ?_|refine W.a3 ?_|refine W.bo ?_|refine W.a5 d fun hw d lw kw=>?_|refine W.a6 d ?_|refine W.a7 ?_|refine W.a8 ?_))
 apply W.jb false d
 ·((try simp only [n1,n2,n3,n4,n5,n6] at d); (with_reducible repeat first|refine W.a1 d ?_|refine W.a2 ?_|refine W.a3 ?_|refine W.bo ?_|refine W.a5 d fun hw d lw kw=>?_|refine W.a6 d ?_|refine W.a7 ?_|refine W.a8 ?_))
  obtain ⟨hx1,ex1,kx1⟩:=eqGens_run (base:=base) (G:=q.1.1) q1l q2l ⟨Own.sl (d.rs (i:=11) rfl),Own.sl (d.rs (i:=12) rfl)⟩ ⟨Own.sl (d.rs (i:=4) rfl),Own.sl (d.rs (i:=5) rfl)⟩ d.ge
  refine W.bs ex1 ?_
  have d:=d.kN kx1
  ((try simp only [n1,n2,n3,n4,n5,n6] at d); (with_reducible repeat first|refine W.a1 d ?_|refine W.a2 ?_|refine W.a3 ?_|refine W.bo ?_|refine W.a5 d fun hw d lw kw=>?_|refine W.a6 d ?_|refine W.a7 ?_|refine W.a8 ?_))
  refine W.ifF (by decide) ?_
  refine W.bs (eqIntS_run (base:=base) (Own.sl (d.rs (i:=13) rfl)) (Own.sl (d.rs (i:=6) rfl)) (by omega)) ?_
  ((try simp only [n1,n2,n3,n4,n5,n6] at d); (with_reducible repeat first|refine W.a1 d ?_|refine W.a2 ?_|refine W.a3 ?_|refine W.bo ?_|refine W.a5 d fun hw d lw kw=>?_|refine W.a6 d ?_|refine W.a7 ?_|refine W.a8 ?_))
  refine W.ifF (by simp) ?_
  exact W.lb rfl (by simp) kx1
 intro hj1 d nj1
 ((try simp only [n1,n2,n3,n4,n5,n6] at d); (with_reducible repeat first|refine W.a1 d ?_|refine W.a2 ?_|refine W.a3 ?_|refine W.bo ?_|refine W.a5 d fun hw d lw kw=>?_|refine W.a6 d ?_|refine W.a7 ?_|refine W.a8 ?_))
 refine W.ifF (by decide) ?_
 ((try simp only [n1,n2,n3,n4,n5,n6] at d); (with_reducible repeat first|refine W.a1 d ?_|refine W.a2 ?_|refine W.a3 ?_|refine W.bo ?_|refine W.a5 d fun hw d lw kw=>?_|refine W.a6 d ?_|refine W.a7 ?_|refine W.a8 ?_))
 obtain ⟨wa3,wb3,h12,e12,d,_⟩:=d.toGn hG.1 hG.2.1 (gk d.kb)
 refine W.bs e12 ?_
 ((try simp only [n1,n2,n3,n4,n5,n6] at d); (with_reducible repeat first|refine W.a1 d ?_|refine W.a2 ?_|refine W.a3 ?_|refine W.bo ?_|refine W.a5 d fun hw d lw kw=>?_|refine W.a6 d ?_|refine W.a7 ?_|refine W.a8 ?_))
 obtain ⟨h13,e13,k13⟩:=eqGens_run (base:=base) hG.1 hG.2.1 ⟨Own.sl (d.rs (i:=7) rfl),Own.sl (d.rs (i:=8) rfl)⟩ ⟨Own.sl (d.rs (i:=14) rfl),Own.sl (d.rs (i:=15) rfl)⟩ d.ge
 refine W.bs e13 ?_
 have d:=d.kN k13
 ((try simp only [n1,n2,n3,n4,n5,n6] at d); (with_reducible repeat first|refine W.a1 d ?_|refine W.a2 ?_|refine W.a3 ?_|refine W.bo ?_|refine W.a5 d fun hw d lw kw=>?_|refine W.a6 d ?_|refine W.a7 ?_|refine W.a8 ?_))
 refine W.ifF (by decide) ?_
 obtain ⟨sa3,h14,e14,d,_⟩:=d.toSt ha (xa.keepN d.kb)
 refine W.bs e14 ?_
 ((try simp only [n1,n2,n3,n4,n5,n6] at d); (with_reducible repeat first|refine W.a1 d ?_|refine W.a2 ?_|refine W.a3 ?_|refine W.bo ?_|refine W.a5 d fun hw d lw kw=>?_|refine W.a6 d ?_|refine W.a7 ?_|refine W.a8 ?_))
 refine W.bs (eqStringS_run (base:=base) (l:=ats) (by omega) (Own.sl (d.rs (i:=9) rfl)) (Own.sl (d.rs (i:=16) rfl))) ?_
 ((try simp only [n1,n2,n3,n4,n5,n6] at d); (with_reducible repeat first|refine W.a1 d ?_|refine W.a2 ?_|refine W.a3 ?_|refine W.bo ?_|refine W.a5 d fun hw d lw kw=>?_|refine W.a6 d ?_|refine W.a7 ?_|refine W.a8 ?_))
 refine W.ifF (by decide) ?_
 obtain ⟨ra3,h15,e15,d,_⟩:=d.toIn hrl (xr.keepN d.kb)
 refine W.bs e15 ?_
 ((try simp only [n1,n2,n3,n4,n5,n6] at d); (with_reducible repeat first|refine W.a1 d ?_|refine W.a2 ?_|refine W.a3 ?_|refine W.bo ?_|refine W.a5 d fun hw d lw kw=>?_|refine W.a6 d ?_|refine W.a7 ?_|refine W.a8 ?_))
 refine W.bs (eqIntS_run (base:=base) (Own.sl (d.rs (i:=10) rfl)) (Own.sl (d.rs (i:=17) rfl)) (by omega)) ?_
 ((try simp only [n1,n2,n3,n4,n5,n6] at d); (with_reducible repeat first|refine W.a1 d ?_|refine W.a2 ?_|refine W.a3 ?_|refine W.bo ?_|refine W.a5 d fun hw d lw kw=>?_|refine W.a6 d ?_|refine W.a7 ?_|refine W.a8 ?_))
 refine W.ifF (by simp) ?_
 ((try simp only [n1,n2,n3,n4,n5,n6] at d); (with_reducible repeat first|refine W.a1 d ?_|refine W.a2 ?_|refine W.a3 ?_|refine W.bo ?_|refine W.a5 d fun hw d lw kw=>?_|refine W.a6 d ?_|refine W.a7 ?_|refine W.a8 ?_))
 obtain ⟨h17,e17,d⟩:=d.markGn (i:=7) (j:=8) (k:=1) (a:=wa2) (b:=wb2) (G:=G) rfl rfl (by omega) (by omega) (by omega)
 refine W.bs e17 ?_
 ((try simp only [n1,n2,n3,n4,n5,n6] at d); (with_reducible repeat first|refine W.a1 d ?_|refine W.a2 ?_|refine W.a3 ?_|refine W.bo ?_|refine W.a5 d fun hw d lw kw=>?_|refine W.a6 d ?_|refine W.a7 ?_|refine W.a8 ?_))
 obtain ⟨h18,e18,d⟩:=d.markS (i:=9) (k:=1 + G.old.length + G.young.length) (a:=sa2) (l:=ats) rfl (by omega) (by omega)
 refine W.bs e18 ?_
 ((try simp only [n1,n2,n3,n4,n5,n6] at d); (with_reducible repeat first|refine W.a1 d ?_|refine W.a2 ?_|refine W.a3 ?_|refine W.bo ?_|refine W.a5 d fun hw d lw kw=>?_|refine W.a6 d ?_|refine W.a7 ?_|refine W.a8 ?_))
 obtain ⟨h19,e19,d⟩:=d.markW (i:=10) (k:=1 + G.old.length + G.young.length + ats.length) (a:=ra2) (l:=roots) rfl (by omega) (by omega)
 refine W.bs e19 ?_
 ((try simp only [n1,n2,n3,n4,n5,n6] at d); (with_reducible repeat first|refine W.a1 d ?_|refine W.a2 ?_|refine W.a3 ?_|refine W.bo ?_|refine W.a5 d fun hw d lw kw=>?_|refine W.a6 d ?_|refine W.a7 ?_|refine W.a8 ?_))
 apply W.jb false d
 ·((try simp only [n1,n2,n3,n4,n5,n6] at d); (with_reducible repeat first|refine W.a1 d ?_|refine W.a2 ?_|refine W.a3 ?_|refine W.bo ?_|refine W.a5 d fun hw d lw kw=>?_|refine W.a6 d ?_|refine W.a7 ?_|refine W.a8 ?_))
  refine W.ifF (by simp; omega) ?_
  ((try simp only [n1,n2,n3,n4,n5,n6] at d); (with_reducible repeat first|refine W.a1 d ?_|refine W.a2 ?_|refine W.a3 ?_|refine W.bo ?_|refine W.a5 d fun hw d lw kw=>?_|refine W.a6 d ?_|refine W.a7 ?_|refine W.a8 ?_))
  obtain ⟨hx2,ex2,kx2⟩:=eqGens_run (base:=base) (G:=q.1.1) q1l q2l ⟨Own.sl (d.rs (i:=11) rfl),Own.sl (d.rs (i:=12) rfl)⟩ ⟨Own.sl (d.rs (i:=4) rfl),Own.sl (d.rs (i:=5) rfl)⟩ d.ge
  refine W.bs ex2 ?_
  have d:=d.kN kx2
  ((try simp only [n1,n2,n3,n4,n5,n6] at d); (with_reducible repeat first|refine W.a1 d ?_|refine W.a2 ?_|refine W.a3 ?_|refine W.bo ?_|refine W.a5 d fun hw d lw kw=>?_|refine W.a6 d ?_|refine W.a7 ?_|refine W.a8 ?_))
  refine W.ifF (by decide) ?_
  refine W.bs (eqIntS_run (base:=base) (Own.sl (d.rs (i:=13) rfl)) (Own.sl (d.rs (i:=6) rfl)) (by omega)) ?_
  ((try simp only [n1,n2,n3,n4,n5,n6] at d); (with_reducible repeat first|refine W.a1 d ?_|refine W.a2 ?_|refine W.a3 ?_|refine W.bo ?_|refine W.a5 d fun hw d lw kw=>?_|refine W.a6 d ?_|refine W.a7 ?_|refine W.a8 ?_))
  refine W.ifF (by simp) ?_
  exact W.lb rfl (by simp) kx2
 intro hj2 d nj2
 ((try simp only [n1,n2,n3,n4,n5,n6] at d); (with_reducible repeat first|refine W.a1 d ?_|refine W.a2 ?_|refine W.a3 ?_|refine W.bo ?_|refine W.a5 d fun hw d lw kw=>?_|refine W.a6 d ?_|refine W.a7 ?_|refine W.a8 ?_))
 refine W.ifF (by decide) ?_
 ((try simp only [n1,n2,n3,n4,n5,n6] at d); (with_reducible repeat first|refine W.a1 d ?_|refine W.a2 ?_|refine W.a3 ?_|refine W.bo ?_|refine W.a5 d fun hw d lw kw=>?_|refine W.a6 d ?_|refine W.a7 ?_|refine W.a8 ?_))
 obtain ⟨h20,e20,d⟩:=d.markGn (i:=11) (j:=12) (k:=1) (a:=wg) (b:=vg) (G:=q.1.1) rfl rfl (by omega) (by omega) (by omega)
 refine W.bs e20 ?_
 ((try simp only [n1,n2,n3,n4,n5,n6] at d); (with_reducible repeat first|refine W.a1 d ?_|refine W.a2 ?_|refine W.a3 ?_|refine W.bo ?_|refine W.a5 d fun hw d lw kw=>?_|refine W.a6 d ?_|refine W.a7 ?_|refine W.a8 ?_))
 obtain ⟨h21,e21,d⟩:=d.markW (i:=13) (k:=1 + q.1.1.old.length + q.1.1.young.length) (a:=rg) (l:=q.1.2) rfl (by omega) (by omega)
 refine W.bs e21 ?_
 ((try simp only [n1,n2,n3,n4,n5,n6] at d); (with_reducible repeat first|refine W.a1 d ?_|refine W.a2 ?_|refine W.a3 ?_|refine W.bo ?_|refine W.a5 d fun hw d lw kw=>?_|refine W.a6 d ?_|refine W.a7 ?_|refine W.a8 ?_))
 obtain ⟨h22,e22,k22⟩:=heldGens_run (base:=base) (k:=1) (G:=q.1.1) (Own.sl (d.rs (i:=11) rfl)) (Own.sl (d.rs (i:=12) rfl)) (by omega) (by omega) (by omega) d.ge
 refine W.bs e22 ?_
 have d:=d.kN k22
 ((try simp only [n1,n2,n3,n4,n5,n6] at d); (with_reducible repeat first|refine W.a1 d ?_|refine W.a2 ?_|refine W.a3 ?_|refine W.bo ?_|refine W.a5 d fun hw d lw kw=>?_|refine W.a6 d ?_|refine W.a7 ?_|refine W.a8 ?_))
 refine W.ifF (by simp; omega) ?_
 refine W.bs (heldIntS_run (base:=base) (k:=1 + q.1.1.old.length + q.1.1.young.length) (n:=q.1.2.length) (Own.sl (d.rs (i:=13) rfl)) (by omega) (by omega)) ?_
 ((try simp only [n1,n2,n3,n4,n5,n6] at d); (with_reducible repeat first|refine W.a1 d ?_|refine W.a2 ?_|refine W.a3 ?_|refine W.bo ?_|refine W.a5 d fun hw d lw kw=>?_|refine W.a6 d ?_|refine W.a7 ?_|refine W.a8 ?_))
 refine W.ifF (by simp; omega) ?_
 refine W.ifF (by simp) ?_
 ((try simp only [n1,n2,n3,n4,n5,n6] at d); (with_reducible repeat first|refine W.a1 d ?_|refine W.a2 ?_|refine W.a3 ?_|refine W.bo ?_|refine W.a5 d fun hw d lw kw=>?_|refine W.a6 d ?_|refine W.a7 ?_|refine W.a8 ?_))
 obtain ⟨wa4,wb4,h24,e24,d,_⟩:=d.toGn hG.1 hG.2.1 (gk d.kb)
 refine W.bs e24 ?_
 ((try simp only [n1,n2,n3,n4,n5,n6] at d); (with_reducible repeat first|refine W.a1 d ?_|refine W.a2 ?_|refine W.a3 ?_|refine W.bo ?_|refine W.a5 d fun hw d lw kw=>?_|refine W.a6 d ?_|refine W.a7 ?_|refine W.a8 ?_))
 obtain ⟨sa4,h25,e25,d,_⟩:=d.toSt ha (xa.keepN d.kb)
 refine W.bs e25 ?_
 ((try simp only [n1,n2,n3,n4,n5,n6] at d); (with_reducible repeat first|refine W.a1 d ?_|refine W.a2 ?_|refine W.a3 ?_|refine W.bo ?_|refine W.a5 d fun hw d lw kw=>?_|refine W.a6 d ?_|refine W.a7 ?_|refine W.a8 ?_))
 obtain ⟨ra4,h26,e26,d,_⟩:=d.toIn hrl (xr.keepN d.kb)
 refine W.bs e26 ?_
 ((try simp only [n1,n2,n3,n4,n5,n6] at d); (with_reducible repeat first|refine W.a1 d ?_|refine W.a2 ?_|refine W.a3 ?_|refine W.bo ?_|refine W.a5 d fun hw d lw kw=>?_|refine W.a6 d ?_|refine W.a7 ?_|refine W.a8 ?_))
 obtain ⟨wh,vh,rh,h27,e27,dh⟩:=implTidy_run (base:=base) (x:=om) (y:=ym) h26 G ats roots wa4 wb4 sa4 ra4 hG ha hz hr hrl (swOf (d.rs (i:=18) rfl) (d.rs (i:=19) rfl) (d.rs (i:=20) rfl) (d.rs (i:=21) rfl)) d.ge
 have d:=d.callR dh (by simp)
 refine W.bs e27 ?_
 rw [hQ] at d ⊢
 ((try simp only [n1,n2,n3,n4,n5,n6] at d); (with_reducible repeat first|refine W.a1 d ?_|refine W.a2 ?_|refine W.a3 ?_|refine W.bo ?_|refine W.a5 d fun hw d lw kw=>?_|refine W.a6 d ?_|refine W.a7 ?_|refine W.a8 ?_); (refine W.nD d fun w5 d _ kw5=>?_); (with_reducible repeat first|refine W.a1 d ?_|refine W.a2 ?_|refine W.a3 ?_|refine W.bo ?_|refine W.a5 d fun hw d lw kw=>?_|refine W.a6 d ?_|refine W.a7 ?_|refine W.a8 ?_))
 apply W.jb false d
 ·((try simp only [n1,n2,n3,n4,n5,n6] at d); (with_reducible repeat first|refine W.a1 d ?_|refine W.a2 ?_|refine W.a3 ?_|refine W.bo ?_|refine W.a5 d fun hw d lw kw=>?_|refine W.a6 d ?_|refine W.a7 ?_|refine W.a8 ?_))
  obtain ⟨hx3,ex3,kx3⟩:=eqGens_run (base:=base) (G:=q.1.1) q1l q2l ⟨Own.sl (d.rs (i:=22) rfl),Own.sl (d.rs (i:=23) rfl)⟩ ⟨Own.sl (d.rs (i:=4) rfl),Own.sl (d.rs (i:=5) rfl)⟩ d.ge
  refine W.bs ex3 ?_
  have d:=d.kN kx3
  ((try simp only [n1,n2,n3,n4,n5,n6] at d); (with_reducible repeat first|refine W.a1 d ?_|refine W.a2 ?_|refine W.a3 ?_|refine W.bo ?_|refine W.a5 d fun hw d lw kw=>?_|refine W.a6 d ?_|refine W.a7 ?_|refine W.a8 ?_))
  refine W.ifF (by decide) ?_
  refine W.bs (eqIntS_run (base:=base) (Own.sl (d.rs (i:=24) rfl)) (Own.sl (d.rs (i:=6) rfl)) (by omega)) ?_
  ((try simp only [n1,n2,n3,n4,n5,n6] at d); (with_reducible repeat first|refine W.a1 d ?_|refine W.a2 ?_|refine W.a3 ?_|refine W.bo ?_|refine W.a5 d fun hw d lw kw=>?_|refine W.a6 d ?_|refine W.a7 ?_|refine W.a8 ?_))
  refine W.ifF (by simp) ?_
  exact W.lb rfl (by simp) kx3
 intro hj3 d nj3
 ((try simp only [n1,n2,n3,n4,n5,n6] at d); (with_reducible repeat first|refine W.a1 d ?_|refine W.a2 ?_|refine W.a3 ?_|refine W.bo ?_|refine W.a5 d fun hw d lw kw=>?_|refine W.a6 d ?_|refine W.a7 ?_|refine W.a8 ?_))
 refine W.ifF (by decide) ?_
 ((try simp only [n1,n2,n3,n4,n5,n6] at d); (with_reducible repeat first|refine W.a1 d ?_|refine W.a2 ?_|refine W.a3 ?_|refine W.bo ?_|refine W.a5 d fun hw d lw kw=>?_|refine W.a6 d ?_|refine W.a7 ?_|refine W.a8 ?_))
 obtain ⟨h28,e28,k28⟩:=heldGens_run (base:=base) (k:=1) (G:=q.1.1) (Own.sl (d.rs (i:=11) rfl)) (Own.sl (d.rs (i:=12) rfl)) (by omega) (by omega) (by omega) d.ge
 refine W.bs e28 ?_
 have d:=d.kN k28
 ((try simp only [n1,n2,n3,n4,n5,n6] at d); (with_reducible repeat first|refine W.a1 d ?_|refine W.a2 ?_|refine W.a3 ?_|refine W.bo ?_|refine W.a5 d fun hw d lw kw=>?_|refine W.a6 d ?_|refine W.a7 ?_|refine W.a8 ?_))
 refine W.ifF (by simp; omega) ?_
 refine W.bs (heldIntS_run (base:=base) (k:=1 + q.1.1.old.length + q.1.1.young.length) (n:=q.1.2.length) (Own.sl (d.rs (i:=13) rfl)) (by omega) (by omega)) ?_
 ((try simp only [n1,n2,n3,n4,n5,n6] at d); (with_reducible repeat first|refine W.a1 d ?_|refine W.a2 ?_|refine W.a3 ?_|refine W.bo ?_|refine W.a5 d fun hw d lw kw=>?_|refine W.a6 d ?_|refine W.a7 ?_|refine W.a8 ?_))
 refine W.ifF (by simp; omega) ?_
 refine W.ifF (by simp) (W.ret rfl)
theorem tidy_entry {base : Nat} {h : AH} {f f2 f3 : Nat} {cs : List Value} {v w : Value} {om ym : Int} (x : Rd Try.prog h f 58 cs) (y : Rd Try.prog h f2 59 [v]) (z : Rd Try.prog h f3 52 [w]) (hb : base≤h.length) : ∃ h',run (Et base) 8 ([.agg cs.toArray,v,w] ++ [.int .i64 om,.int .i64 ym]) h = some (.bool true,h'):=by
 obtain ⟨a,b,G,rfl,h1,h2,h3,h4,h5⟩:=rd_gens x
 obtain ⟨sa,ats,rfl,s1,s2,s3⟩:=rd_strs y
 obtain ⟨ia,l,rfl,i1,i2,i3⟩:=rd_ints z
 obtain ⟨⟨u,h'⟩,e,q⟩:=tidy_law (base:=base) (om:=om) (ym:=ym) h1 h2 (by have:=s1; unfold maxLen at this; exact this) h4 h5 s3 i3 h3 s2 i2 hb
 simp only at q
 exact ⟨h',by rw [e,q]⟩
end Go.Proofs.Ytkdenmdijdmnjaa.Am
