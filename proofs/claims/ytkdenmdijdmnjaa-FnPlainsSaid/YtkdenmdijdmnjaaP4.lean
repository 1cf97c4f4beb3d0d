/- What the functions of this law compute, lemma by lemma, up to the law.
Conditions: none. -/
import Derived.Test.YtkdenmdijdmnjaaP3
import Derived.DataShut
import Derived.IntWalk
import Derived.Laws.BitsLemmas
set_option linter.unusedSimpArgs false
set_option linter.unusedVariables false
namespace Go.Proofs.Ytkdenmdijdmnjaa.Am
open Go Go.RowKit

theorem ofRows {base : Nat} {h : AH} {P : Pl} {a b g : Option Addr} {S So : Fp} (c : Sl h a (insR P.code)) (x : RowO base 54 5 (AcG base 10) S h P.acs b) (o : RowO base 140 6 (SdD 10) So h P.out g) (l1 : ∀ b,S b→b < h.length) (l2 : ∀ b,So b→b < h.length) : PlR h (fun b=>b < h.length) 10 P (plV a P.code.length b P.acs.length P.next g P.out.length):=
 ⟨a,b,g,rfl,c,sl_below c,(RowO.asR x).monoP l1,(RowD.ssR o.d).monoP l2⟩
theorem plains_loop {base pb qb : Nat} {P : Pl} {a b g : Option Addr} {V : Fp} {h0 : AH} {Sc S : Fp} {mc mu : Bool} {Q : Nat × Nat × List Value} (gp : GP 10 P) : ∀ (m i : Nat) (h : AH),i + m = P.acs.length→Hs base V h0 h [(pb,36,plV a P.code.length b P.acs.length P.next g P.out.length)] [rCo Sc mc a P.code,⟨S,mu,fun y=>RowO base 54 5 (AcG base 10) S y P.acs b⟩] →
  Wp (loopL (B4_0 base) [some (.pointer (at0 pb)),some (.pointer (at0 qb)),some (.int .i64 (i : Int))] h) fun o=>o.1 = 2∧o.2.1 = [some (.pointer (at0 pb)),some (.pointer (at0 qb))]∧Hs base V h0 o.2.2 [(pb,36,plV a P.code.length b P.acs.length P.next g P.out.length)] [rCo Sc mc a P.code,⟨S,mu,fun y=>RowO base 54 5 (AcG base 10) S y P.acs b⟩]:=by
 intro m
 have hl:=gp.len
 have hM:=gp.qb.m
 induction m with
 | zero=>
  intro i h hi d
  have hi' : i = P.acs.length:=by omega
  subst hi'
  suffices w : Wp (B4_0 base [some (.pointer (at0 pb)),some (.pointer (at0 qb)),some (.int .i64 (P.acs.length : Int))] h) fun o=>o = (2,[some (.pointer (at0 pb)),some (.pointer (at0 qb))],h) by
   obtain ⟨o,e,rfl⟩:=w
   exact ⟨_,loop_off (by decide) e,rfl,rfl,d⟩
  rw [B4_0_eq]
  ((with_reducible repeat refine W.a1 d ?_))
  exact W.ifF (by simp) (W.ret rfl)
 | succ m ih=>
  intro i h hi d
  have hlt : i < P.acs.length:=by omega
  suffices w : Wp (B4_0 base [some (.pointer (at0 pb)),some (.pointer (at0 qb)),some (.int .i64 (i : Int))] h) fun o=>o.1 = 0∧o.2.1 = [some (.pointer (at0 pb)),some (.pointer (at0 qb)),some (.int .i64 ((i + 1 : Nat) : Int))]∧Hs base V h0 o.2.2 [(pb,36,plV a P.code.length b P.acs.length P.next g P.out.length)] [rCo Sc mc a P.code,⟨S,mu,fun y=>RowO base 54 5 (AcG base 10) S y P.acs b⟩] by
   obtain ⟨⟨o1,o2,h'⟩,e,y1,y2,k⟩:=w
   simp only at y1 y2 k
   subst y1; subst y2
   obtain ⟨o,eo,q1,q2,q3⟩:=ih (i + 1) h' (by omega) k
   exact ⟨o,loop_on e eo,q1,q2,q3⟩
  have hok:=gp.ac _ (List.getElem_mem hlt)
  have hpn:=gp.lt _ (List.getElem_mem hlt)
  have row : RowO base 54 5 (AcG base 10) S h P.acs b:=d.rs (i:=1) rfl
  obtain ⟨ad,x1,x2,x3,rfl,hbl,g0,g1,g2,g3,g4,hmm,hlk⟩:=AsR.get (RowO.asR row) hlt
  have hcode : Sl h a (insR P.code):=d.rs (i:=0) rfl
  obtain ⟨h2,e2,k2⟩:=implActorOk_run (base:=base) hM.2.1 hM.1 hcode (hM.2.2.2.1 _ (List.getElem_mem hlt)) hmm d.ge
  rw [hok] at e2
  have core : ∀ {Q' : Nat × Slots × AH→Prop},Wp (((run (Et base) 25 [.slice a P.code.length P.code.length,.agg (acV P.acs[i].pid P.acs[i].pc x1 P.acs[i].regs.length x2 P.acs[i].box.length x3 P.acs[i].links.length).toArray] h).bind fun r=>((some r.1).bind getB).bind fun b22=>some (Sum.inl ([some (.pointer (at0 pb)),some (.pointer (at0 qb)),some (.int .i64 (i : Int)),some (.bool (!b22))],r.2) : Sum (Slots × AH) (Nat × Slots × AH)))) (Sum.elim (fun q=>q.1.dropLast = [some (.pointer (at0 pb)),some (.pointer (at0 qb)),some (.int .i64 (i : Int))]∧q.1.getLast? = some (some (.bool false))∧KB NoB h q.2) Q'):=by
   intro Q'
   rw [e2]
   exact W.lb rfl rfl k2
  rw [B4_0_eq]
  ((with_reducible repeat refine W.a1 d ?_))
  refine W.ifT (decide_eq_true (by show (i : Int) < (P.acs.length : Int); omega)) ?_
  refine W.jb (L:=[some (.pointer (at0 pb)),some (.pointer (at0 qb)),some (.int .i64 (i : Int))]) false d ?_ ?_
  ·((with_reducible repeat first|refine W.a1 d ?_|refine W.bo ?_|refine W.a8 ?_))
   try rw [Int.toNat_natCast]
   refine W.bI g0 ?_
   ((with_reducible repeat refine W.a1 d ?_))
   refine W.ifF (by simp; omega) ?_
   refine W.ite (fun c=>?_) (fun c=>?_)
   ·have c : 0 < i:=by simpa using c
    have hlt1 : i - 1 < P.acs.length:=by omega
    obtain ⟨ad1,_,_,_,ead,_,g01,_⟩:=AsR.get (RowO.asR row) hlt1
    injection ead with ead
    subst ead
    have e1 : IntKind.wrap .i64 ((i : Int) - (1 : Int)) = ((i - 1 : Nat) : Int):=by rw [w64i (by omega) (by omega)]; omega
    ((with_reducible repeat first|refine W.a1 d ?_|refine W.bo ?_|refine W.a8 ?_))
    rw [e1,Int.toNat_natCast]
    try refine W.bo ?_
    refine W.bI g01 ?_
    ((with_reducible repeat first|refine W.a1 d ?_|refine W.bo ?_|refine W.a8 ?_))
    try rw [Int.toNat_natCast]
    refine W.bI g0 ?_
    have hr:=gp.rise (i:=i - 1) (j:=i) (by omega) hlt
    refine W.ifF (by simp; omega) ?_
    ((with_reducible repeat first|refine W.a1 d ?_|refine W.bo ?_|refine W.a8 ?_))
    try rw [Int.toNat_natCast]
    exact W.bI g0 (W.bI g1 (W.bS g2 (W.bS g3 (W.bS g4 core))))
   ·((with_reducible repeat first|refine W.a1 d ?_|refine W.bo ?_|refine W.a8 ?_))
    try rw [Int.toNat_natCast]
    exact W.bI g0 (W.bI g1 (W.bS g2 (W.bS g3 (W.bS g4 core))))
  intro h3 d nj
  ((with_reducible repeat refine W.a2 ?_))
  refine W.ifF (by decide) ?_
  rw [w64i (n:=(i : Int) + 1) (by omega) (by omega)]
  exact W.ret ⟨rfl,rfl,d⟩
theorem plains_law {base : Nat} {h : AH} {a : Option Addr} {zs : List Int} (s : Sl h a (iv .u8 zs)) (hz : zs = []∨∀ b,blk a b→b < base) (hb : base≤h.length) :
  Wp (run (Et base) 4 [.slice a zs.length zs.length] h) fun r=>r.1 = .bool true:=by
 have big : run (Et base) 22 [.slice a zs.length zs.length] h = some (.bool (decide (((zs.length : Nat) : Int) > (1048576 : Int))),h):=Am.r22 rfl
 have d:=Hs.start hb
 refine W.of (fun r hx=>Am.r4 hx) ?_
 refine W.bs big ?_
 ((with_reducible repeat refine W.a2 ?_))
 refine W.ite (fun c=>W.ret rfl) (fun c=>?_)
 have c : ¬ ((zs.length : Int) > 1048576):=by simpa using c
 obtain ⟨P,a1,b1,g1,Sc1,S1,So1,h1,e1,gp,z1⟩:=drawPlain_run (base:=base) h a zs s hz (by omega) hb
 have d:=d.callR z1 (by simp)
 refine W.bs e1 ?_
 ((try simp only [n1,n2,n3,n4,n5,n6] at d); (with_reducible repeat refine W.a2 ?_); (refine W.nD d fun h2 d _ kh2=>?_); (with_reducible repeat refine W.a5 d fun hw d lw kw=>?_))
 have k2 : KB NoB h hw:=d.kb
 obtain ⟨Q,a3,b3,g3,Sc3,S3,So3,h3,e3,qb,z3⟩:=drawPlainOk_run (base:=base) hw a zs (s.keepN d.kb) hz (by omega) d.ge
 have d:=d.callR z3 (by simp)
 refine W.bs e3 ?_
 ((try simp only [n1,n2,n3,n4,n5,n6] at d); (with_reducible repeat refine W.a2 ?_); (refine W.nD d fun h4 d _ kh4=>?_); (with_reducible repeat refine W.a5 d fun hw d lw kw=>?_))
 have d : Hs base NoB h hw [(h3.length,36,plV a3 Q.code.length b3 Q.acs.length Q.next g3 Q.out.length),(h1.length,36,plV a1 P.code.length b1 P.acs.length P.next g1 P.out.length)] [rCo Sc1 true a1 P.code,rAs base 10 S1 P.acs b1,rSs base 10 So1 P.out g1,rCo Sc3 true a3 Q.code,rAs base 10 S3 Q.acs b3,rSs base 10 So3 Q.out g3]:=d
 have d:=d.front (Del.at (i:=1) rfl)
 have dl:=Hs.part (D1:=[_]) (R1:=[_,_]) d
 refine W.wb (plains_loop (base:=base) (qb:=h3.length) (Q:=(0,0,[])) gp P.acs.length 0 hw (by omega) dl) ?_
 rintro ⟨q1,q2,h5⟩ ⟨y1,y2,d5⟩
 simp only at y1 y2 d5
 subst y1; subst y2
 have d:=Hs.back (D1:=[_]) (R1:=[_,_]) d d5 (fun r hr hm=>by
  simp only [List.mem_cons,List.not_mem_nil,or_false] at hr
  rcases hr with rfl|rfl
  ·cases hm
  ·cases hm)
 refine W.ifF (fun h=>absurd (show (2 : Nat) = 1 from h) (by decide)) (W.ifT rfl ?_)
 ((try simp only [n1,n2,n3,n4,n5,n6] at d); (with_reducible repeat first|refine W.a1 d ?_|refine W.a2 ?_))
 have xp : PlR h5 (fun b=>b < h5.length) 10 P (plV a1 P.code.length b1 P.acs.length P.next g1 P.out.length):=ofRows (d.rs (i:=0) rfl) (d.rs (i:=1) rfl) (d.rs (i:=2) rfl) (d.rlt (i:=1) rfl) (d.rlt (i:=2) rfl)
 obtain ⟨h6,e6,k6⟩:=implPlainOk_run (base:=base) gp.qb.m xp d.ge
 rw [gp.plOk] at e6
 have d:=d.kN k6
 refine W.bs e6 ?_
 ((with_reducible repeat refine W.a2 ?_))
 refine W.ifT rfl ?_
 ((with_reducible repeat refine W.a1 d ?_))
 have xq : PlR h6 (fun b=>b < h6.length) 10 Q (plV a3 Q.code.length b3 Q.acs.length Q.next g3 Q.out.length):=ofRows (d.rs (i:=3) rfl) (d.rs (i:=4) rfl) (d.rs (i:=5) rfl) (d.rlt (i:=4) rfl) (d.rlt (i:=5) rfl)
 obtain ⟨h7,e7,k7⟩:=implPlainOk_run (base:=base) qb.m xq d.ge
 have d:=d.kN k7
 refine W.bs e7 ?_
 ((with_reducible repeat first|refine W.a1 d ?_|refine W.a2 ?_|refine W.a6 d ?_))
 have xq : PlR h7 (fun b=>b < h7.length) 10 Q (plV a3 Q.code.length b3 Q.acs.length Q.next g3 Q.out.length):=ofRows (d.rs (i:=3) rfl) (d.rs (i:=4) rfl) (d.rs (i:=5) rfl) (d.rlt (i:=4) rfl) (d.rlt (i:=5) rfl)
 obtain ⟨h8,e8,k8⟩:=specPlainOk_run (base:=base) qb.m xq d.ge
 refine W.bs e8 ?_
 ((with_reducible repeat refine W.a2 ?_))
 exact W.ret (by simp)
theorem plains_all {base : Nat} {h : AH} {a : Option Addr} {zs : List Int} (s : Sl h a (iv .u8 zs)) (hb : h.length = base) :
  ∃ h',run (Et base) 4 [.slice a zs.length zs.length] h = some (.bool true,h'):=by
 have hz : zs = []∨∀ b,blk a b→b < base:=by
  rcases sl_below s with e|e
  ·exact .inl (by cases zs with|nil=>rfl|cons x r=>simp [iv] at e)
  ·exact .inr fun b hb'=>by have:=e b hb'; omega
 obtain ⟨⟨u,h'⟩,e,q⟩:=plains_law (base:=base) s hz (by omega)
 simp only at q
 exact ⟨h',by rw [e,q]⟩
end Go.Proofs.Ytkdenmdijdmnjaa.Am
