/- What the functions of this law compute, lemma by lemma, up to the law.
Conditions: none. -/
import Derived.Test.YtkdenmdijdmnjaaP3
import Derived.DataShut
import Derived.IntWalk
import Derived.Laws.BitsLemmas
set_option linter.unusedSimpArgs false
set_option linter.unusedVariables false
namespace Go.Proofs.Ytkdenmdijdmnjaa.Am
open Go Go.RowKit

theorem Sl.pre {h:AH} {a:Option Addr} {l:List Int} (s:Sl h a (iv .i64 l)) (i:Nat):Sl h (shiftA a (0*1)) (iv .i64 (l.take i)):=by
 rcases s with e|⟨ad,k,rfl,e2,e3,e4⟩
 ·left
  have:l = []:=by cases l with|nil=>rfl|cons x r=>simp [iv] at e
  subst this
  simp [iv]
 ·refine .inr ⟨⟨ad.block,ad.off+0*1,none⟩,k,rfl,e2,?_,fun j v hv=>?_⟩
  ·have:(iv .i64 (l.take i)).length≤(iv .i64 l).length:=by simp [iv];omega
   simp only
   omega
  ·have:(iv .i64 l)[j]? = some v:=by
    unfold iv at hv ⊢
    rw [List.map_take] at hv
    have hj:=(List.getElem?_eq_some_iff.1 hv).1
    rw [List.length_take] at hj
    rw [List.getElem?_take_of_lt (by omega)] at hv
    exact hv
   have:=e4 j v this
   simp only
   rw [show ad.off+0*1+j=ad.off+j from by omega]
   exact this
theorem fnLive_loop {base gb:Nat} {G:Gn} {ats:List ByteArray} {roots:List Int} {oa ya aa ra:Option Addr} {V:Fp} {h0:AH} {R:List Rs} (dr:Dr 8 G ats roots):∀ (r i:Nat) (h:AH),i+r=roots.length+1→Hs base V h0 h [(gb,63,gensV oa ya G)] [rW base oa G.old,rW base ya G.young,rSt base aa ats,rW base ra roots] →
  Wp (loopL (B9_0 base) [some (.pointer (at0 gb)),some (.slice aa ats.length ats.length),some (.slice ra roots.length roots.length),some (.int .i64 (lvN G ats roots)),some (.int .i64 (i:Int))] h) fun o=>o.1=2∧o.2.1 = [some (.pointer (at0 gb)),some (.slice aa ats.length ats.length),some (.slice ra roots.length roots.length),some (.int .i64 (lvN G ats roots))]∧Hs base V h0 o.2.2 [(gb,63,gensV oa ya G)] [rW base oa G.old,rW base ya G.young,rSt base aa ats,rW base ra roots]:=by
 have hsz:=dr.sz
 have gG:G.Ok:=dr.gw.1
 have gr:∀ w∈roots,wOk w:=dr.gw.2.1
 have gl:roots.length≤1048576:=dr.gw.2.2
 have lr:=dr.rl
 intro r
 induction r with
 | zero=>
  intro i h hi d
  suffices w:Wp (B9_0 base [some (.pointer (at0 gb)),some (.slice aa ats.length ats.length),some (.slice ra roots.length roots.length),some (.int .i64 (lvN G ats roots)),some (.int .i64 (i:Int))] h) fun o=>o=(2,[some (.pointer (at0 gb)),some (.slice aa ats.length ats.length),some (.slice ra roots.length roots.length),some (.int .i64 (lvN G ats roots))],h) by
   obtain ⟨o,e,rfl⟩:=w
   exact ⟨_,loop_off (by decide) e,rfl,rfl,d⟩
  rw [B9_0_eq]
  exact W.ifF (by simp;omega) (W.ret rfl)
 | succ r ih=>
  intro i h hi d
  suffices w:Wp (B9_0 base [some (.pointer (at0 gb)),some (.slice aa ats.length ats.length),some (.slice ra roots.length roots.length),some (.int .i64 (lvN G ats roots)),some (.int .i64 (i:Int))] h) fun o=>o.1=0∧o.2.1 = [some (.pointer (at0 gb)),some (.slice aa ats.length ats.length),some (.slice ra roots.length roots.length),some (.int .i64 (lvN G ats roots)),some (.int .i64 ((i+1:Nat):Int))]∧Hs base V h0 o.2.2 [(gb,63,gensV oa ya G)] [rW base oa G.old,rW base ya G.young,rSt base aa ats,rW base ra roots] by
   obtain ⟨⟨o1,o2,h'⟩,e,y1,y2,d'⟩:=w
   simp only at y1 y2 d'
   subst y1;subst y2
   obtain ⟨o,eo,q⟩:=ih (i+1) h' (by omega) d'
   exact ⟨o,loop_on e eo,q⟩
  rw [B9_0_eq]
  refine W.ifT (decide_eq_true (by omega)) ?_
  ((with_reducible repeat refine W.a1 d ?_))
  have x:=mkSwA (d.rs (i:=0) rfl) (d.rs (i:=1) rfl) (d.rs (i:=2) rfl) (d.rs (i:=3) rfl)
  refine W.ifT ⟨by omega,by omega,by omega,x.2.2.ok _⟩ ?_
  have el:Int.toNat (i:Int)-Int.toNat (0:Int)=(roots.take i).length:=by rw [List.length_take];omega
  rw [el]
  have xp:SwA base oa ya G aa ats (shiftA ra (0*1)) (roots.take i) h:=⟨x.1,x.2.1.pre i,fun ad e=>by
   cases ra with
   | none=>cases e
   | some a0=>
    injection e with e
    subst e
    exact x.2.2 a0 rfl⟩
  obtain ⟨h1,e1,k1⟩:=implLive_run (base:=base) gG (by omega) hsz.2 (fun w hw=>gr w (List.mem_of_mem_take hw)) (by rw [List.length_take];omega) xp d.ge
  refine W.bs e1 ?_
  have d:=d.kN k1
  ((with_reducible repeat refine W.a2 ?_))
  have le:=lvN_take dr.fo.ok i
  refine W.ifF (by simp;omega) ?_
  rw [w64i (n:=(i:Int)+1) (by omega) (by omega)]
  exact W.ret ⟨rfl,rfl,d⟩
theorem fnLive_law {base:Nat} {h:AH} {a:Option Addr} {zs:List Int} (s:Sl h a (iv .u8 zs)) (hz:zs = []∨∀ b,blk a b→b<base) (hb:base≤h.length) :
  Wp (run (Et base) 9 [.slice a zs.length zs.length] h) fun r=>r.1 = .bool true:=by
 have big:run (Et base) 22 [.slice a zs.length zs.length] h=some (.bool (decide (((zs.length:Nat):Int)>(1048576:Int))),h):=Am.r22 rfl
 have d:=Hs.start hb
 refine W.of (fun r hx=>Am.r9 hx) ?_
 refine W.bs big ?_
 ((with_reducible repeat refine W.a2 ?_))
 refine W.ite (fun c=>W.ret rfl) (fun c=>?_)
 have c:¬((zs.length:Int)>1048576):=by simpa using c
 obtain ⟨G,ats,roots,oa,ya,aa,ra,h1,e1,dr,z1⟩:=drawGens_run (base:=base) h a zs s hz (by omega) hb
 have d:=d.callR z1 (by simp)
 refine W.bs e1 ?_
 have hsz:=dr.sz
 have gG:G.Ok:=dr.gw.1
 have gr:∀ w∈roots,wOk w:=dr.gw.2.1
 have gl:roots.length≤1048576:=dr.gw.2.2
 have lr:=dr.rl
 have tot:=dr.tot
 ((try simp only [n1,n2,n3,n4,n5,n6] at d);(with_reducible repeat first|refine W.a2 ?_|refine W.a3 ?_);(refine W.nD d fun h2 d _ kh2=>?_);(with_reducible repeat first|refine W.a1 d ?_|refine W.a5 d fun hw d lw kw=>?_))
 have sw:∀ {y:AH} {R:List Rs},Hs base NoB h y [(h1.length,63,gensV oa ya G)] (rW base oa G.old :: rW base ya G.young :: rSt base aa ats :: rW base ra roots :: R)→SwA base oa ya G aa ats ra roots y:=fun d=>mkSwA (d.rs (i:=0) rfl) (d.rs (i:=1) rfl) (d.rs (i:=2) rfl) (d.rs (i:=3) rfl)
 have d:Hs base NoB h hw [(h1.length,63,gensV oa ya G)] [rW base oa G.old,rW base ya G.young,rSt base aa ats,rW base ra roots]:=d
 obtain ⟨h3,e3,k3⟩:=implLive_run (base:=base) gG (by omega) hsz.2 gr gl (sw d) d.ge
 refine W.bs e3 ?_
 have d:=d.kN k3
 ((with_reducible repeat refine W.a2 ?_))
 apply W.jb (L:=[some (.pointer (at0 h1.length)),some (.slice aa ats.length ats.length),some (.slice ra roots.length roots.length),some (.int .i64 (lvN G ats roots))]) false d
 ·((with_reducible repeat refine W.a1 d ?_))
  obtain ⟨h4,e4,k4⟩:=specLive_run (base:=base) gG (by omega) hsz.2 gr gl (sw d) d.ge
  refine W.bs e4 ?_
  have d:=d.kN k4
  ((with_reducible repeat refine W.a2 ?_))
  refine W.ifF (by simp) ?_
  ((with_reducible repeat refine W.a1 d ?_))
  have le:=lvN_le dr.fo
  dsimp only
  rw [w64i (n:=(G.old.length:Int)+(G.young.length:Int)) (by omega) (by omega)]
  refine W.ifF (by simp;omega) ?_
  ((with_reducible repeat refine W.a1 d ?_))
  obtain ⟨h5,e5,k5⟩:=implGensOk_run (base:=base) gG (by omega) hsz.2 gr (by omega) (sw d).1 (sw d).2.1 (sw d).2.2 d.ge
  rw [dr.fo.ok] at e5
  refine W.bs e5 ?_
  ((with_reducible repeat refine W.a2 ?_))
  exact W.lb rfl rfl (kN k4 k5)
 intro h6 d n6
 ((with_reducible repeat refine W.a2 ?_))
 refine W.ifF (by decide) ?_
 refine W.wb (fnLive_loop (R:=[]) (base:=base) (gb:=h1.length) dr (roots.length+1) 0 h6 (by omega) d) ?_
 rintro ⟨q1,q2,h7⟩ ⟨y1,y2,d⟩
 simp only at y1 y2 d
 subst y1;subst y2
 refine W.ifF (fun h=>absurd (show (2:Nat)=1 from h) (by decide)) (W.ifT rfl ?_)
 ((with_reducible repeat first|refine W.a1 d ?_|refine W.a2 ?_|refine W.a7 ?_);(refine W.nD d fun h8 d _ kh8=>?_))
 obtain ⟨a9,h9,e9,d⟩:=d.copyG (t:=3) (bytes:=8) (m:=roots.length) (raw_ivs (Own.sl (d.rs (i:=3) rfl))) (by simp) (by omega) (by omega)
 refine W.bs e9 ?_
 ((try simp only [n1,n2,n3,n4,n5,n6] at d);(with_reducible repeat first|refine W.a2 ?_|refine W.a6 d ?_))
 obtain ⟨a10,h10,e10,d,_⟩:=d.extW (i:=4) rfl (raw_ivs (Own.sl (d.rs (i:=3) rfl))) rfl (by omega)
 refine W.bs e10 ?_
 ((try simp only [n1,n2,n3,n4,n5,n6] at d);(with_reducible repeat first|refine W.a2 ?_|refine W.a6 d ?_))
 have x2:SwA base oa ya G aa ats a10 (roots++roots) h10:=mkSwA (d.rs (i:=0) rfl) (d.rs (i:=1) rfl) (d.rs (i:=2) rfl) (d.rs (i:=4) rfl)
 obtain ⟨h11,e11,k11⟩:=implLive_run (base:=base) gG (by omega) hsz.2 (fun w hw=>(List.mem_append.1 hw).elim (gr w) (gr w)) (by rw [List.length_append];omega) x2 d.ge
 rw [List.length_append,lvN_twice dr.fo.ok] at e11
 refine W.bs e11 ?_
 ((with_reducible repeat refine W.a2 ?_))
 exact W.ret (by simp)
theorem fnLive_all {base:Nat} {h:AH} {a:Option Addr} {zs:List Int} (s:Sl h a (iv .u8 zs)) (hb:h.length=base) :
  ∃ h',run (Et base) 9 [.slice a zs.length zs.length] h=some (.bool true,h'):=by
 have hz:zs = []∨∀ b,blk a b→b<base:=by
  rcases sl_below s with e|e
  ·exact .inl (by cases zs with|nil=>rfl|cons x r=>simp [iv] at e)
  ·exact .inr fun b hb'=>by have:=e b hb';omega
 obtain ⟨⟨u,h'⟩,e,q⟩:=fnLive_law (base:=base) s hz (by omega)
 simp only at q
 exact ⟨h',by rw [e,q]⟩
end Go.Proofs.Ytkdenmdijdmnjaa.Am
