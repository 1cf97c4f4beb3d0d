/- What the functions of this law compute, lemma by lemma, up to the law.
Conditions: none. -/
import Derived.Test.YtkdenmdijdmnjaaP3
import Derived.DataShut
import Derived.IntWalk
import Derived.Laws.BitsLemmas
set_option linter.unusedSimpArgs false
set_option linter.unusedVariables false
namespace Go.Proofs.Ytkdenmdijdmnjaa.Am
open Go Go.RowKit

theorem Dr.le {m n:Nat} {G:Gn} {ats:List ByteArray} {roots:List Int} (x:Dr m G ats roots) (h:m≤n):Dr n G ats roots:=⟨x.fo,x.gw,by have:=x.tot;omega,by have:=x.rl;omega⟩
theorem Hs.asSt {base b:Nat} {V:Fp} {h0 h:AH} {D D':Ds} {R:List Rs} {l:List ByteArray} (d:Hs base V h0 h D R) (u:Del D (b,9,stV l) D'):Hs base V h0 h D' (rSt base (at0 b) l :: R):=by
 have d:=(d.unbox u).frontR (Del.last R)
 refine ⟨d.ge,d.kb,d.own,d.nd,fun s hs=>?_,?_⟩
 ·rcases List.mem_cons.1 hs with rfl|hs
  ·obtain ⟨x,_,c,m,e⟩:=d.res _ (.head _)
   exact ⟨x,fun U y y' k hs z=>z.keep k hs,fun i hi=>c i (blk_at0.1 hi),fun _ i hi=>m rfl i (blk_at0.1 hi),fun y hy hi=>e y hy (blk_at0.1 hi)⟩
  ·exact d.res s (.tail _ hs)
 ·have dj:=d.dj
  rw [List.pairwise_cons] at dj ⊢
  exact ⟨fun s hs e i hi=>dj.1 s hs e i (blk_at0.1 hi),dj.2⟩
theorem l6Draw_loop {base cb gb zb:Nat} {V:Fp} {hX h0:AH}:∀ (k m:Nat) (h:AH) (G:Gn) (ats:List ByteArray) (roots:List Int) (oa ya aa ra:Option Addr),m+k≤100→Dr m G ats roots→Hs base V h0 h (gdD gb zb oa ya G) (gdR base cb hX oa ya aa ra G ats roots) →
  Wp (loopL (B106_0 base) [some (.pointer (at0 cb)),some (.pointer (at0 zb)),some (.pointer (at0 gb)),some (.slice aa ats.length ats.length),some (.slice ra roots.length roots.length),some (.int .i64 (k:Int))] h) fun o=>o.1=2∧GdQ base cb gb zb V hX h0 (m+k) (fun a n r l=>[some (.pointer (at0 zb)),some (.pointer (at0 gb)),some (.slice a n n),some (.slice r l l)]) o.2:=by
 intro k
 induction k with
 | zero=>
  intro m h G ats roots oa ya aa ra hm dr d
  suffices w:Wp (B106_0 base [some (.pointer (at0 cb)),some (.pointer (at0 zb)),some (.pointer (at0 gb)),some (.slice aa ats.length ats.length),some (.slice ra roots.length roots.length),some (.int .i64 ((0:Nat):Int))] h) fun o=>o=(2,[some (.pointer (at0 zb)),some (.pointer (at0 gb)),some (.slice aa ats.length ats.length),some (.slice ra roots.length roots.length)],h) by
   obtain ⟨o,e,rfl⟩:=w
   exact ⟨_,loop_off (by decide) e,rfl,G,ats,roots,oa,ya,aa,ra,dr,rfl,d⟩
  rw [B106_0_eq]
  exact W.ifF (by decide) (W.ret rfl)
 | succ k ih=>
  intro m h G ats roots oa ya aa ra hm dr d
  obtain ⟨⟨o1,o2,h'⟩,e,y1,G',ats',roots',oa',ya',aa',ra',dr',y2,d'⟩:=l6Draw_step (k:=k) (by omega) (by omega) dr d
  simp only at y1 y2 d'
  subst y1;subst y2
  obtain ⟨o,eo,q⟩:=ih (m+1) h' G' ats' roots' oa' ya' aa' ra' (by omega) dr' d'
  rw [show m+1+k=m+(k+1) from by omega] at q
  exact ⟨o,loop_on e eo,q⟩
theorem Hs.re6 {base:Nat} {V:Fp} {h0 h:AH} {D:Ds} {x0 x1 x2 x3 x4 x5:Rs} (d:Hs base V h0 h D [x0,x1,x2,x3,x4,x5]):Hs base V h0 h D [x2,x3,x4,x5,x0,x1]:=
 ((((d.frontR (Del.at (i:=5) rfl)).frontR (Del.at (i:=5) rfl)).frontR (Del.at (i:=5) rfl)).frontR (Del.at (i:=5) rfl))
theorem l6Draw_run {base cb:Nat} {h:AH} (x:CurR base cb h):∃ G ats roots a b aa ra h',run (Et base) 106 [.pointer (at0 cb)] h=some (.tuple #[.agg (gensV a b G).toArray,.slice aa ats.length ats.length,.slice ra roots.length roots.length],h')∧Dr 8 G ats roots∧Hs base (· = cb) h h' [] (gdR base cb h a b aa ra G ats roots):=by
 have hlt:=x.lt
 have hb:base≤h.length:=by omega
 suffices w:Wp (run (Et base) 106 [.pointer (at0 cb)] h) fun o=>∃ G ats roots a b aa ra,o.1 = .tuple #[.agg (gensV a b G).toArray,.slice aa ats.length ats.length,.slice ra roots.length roots.length]∧Dr 8 G ats roots∧Hs base (· = cb) h o.2 [] (gdR base cb h a b aa ra G ats roots) by
  obtain ⟨⟨o1,o2⟩,e,G,ats,roots,a,b,aa,ra,y1,y2,y3⟩:=w
  simp only at y1 y3
  subst y1
  exact ⟨G,ats,roots,a,b,aa,ra,o2,e,y2,y3⟩
 have d:=Hs.startC x hb
 refine W.of (fun r hx=>Am.r106 hx) ?_
 ((refine W.nD d fun h1 d _ kh1=>?_);(refine W.nD d fun h2 d _ kh2=>?_);(with_reducible repeat refine W.a5 d fun hw d lw kw=>?_);(refine W.nD d fun h3 d _ kh3=>?_);(refine W.nD d fun h4 d _ kh4=>?_))
 obtain ⟨z5,h5,e5,y0,y1,y2,d,_⟩:=d.below (n:=8) (by omega)
 have y1:=y1 (by omega)
 refine W.bs e5 ?_
 ((with_reducible repeat refine W.a2 ?_))
 obtain ⟨k,hk8,ek⟩:∃ k:Nat,k≤8∧IntKind.wrap .i64 ((1:Int)+z5)=(k:Int):=⟨(1+z5).toNat,by omega,by rw [w64i (by omega) (by omega)];omega⟩
 rw [ek]
 have d:=d.asW (l:=[]) .here
 have d:=d.asSt (l:=[]) .here
 have d:Hs base (· = cb) h h5 (gdD h1.length h.length none none ⟨[],[],0⟩) [_,_,_,_,_,_]:=d.nilW2.nilW2
 have d:=d.re6
 refine W.wb (l6Draw_loop (base:=base) (cb:=cb) (gb:=h1.length) (zb:=h.length) k 0 h5 ⟨[],[],0⟩ [] [] none none _ _ (by omega) Dr.start d) ?_
 rintro ⟨q1,q2,h6⟩ ⟨w1,G,ats,roots,a,b,aa,ra,dr,w2,d⟩
 simp only at w1 w2 d
 subst w1;subst w2
 refine W.ifT rfl ?_
 ((with_reducible repeat first|refine W.a1 d ?_|refine W.a2 ?_|refine W.a5 d fun hw d lw kw=>?_))
 exact W.ret ⟨G,ats,roots,a,b,aa,ra,rfl,dr.le (by omega),d.takeD 0⟩
theorem drawGens_run {base:Nat} (h:AH) (a0:Option Addr) (zs:List Int) (s:Sl h a0 (iv .u8 zs)) (hz:zs = []∨∀ b,blk a0 b→b<base) (hl:zs.length≤9223372036854775806) (hb:base≤h.length):∃ G ats roots a b aa ra h',run (Et base) 49 [.slice a0 zs.length zs.length] h=some (.tuple #[.agg (gensV a b G).toArray,.slice aa ats.length ats.length,.slice ra roots.length roots.length],h')∧Dr 8 G ats roots∧Hs base NoB h h' [] [rW base a G.old,rW base b G.young,rSt base aa ats,rW base ra roots]:=by
 suffices w:Wp (run (Et base) 49 [.slice a0 zs.length zs.length] h) fun o=>∃ G ats roots a b aa ra,o.1 = .tuple #[.agg (gensV a b G).toArray,.slice aa ats.length ats.length,.slice ra roots.length roots.length]∧Dr 8 G ats roots∧Hs base NoB h o.2 [] [rW base a G.old,rW base b G.young,rSt base aa ats,rW base ra roots] by
  obtain ⟨⟨o1,o2⟩,e,G,ats,roots,a,b,aa,ra,y1,y2,y3⟩:=w
  simp only at y1 y3
  subst y1
  exact ⟨G,ats,roots,a,b,aa,ra,o2,e,y2,y3⟩
 have d:=Hs.start hb
 refine W.of (fun r hx=>Am.r49 hx) ?_
 ((refine W.nD d fun h1 d _ kh1=>?_))
 obtain ⟨h2,e2,x2,k2,l2⟩:=l1New_run (s.keepN d.kb) hz hl d.ge
 refine W.bs e2 ?_
 have d:=d.newD x2 k2
 ((with_reducible repeat refine W.a2 ?_))
 obtain ⟨G,ats,roots,a,b,aa,ra,h3,e3,dr,z3⟩:=l6Draw_run (base:=base) d.cur0
 have d:=d.callC z3 (by simp)
 refine W.bs e3 ?_
 ((try simp only [n1,n2,n3,n4,n5,n6] at d);(with_reducible repeat first|refine W.a1 d ?_|refine W.a2 ?_|refine W.a3 ?_|refine W.a5 d fun hw d lw kw=>?_))
 exact W.ret ⟨G,ats,roots,a,b,aa,ra,rfl,dr,(d.takeD 0).subR (R':=[_,_,_,_]) (((List.Sublist.refl [_,_,_,_]).cons _).cons _)⟩
def rdl (G:Gn) (ats:List ByteArray) (l:List Int):List Tm:=l.map fun w=>(gRd G ats w).1
theorem rdl_take {G:Gn} {ats:List ByteArray} {l:List Int} {i:Nat} (hi:i<l.length):rdl G ats (l.take (i+1))=rdl G ats (l.take i)++[(gRd G ats l[i]).1]:=by
 unfold rdl
 rw [List.take_succ_eq_append_getElem hi,List.map_append]
 rfl
theorem rdl_len {G:Gn} {ats:List ByteArray} {l:List Int}:(rdl G ats l).length=l.length:=List.length_map _
theorem terms_loop {base gb:Nat} {G:Gn} {ats:List ByteArray} {ws:List Int} {oa ya aa wa:Option Addr} {V:Fp} {h0:AH} {S:Fp} {mu:Bool} {A:AH→Prop} (hG:G.Ok) (hol:G.old.length≤1000) (ha:ats.length≤1048576) (hs:∀ s∈ats,s.size≤maxLen) (hw:∀ w∈ws,wOk w) (hl:ws.length≤1048576) (hA:∀ y,A y→SwA base oa ya G aa ats wa ws y):∀ (r i:Nat) (h:AH) (ta:Option Addr) (T:Fp),i+r=ws.length→Hs base V h0 h [(gb,63,gensV oa ya G)] [⟨S,mu,A⟩,⟨T,true,fun y=>RowO base 42 4 (TmG base 7) T y (rdl G ats (ws.take i)) ta⟩] →
  Wp (loopL (B52_0 base) [some (.slice aa ats.length ats.length),some (.slice wa ws.length ws.length),some (.pointer (at0 gb)),some (.slice ta i i),some (.int .i64 (i:Int))] h) fun o=>o.1=2∧∃ ta' T',o.2.1 = [some (.slice ta' ws.length ws.length)]∧Hs base V h0 o.2.2 [(gb,63,gensV oa ya G)] [⟨S,mu,A⟩,⟨T',true,fun y=>RowO base 42 4 (TmG base 7) T' y (rdl G ats ws) ta'⟩]:=by
 intro r
 induction r with
 | zero=>
  intro i h ta T hi d
  have hi':i=ws.length:=by omega
  subst hi'
  rw [List.take_length] at d
  suffices w:Wp (B52_0 base [some (.slice aa ats.length ats.length),some (.slice wa ws.length ws.length),some (.pointer (at0 gb)),some (.slice ta ws.length ws.length),some (.int .i64 (ws.length:Int))] h) fun o=>o=(2,[some (.slice ta ws.length ws.length)],h) by
   obtain ⟨o,e,rfl⟩:=w
   exact ⟨_,loop_off (by decide) e,rfl,ta,T,rfl,d⟩
  rw [B52_0_eq]
  exact W.ifF (by simp) (W.ret rfl)
 | succ r ih=>
  intro i h ta T hi d
  have hlt:i<ws.length:=by omega
  suffices w:Wp (B52_0 base [some (.slice aa ats.length ats.length),some (.slice wa ws.length ws.length),some (.pointer (at0 gb)),some (.slice ta i i),some (.int .i64 (i:Int))] h) fun o=>o.1=0∧∃ ta' T',o.2.1 = [some (.slice aa ats.length ats.length),some (.slice wa ws.length ws.length),some (.pointer (at0 gb)),some (.slice ta' (i+1) (i+1)),some (.int .i64 ((i+1:Nat):Int))]∧Hs base V h0 o.2.2 [(gb,63,gensV oa ya G)] [⟨S,mu,A⟩,⟨T',true,fun y=>RowO base 42 4 (TmG base 7) T' y (rdl G ats (ws.take (i+1))) ta'⟩] by
   obtain ⟨⟨o1,o2,h'⟩,e,y1,ta',T',y2,d'⟩:=w
   simp only at y1 y2 d'
   subst y1;subst y2
   obtain ⟨o,eo,q⟩:=ih (i+1) h' ta' T' (by omega) d'
   exact ⟨o,loop_on e eo,q⟩
  rw [B52_0_eq]
  refine W.ifT (decide_eq_true (by omega)) ?_
  ((with_reducible repeat first|refine W.a1 d ?_|refine W.a8 ?_))
  have x0:=hA _ (d.rs (i:=0) rfl)
  obtain ⟨ad,rfl,g⟩:=int_get x0.2.1 hlt
  refine W.bo ?_
  rw [Int.toNat_natCast]
  refine W.bI g ?_
  obtain ⟨cs,h1,e1,tg,k1⟩:=specGensRead_run (base:=base) hG hol ha hs (hw _ (List.getElem_mem hlt)) x0.1 d.ge
  refine W.bs e1 ?_
  rw [gRs_gRd] at tg ⊢
  obtain ⟨k',n',s',l',m',rfl⟩:=tg.form
  have d:=d.call k1 _ (fun y=>TmG base 7 (iS h.length h1.length) y (gRd G ats ws[i]).1 _) tg (fun U y y' ky hs z=>TmG.kp _ _ _ U y y' _ _ ky hs z) (fun b hb=>hb)
  ((try simp only [n1,n2,n3,n4,n5,n6] at d);(with_reducible repeat first|refine W.a2 ?_|refine W.a3 ?_))
  refine W.gt (ne_A (Nat.ne_of_lt (Nat.lt_of_lt_of_le (x0.2.2.lt _ ⟨ad,rfl,rfl⟩) k1.1))) ?_
  ((with_reducible repeat refine W.a7 ?_);(refine W.nD d fun h2 d _ kh2=>?_);(with_reducible repeat first|refine W.a1 d ?_|refine W.a5 d fun hw d lw kw=>?_);(refine W.nD d fun h3 d _ kh3=>?_))
  have el:(rdl G ats (ws.take i)).length=i:=by rw [rdl_len,List.length_take];omega
  obtain ⟨a5,h5,S5,e5,d,_,_,_⟩:=d.app1 (i:=1) (j:=2) (bytes:=56) (TmG.kp _ _) rfl rfl (by decide) (.head _) rfl (by decide) rfl (by omega) (by omega)
  rw [el] at e5
  refine W.bs e5 ?_
  ((try simp only [n1,n2,n3,n4,n5,n6] at d);(with_reducible repeat refine W.a2 ?_))
  rw [← rdl_take (G:=G) (ats:=ats) hlt] at d
  rw [w64i (n:=(i:Int)+1) (by omega) (by omega)]
  exact W.ret ⟨rfl,a5,S5,rfl,(d.tl.tl).takeR 2⟩
def SameT (base f:Nat):Prop:=∀ (f2:Nat) (h:AH) (p p2:Nat→Prop) (t:Tm) (cs cs2:List Value),TmR h p f t cs→TmR h p2 f2 t cs2→base≤h.length →
 ∃ h',run (Et base) 110 [.agg cs.toArray,.agg cs2.toArray] h=some (.bool true,h')∧KB NoB h h'
theorem sameT_loop {base f f2 b0 b1:Nat} (ih:SameT base f) {p p2:Nat→Prop} {l:List Tm} {a a2:Option Addr} {k n:Int} {s:ByteArray} (hl:l.length≤9223372036854775807):∀ (d i:Nat) (h:AH),i+d=l.length→TsR h p f l a→TsR h p2 f2 l a2→Own base 42 h (at0 b0) (termV k n s a l.length)→Own base 42 h (at0 b1) (termV k n s a2 l.length)→base≤h.length →
  ∃ h',loopL (B110_0 base) [some (.pointer (at0 b0)),some (.pointer (at0 b1)),some (.int .i64 (l.length:Int)),some (.int .i64 (i:Int))] h=some (2,[],h')∧KB NoB h h':=by
 intro d
 induction d with
 | zero=>
  intro i h hi hs hs2 o o2 hb
  refine ⟨h,loop_off (by decide) ?_,KB.refl _ _⟩
  rw [B110_0_eq]
  exact ifF (by simp;omega) rfl
 | succ d ihd=>
  intro i h hi hs hs2 o o2 hb
  have hlt:i<l.length:=by omega
  obtain ⟨ad,c0,c1,c2,c3,rfl,g0,g1,g2,g3,hm⟩:=hs.get hlt
  obtain ⟨ad2,d0,d1,d2,d3,rfl,y0,y1,y2,y3,hm2⟩:=hs2.get hlt
  obtain ⟨h1,e1,k1⟩:=ih f2 h p p2 l[i] _ _ hm hm2 hb
  cases f with
  | zero=>exact hm.elim
  | succ f=>
   cases f2 with
   | zero=>exact hm2.elim
   | succ f2=>
    generalize ht:l[i]=tt at hm hm2
    obtain ⟨k',n',s',ll⟩:=tt
    obtain ⟨a3,ecs,_,_,_⟩:=hm.parts
    injection ecs with q0 ecs
    injection ecs with q1 ecs
    injection ecs with q2 ecs
    injection ecs with q3 _
    subst q0;subst q1;subst q2;subst q3
    obtain ⟨a4,ecs,_,_,_⟩:=hm2.parts
    injection ecs with q0 ecs
    injection ecs with q1 ecs
    injection ecs with q2 ecs
    injection ecs with q3 _
    subst q0;subst q1;subst q2;subst q3
    obtain ⟨h2,m1,m2⟩:=ihd (i+1) h1 (by omega) (hs.keep k1 fun _ _ h=>h) (hs2.keep k1 fun _ _ h=>h) (o.keepN k1) (o2.keepN k1) (by have:=k1.1;omega)
    refine ⟨h2,loop_on ?_ m1,kN k1 m2⟩
    rw [B110_0_eq]
    refine ifT (decide_eq_true (by omega)) (bS (o.at0 (i:=3) rfl) (ifT ⟨by omega,by simp;omega⟩ (bs rfl ?_)))
    simp only [Int.toNat_natCast]
    refine bI g0 (bI g1 (bT g2 (bS g3 (bS (o2.at0 (i:=3) rfl) (ifT ⟨by omega,by simp;omega⟩ (bs rfl ?_))))))
    refine bI y0 (bI y1 (bT y2 (bS y3 (bs e1 (bB rfl (ifF (by decide) ?_))))))
    rw [w64i (by omega) (by omega),show ((i:Int)+1)=((i+1:Nat):Int) from by omega]
theorem sameT_run {base:Nat}:∀ f,SameT base f
 | 0=>fun f2 h p p2 t cs cs2 x=>x.elim
 | f+1=>fun f2 h p p2 t cs cs2 x x2 hb=>by
  cases f2 with
  | zero=>exact x2.elim
  | succ f2=>
   obtain ⟨k,n,s,l⟩:=t
   obtain ⟨a,rfl,hts,hs,hl⟩:=x.parts
   obtain ⟨a2,rfl,hts2,_,_⟩:=x2.parts
   simp only [maxLen] at hl
   obtain ⟨o1,k1,q1⟩:=box_own (base:=base) (t:=42) (h:=h) (cs:=termV k n s a l.length) hb rfl
   generalize hh1:h++[some (⟨termV k n s a l.length,42⟩:Blk)]=h1 at o1 k1 q1
   obtain ⟨o2,k2,q2⟩:=box_own (base:=base) (t:=42) (h:=h1) (cs:=termV k n s a2 l.length) (by omega) rfl
   generalize hh2:h1++[some (⟨termV k n s a2 l.length,42⟩:Blk)]=h2 at o2 k2 q2
   have o1':=o1.keepN k2
   have k02:=kN k1 k2
   obtain ⟨h3,e3,k3⟩:=sameT_loop (base:=base) (f:=f) (f2:=f2) (b0:=h.length) (b1:=h1.length) (k:=k) (n:=n) (s:=s) (sameT_run f) (by omega) l.length 0 h2 (by omega) (hts.keep k02 fun _ _ h=>h) (hts2.keep k02 fun _ _ h=>h) o1' o2 (by omega)
   rw [show ((0:Nat):Int)=0 from rfl] at e3
   refine ⟨h3,Am.r110 (lets fun y1 ey=>?_),kN k02 k3⟩
   have ey2:y1=h1:=by rw [ey];exact hh1
   subst ey2
   refine lets fun y2 ey=>?_
   have ey2:y2=h2:=by rw [ey];exact hh2
   subst ey2
   refine bj (q:=([some (.pointer (at0 h.length)),some (.pointer (at0 y1.length)),some (.bool false)],y2)) ?_ ?_
   ·refine bI (o1'.at0 (i:=0) rfl) (bI (o2.at0 (i:=0) rfl) (ifF (by simp) ?_))
    refine bI (o1'.at0 (i:=1) rfl) (bI (o2.at0 (i:=1) rfl) (ifF (by simp) ?_))
    refine bT (o1'.at0 (i:=2) rfl) (bT (o2.at0 (i:=2) rfl) (ifF (by simp) ?_))
    exact bS (o1'.at0 (i:=3) rfl) (bS (o2.at0 (i:=3) rfl) (by simp))
   ·refine bs rfl (bs rfl (bB rfl (ifF (by decide) (bS (o1'.at0 (i:=3) rfl) ?_))))
    exact bs e3 (ifF (by simp) (ifT rfl rfl))
theorem RowO.nilB {α:Type} {base t w b:Nat} {P:Fp→AH→α→List Value→Prop} {h:AH} (o:Own base t h (at0 b) []):RowO base t w P (· = b) h ([]:List α) (at0 b):=
 ⟨[],fun _=>False,o,by simp,fun i hi=>⟨blk_at0.1 hi,fun h=>h⟩,fun _ h=>h.elim,Chunks.nil⟩
theorem Hs.asRow0 {α:Type} {base t w b:Nat} {P:Fp→AH→α→List Value→Prop} (kp:Kp P) {V:Fp} {h0 h:AH} {D D':Ds} {R:List Rs} (d:Hs base V h0 h D R) (u:Del D (b,t,[]) D'):Hs base V h0 h D' (R++[⟨(· = b),true,fun y=>RowO base t w P (· = b) y ([]:List α) (at0 b)⟩]):=by
 have d:=d.unbox u
 refine ⟨d.ge,d.kb,d.own,d.nd,fun s hs=>?_,?_⟩
 ·rcases List.mem_append.1 hs with hs|hs
  ·exact d.res s (List.mem_append_left _ hs)
  ·rw [List.mem_singleton] at hs
   subst hs
   obtain ⟨x,_,c,m,e⟩:=d.res _ (List.mem_append_right _ (.head _))
   exact ⟨RowO.nilB x,fun U y y' k hs z=>RowO.keep kp z k hs,c,m,e⟩
 ·have dj:=d.dj
  rw [List.pairwise_append] at dj ⊢
  refine ⟨dj.1,by simp,fun r hr s hs e i h1 h2=>?_⟩
  rw [List.mem_singleton] at hs
  subst hs
  exact dj.2.2 r hr _ (.head _) e i h1 h2
theorem terms_run {base:Nat} {h:AH} {G:Gn} {ats:List ByteArray} {ws:List Int} {oa ya aa wa:Option Addr} (hG:G.Ok) (hol:G.old.length≤1000) (ha:ats.length≤1048576) (hs:∀ s∈ats,s.size≤maxLen) (hw:∀ w∈ws,wOk w) (hl:ws.length≤1048576) (x:SwA base oa ya G aa ats wa ws h) (hb:base≤h.length) :
  ∃ ta T h',run (Et base) 52 [.agg (gensV oa ya G).toArray,.slice aa ats.length ats.length,.slice wa ws.length ws.length] h=some (.slice ta ws.length ws.length,h')∧Hs base NoB h h' [] [⟨T,true,fun y=>RowO base 42 4 (TmG base 7) T y (rdl G ats ws) ta⟩]:=by
 have d:=x.start hb
 suffices w:Wp (run (Et base) 52 [.agg (gensV oa ya G).toArray,.slice aa ats.length ats.length,.slice wa ws.length ws.length] h) fun o=>∃ ta T,o.1 = .slice ta ws.length ws.length∧Hs base NoB h o.2 [] [⟨T,true,fun y=>RowO base 42 4 (TmG base 7) T y (rdl G ats ws) ta⟩] by
  obtain ⟨⟨o1,o2⟩,e,ta,T,y1,y2⟩:=w
  simp only at y1 y2
  subst y1
  exact ⟨ta,T,o2,e,y2⟩
 refine W.of (fun r hx=>Am.r52 hx) ?_
 ((refine W.nD d fun h1 d _ kh1=>?_);(refine W.nD d fun h2 d _ kh2=>?_))
 have d:=d.asRow0 (α:=Tm) (w:=4) (P:=TmG base 7) (fun U h h' S x cs=>TmG.kp _ _ U h h' S x cs) .here
 refine W.wb (terms_loop (base:=base) (gb:=h.length) hG hol ha hs hw hl (fun y z=>z) ws.length 0 h2 (at0 h1.length) (· = h1.length) (by omega) d) ?_
 rintro ⟨q1,q2,h3⟩ ⟨w1,ta,T,w2,d⟩
 simp only at w1 w2 d
 subst w1;subst w2
 refine W.ifT rfl ?_
 ((with_reducible repeat refine W.a2 ?_))
 exact W.ret ⟨ta,T,rfl,(d.takeD 0).subR (List.sublist_cons_self _ _)⟩
theorem reads_loop {base gb:Nat} {G:Gn} {ats:List ByteArray} {ws:List Int} {ts:List Tm} {oa ya aa wa ta:Option Addr} {V:Fp} {h0:AH} {S T:Fp} {mu mt:Bool} {A:AH→Prop} (hG:G.Ok) (ha:ats.length≤1048576) (hs:∀ s∈ats,s.size≤maxLen) (hw:∀ w∈ws,wOk w) (hl:ws.length≤1048576) (hA:∀ y,A y→SwA base oa ya G aa ats wa ws y) (el:ts.length=ws.length) (et:∀ i (hi:i<ws.length) (hj:i<ts.length),gRd G ats ws[i]=(ts[i],true)):∀ (r i:Nat) (h:AH),i+r=ws.length→Hs base V h0 h [(gb,63,gensV oa ya G)] [⟨S,mu,A⟩,⟨T,mt,fun y=>RowO base 42 4 (TmG base 7) T y ts ta⟩] →
  Wp (loopL (B51_0 base) [some (.slice aa ats.length ats.length),some (.slice wa ws.length ws.length),some (.slice ta ts.length ts.length),some (.pointer (at0 gb)),some (.int .i64 (i:Int))] h) fun o=>o.1=2∧o.2.1 = []∧Hs base V h0 o.2.2 [(gb,63,gensV oa ya G)] [⟨S,mu,A⟩,⟨T,mt,fun y=>RowO base 42 4 (TmG base 7) T y ts ta⟩]:=by
 intro r
 induction r with
 | zero=>
  intro i h hi d
  have hi':i=ws.length:=by omega
  subst hi'
  suffices w:Wp (B51_0 base [some (.slice aa ats.length ats.length),some (.slice wa ws.length ws.length),some (.slice ta ts.length ts.length),some (.pointer (at0 gb)),some (.int .i64 (ws.length:Int))] h) fun o=>o=(2,[],h) by
   obtain ⟨o,e,rfl⟩:=w
   exact ⟨_,loop_off (by decide) e,rfl,rfl,d⟩
  rw [B51_0_eq]
  exact W.ifF (by simp) (W.ret rfl)
 | succ r ih=>
  intro i h hi d
  have hlt:i<ws.length:=by omega
  suffices w:Wp (B51_0 base [some (.slice aa ats.length ats.length),some (.slice wa ws.length ws.length),some (.slice ta ts.length ts.length),some (.pointer (at0 gb)),some (.int .i64 (i:Int))] h) fun o=>o.1=0∧o.2.1 = [some (.slice aa ats.length ats.length),some (.slice wa ws.length ws.length),some (.slice ta ts.length ts.length),some (.pointer (at0 gb)),some (.int .i64 ((i+1:Nat):Int))]∧Hs base V h0 o.2.2 [(gb,63,gensV oa ya G)] [⟨S,mu,A⟩,⟨T,mt,fun y=>RowO base 42 4 (TmG base 7) T y ts ta⟩] by
   obtain ⟨⟨o1,o2,h'⟩,e,y1,y2,d'⟩:=w
   simp only at y1 y2 d'
   subst y1;subst y2
   obtain ⟨o,eo,q⟩:=ih (i+1) h' (by omega) d'
   exact ⟨o,loop_on e eo,q⟩
  rw [B51_0_eq]
  refine W.ifT (decide_eq_true (by omega)) ?_
  ((with_reducible repeat first|refine W.a1 d ?_|refine W.a8 ?_))
  have x0:=hA _ (d.rs (i:=0) rfl)
  obtain ⟨ad,rfl,g⟩:=int_get x0.2.1 hlt
  refine W.bo ?_
  rw [Int.toNat_natCast]
  refine W.bI g ?_
  obtain ⟨cs,h1,e1,tg,k1⟩:=implGensRead_run (base:=base) hG ha hs (hw _ (List.getElem_mem hlt)) x0.1 d.ge
  refine W.bs e1 ?_
  rw [et i hlt (by omega)] at tg ⊢
  simp only at tg ⊢
  obtain ⟨k',n',s',l',m',rfl⟩:=tg.form
  have d:=d.call k1 _ (fun y=>TmG base 7 (iS h.length h1.length) y (ts[i]'(by omega)) _) tg (fun U y y' ky hs z=>TmG.kp _ _ _ U y y' _ _ ky hs z) (fun b hb=>hb)
  ((try simp only [n1,n2,n3,n4,n5,n6] at d);(with_reducible repeat first|refine W.a2 ?_|refine W.a3 ?_))
  refine W.gt (ne_A (Nat.ne_of_lt (Nat.lt_of_lt_of_le (x0.2.2.lt _ ⟨ad,rfl,rfl⟩) k1.1))) ?_
  ((with_reducible repeat refine W.a7 ?_);(refine W.nD d fun h2 d _ kh2=>?_);(with_reducible repeat refine W.a5 d fun hw d lw kw=>?_))
  apply W.jb (L:=[some (.slice aa ats.length ats.length),some (.slice (some ad) ws.length ws.length),some (.slice ta ts.length ts.length),some (.pointer (at0 gb)),some (.int .i64 (i:Int))]) false d
  ·refine W.ifF (by decide) ?_
   ((try simp only [n1,n2,n3,n4,n5,n6] at d);(with_reducible repeat first|refine W.a1 d ?_|refine W.a8 ?_))
   refine W.o4 (d.rs (i:=1) rfl) (i:=i) (by omega) fun kb nb sb ab lb eB tB rB hs1 hl1=>?_
   have tg2:TmG base 7 (iS h.length h1.length) _ (ts[i]'(by omega)) (termV k' n' s' l' m'):=d.rs (i:=2) rfl
   rw [← eB] at tB
   obtain ⟨h4,e4,k4⟩:=sameT_run (base:=base) 7 7 _ _ _ _ _ _ (TmG.tmR tg2) (TmG.tmR tB) d.ge
   refine W.bs e4 ?_
   ((with_reducible repeat refine W.a2 ?_))
   exact W.lb rfl rfl k4
  intro h3 d nj
  ((try simp only [n1,n2,n3,n4,n5,n6] at d);(with_reducible repeat refine W.a2 ?_))
  refine W.ifF (by decide) ?_
  rw [w64i (n:=(i:Int)+1) (by omega) (by omega)]
  exact W.ret ⟨rfl,rfl,d.tl.takeR 2⟩
theorem reads_run {base:Nat} {h:AH} {G:Gn} {ats:List ByteArray} {ws:List Int} {ts:List Tm} {oa ya aa wa ta:Option Addr} {T:Fp} (hG:G.Ok) (ha:ats.length≤1048576) (hs:∀ s∈ats,s.size≤maxLen) (hw:∀ w∈ws,wOk w) (hl:ws.length≤1048576) (el:ts.length=ws.length) (et:∀ i (hi:i<ws.length) (hj:i<ts.length),gRd G ats ws[i]=(ts[i],true)) (x:SwA base oa ya G aa ats wa ws h) (y:RowO base 42 4 (TmG base 7) T h ts ta) (hT:∀ b,T b→b<h.length) (hb:base≤h.length) :
  ∃ h',run (Et base) 51 [.agg (gensV oa ya G).toArray,.slice aa ats.length ats.length,.slice wa ws.length ws.length,.slice ta ts.length ts.length] h=some (.bool true,h')∧KB NoB h h':=by
 have d:=Hs.start hb
 have d:=d.inp (fun b=>b<h.length) (SwA base oa ya G aa ats wa ws) x (fun U y y' k hS q=>⟨q.1.keep k fun i hi=>hS i (x.lt i (.inl hi)),q.2.1.keep k fun i hi=>hS i (x.lt i (.inr hi)),q.2.2.keep k fun i hi=>hS i (x.lt i (.inr hi))⟩) (fun b hb=>hb) (by simp) rfl
 have d:=d.inp T (fun z=>RowO base 42 4 (TmG base 7) T z ts ta) y (fun U z z' k hS q=>RowO.keep (fun U h h' S x cs=>TmG.kp _ _ U h h' S x cs) q k hS) hT (by simp) rfl
 suffices w:Wp (run (Et base) 51 [.agg (gensV oa ya G).toArray,.slice aa ats.length ats.length,.slice wa ws.length ws.length,.slice ta ts.length ts.length] h) fun o=>o.1 = .bool true∧KB NoB h o.2 by
  obtain ⟨⟨o1,o2⟩,e,y1,y2⟩:=w
  simp only at y1 y2
  subst y1
  exact ⟨o2,e,y2⟩
 refine W.of (fun r hx=>Am.r51 hx) ?_
 ((try simp only [n1,n2,n3,n4,n5,n6] at d);(refine W.nD d fun h1 d _ kh1=>?_))
 refine W.ifF (by simp [el]) ?_
 refine W.wb (reads_loop (base:=base) (gb:=h.length) hG ha hs hw hl (fun y z=>z) el et ws.length 0 h1 (by omega) d) ?_
 rintro ⟨q1,q2,h3⟩ ⟨w1,w2,d⟩
 simp only at w1 w2 d
 subst w1;subst w2
 refine W.ifF (fun h=>absurd (show (2:Nat)=1 from h) (by decide)) (W.ifT rfl ?_)
 exact W.ret ⟨rfl,d.kb⟩
theorem rdl_get {G:Gn} {ats:List ByteArray} {l:List Int} {i:Nat} (hj:i<(rdl G ats l).length) (hr:i<l.length):(rdl G ats l)[i]=(gRd G ats l[i]).1:=by
 simp [rdl]
theorem fnTwo_law {base:Nat} {h:AH} {a:Option Addr} {zs:List Int} (s:Sl h a (iv .u8 zs)) (hz:zs = []∨∀ b,blk a b→b<base) (hb:base≤h.length) :
  Wp (run (Et base) 10 [.slice a zs.length zs.length] h) fun r=>r.1 = .bool true:=by
 have big:run (Et base) 22 [.slice a zs.length zs.length] h=some (.bool (decide (((zs.length:Nat):Int)>(1048576:Int))),h):=Am.r22 rfl
 have d:=Hs.start hb
 refine W.of (fun r hx=>Am.r10 hx) ?_
 refine W.bs big ?_
 ((with_reducible repeat refine W.a2 ?_))
 refine W.ite (fun c=>W.ret rfl) (fun c=>?_)
 have c:¬((zs.length:Int)>1048576):=by simpa using c
 obtain ⟨G,ats,roots,oa,ya,aa,ra,h1,e1,dr,z1⟩:=drawGens_run (base:=base) h a zs s hz (by omega) hb
 have d:=d.callR z1 (by simp)
 refine W.bs e1 ?_
 have hsz:=dr.sz
 have gG:G.Ok:=dr.gw.1
 have gr:∀ w∈roots,wOk w:=dr.gw.2.1
 have gl:roots.length≤1048576:=dr.gw.2.2
 have lr:=dr.rl
 have tot:=dr.tot
 obtain ⟨go1,_,_,_⟩:=gOk_parts dr.fo.ok
 have m1:=swp_done (all:=false) dr.fo (by omega)
 have s1:=swp_fo dr.fo m1
 have t1:=swp_tot dr.fo s1
 have w1:=swp_gw (ats:=ats) (all:=false) dr.gw
 have m2:=swp_done (all:=false) s1.fo (by omega)
 have s2:=swp_fo s1.fo m2
 have w2:=swp_gw (ats:=ats) (all:=false) w1
 obtain ⟨f1,f2,f3,f4,f5⟩:=two_sweeps dr.fo s1 s2
 have t2:=swp_tot s1.fo s2
 ((try simp only [n1,n2,n3,n4,n5,n6] at d);(with_reducible repeat first|refine W.a2 ?_|refine W.a3 ?_);(refine W.nD d fun h2 d _ kh2=>?_);(with_reducible repeat first|refine W.a1 d ?_|refine W.a5 d fun hw d lw kw=>?_))
 have d:Hs base NoB h hw [(h1.length,63,gensV oa ya G)] [rW base oa G.old,rW base ya G.young,rSt base aa ats,rW base ra roots]:=d
 obtain ⟨oa1,ya1,ra1,h3,e3,dq⟩:=implMinor_run (base:=base) hw G ats roots oa ya aa ra gG (by omega) hsz.2 gr gl (mkSwA (d.rs (i:=0) rfl) (d.rs (i:=1) rfl) (d.rs (i:=2) rfl) (d.rs (i:=3) rfl)) d.ge
 rw [List.append_nil] at e3
 refine W.bs e3 ?_
 have d:=d.callR dq (by simp)
 rw [m1]
 generalize hX:swp G ats roots false=X at *
 obtain ⟨⟨X,ws⟩,bX⟩:=X
 simp only at *
 have xG:X.Ok:=w1.1
 have xr:∀ w∈ws,wOk w:=w1.2.1
 have xl:ws.length≤1048576:=w1.2.2
 ((try simp only [n1,n2,n3,n4,n5,n6] at d);(with_reducible repeat first|refine W.a2 ?_|refine W.a3 ?_);(refine W.nD d fun h4 d _ kh4=>?_);(with_reducible repeat first|refine W.a1 d ?_|refine W.a5 d fun hw d lw kw=>?_))
 obtain ⟨oa2,ya2,ra2,h5,e5,dq⟩:=implMinor_run (base:=base) hw X ats ws oa1 ya1 aa ra1 xG (by omega) hsz.2 xr xl (mkSwA (d.rs (i:=4) rfl) (d.rs (i:=5) rfl) (d.rs (i:=2) rfl) (d.rs (i:=6) rfl)) d.ge
 rw [List.append_nil] at e5
 refine W.bs e5 ?_
 have d:=d.callR dq (by simp)
 rw [m2]
 generalize hY:swp X ats ws false=Y at *
 obtain ⟨⟨Y,vs⟩,bY⟩:=Y
 simp only at *
 have yG:Y.Ok:=w2.1
 have yr:∀ w∈vs,wOk w:=w2.2.1
 have yl:vs.length≤1048576:=w2.2.2
 ((try simp only [n1,n2,n3,n4,n5,n6] at d);(with_reducible repeat first|refine W.a2 ?_|refine W.a3 ?_);(refine W.nD d fun h6 d _ kh6=>?_);(with_reducible repeat refine W.a5 d fun hw d lw kw=>?_))
 refine W.ifT (by first|trivial|rfl) (W.ifT (by first|trivial|rfl) ?_)
 ((try simp only [n1,n2,n3,n4,n5,n6] at d);(with_reducible repeat refine W.a1 d ?_))
 refine W.ifT (by rw [f1];rfl) ?_
 ((with_reducible repeat refine W.a1 d ?_))
 refine W.ifT (by rw [f2];rfl) ?_
 ((with_reducible repeat refine W.a1 d ?_))
 obtain ⟨ta,T,h7,e7,dq⟩:=terms_run (base:=base) (ws:=roots) gG go1 (by omega) hsz.2 gr gl (mkSwA (d.rs (i:=0) rfl) (d.rs (i:=1) rfl) (d.rs (i:=2) rfl) (d.rs (i:=3) rfl)) d.ge
 refine W.bs e7 ?_
 have d:=d.callR dq (by simp)
 ((try simp only [n1,n2,n3,n4,n5,n6] at d);(with_reducible repeat first|refine W.a2 ?_|refine W.a6 d ?_))
 have tl:(rdl G ats roots).length=vs.length:=by rw [rdl_len,f4]
 obtain ⟨h8,e8,k8⟩:=reads_run (base:=base) (ws:=vs) yG (by omega) hsz.2 yr yl tl (fun i hi hj=>by
  have hr:i<roots.length:=by rw [rdl_len] at hj;exact hj
  have q:=(dr.fo.root _ (List.getElem_mem hr)).1
  unfold rootOk at q
  rw [Bool.and_eq_true] at q
  rw [f5 i hr hi]
  exact Prod.ext (rdl_get hj hr).symm q.1) (mkSwA (d.rs (i:=7) rfl) (d.rs (i:=8) rfl) (d.rs (i:=2) rfl) (d.rs (i:=9) rfl)) (d.rs (i:=10) rfl) (d.rlt (i:=10) rfl) d.ge
 rw [rdl_len] at e8
 refine W.bs e8 ?_
 have d:=d.kN k8
 ((with_reducible repeat refine W.a2 ?_))
 refine W.ifT (by first|trivial|rfl) ?_
 ((with_reducible repeat refine W.a1 d ?_))
 refine W.ret ?_
 dsimp only
 rw [w64i (by omega) (by omega),f3]
 simp
theorem fnTwo_all {base:Nat} {h:AH} {a:Option Addr} {zs:List Int} (s:Sl h a (iv .u8 zs)) (hb:h.length=base) :
  ∃ h',run (Et base) 10 [.slice a zs.length zs.length] h=some (.bool true,h'):=by
 have hz:zs = []∨∀ b,blk a b→b<base:=by
  rcases sl_below s with e|e
  ·exact .inl (by cases zs with|nil=>rfl|cons x r=>simp [iv] at e)
  ·exact .inr fun b hb'=>by have:=e b hb';omega
 obtain ⟨⟨u,h'⟩,e,q⟩:=fnTwo_law (base:=base) s hz (by omega)
 simp only at q
 exact ⟨h',by rw [e,q]⟩
end Go.Proofs.Ytkdenmdijdmnjaa.Am
