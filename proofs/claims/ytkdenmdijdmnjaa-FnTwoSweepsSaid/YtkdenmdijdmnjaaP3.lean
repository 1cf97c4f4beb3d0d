/- What the functions of this law compute, lemma by lemma, up to the law.
Conditions: none. -/
import Derived.Test.YtkdenmdijdmnjaaP2
import Derived.DataShut
import Derived.IntWalk
import Derived.Laws.BitsLemmas
set_option linter.unusedSimpArgs false
set_option linter.unusedVariables false
namespace Go.Proofs.Ytkdenmdijdmnjaa.Am
open Go Go.RowKit

theorem specGPut_run {base f:Nat}:GPutO base 157 f:=by
 intro h p t cs G ats oa ya aa hm hp hs has hol hyl hal hb
 have d:=Hs.start hb
 have d:=d.inp p (fun y=>TmR y p f t cs) hm (fun U y y' ky hs x=>TmR.keep ky hs _ _ _ x) hp (by simp) rfl
 simp only [List.nil_append] at d
 suffices W:Wp (run (Et base) 157 [.agg (gensV oa ya G).toArray,.slice aa ats.length ats.length,.agg cs.toArray] h) fun o=>∃ a b aa',o.1 = .tuple #[.agg (gensV a b ⟨G.old,(putT 100000 1000 f G.young ats t).1.1,G.mark⟩).toArray,.slice aa' (putT 100000 1000 f G.young ats t).1.2.length (putT 100000 1000 f G.young ats t).1.2.length,.int .i64 (putT 100000 1000 f G.young ats t).2.1,.bool (putT 100000 1000 f G.young ats t).2.2]∧Hs base NoB h o.2 [] [rW base a G.old,rW base b (putT 100000 1000 f G.young ats t).1.1,rSt base aa' (putT 100000 1000 f G.young ats t).1.2] by
  obtain ⟨⟨o1,o2⟩,e,a,b,aa',y1,y2⟩:=W
  simp only at y1 y2
  subst y1
  exact ⟨a,b,aa',o2,e,y2⟩
 cases f with
 | zero=>exact hm.elim
 | succ f=>
 obtain ⟨k,n,s,l⟩:=t
 have hm0:=hm
 obtain ⟨al,rfl,hts,hsz,hln⟩:=hm.parts
 have hnd:tOk (f+1) (.mk k n s l)=true→needT (f+1) (.mk k n s l)≤4100:=fun h=>(Wf.of h).need
 refine W.of (fun r hx=>Am.r157 hx) ?_
 ((refine W.nD d fun h1 d _ kh1=>?_);(refine W.nD d fun h2 d _ kh2=>?_);(refine W.nD d fun h3 d _ kh3=>?_);(with_reducible repeat refine W.a1 d ?_))
 obtain ⟨a4,b4,h4,e4,z⟩:=l6Copy_run (base:=base) h3 oa ya G hol hyl ⟨hs.1.keepN d.kb,hs.2.keepN d.kb⟩ d.ge
 refine W.bs e4 ?_
 have d:=d.call2R z rfl rfl
 ((try simp only [n1,n2,n3,n4,n5,n6] at d);(with_reducible repeat refine W.a2 ?_);(refine W.nD d fun h5 d _ kh5=>?_);(with_reducible repeat refine W.a5 d fun hw d lw kw=>?_);(refine W.nD d fun h6 d _ kh6=>?_))
 obtain ⟨a7,h7,e7,d⟩:=d.copyG (t:=9) (bytes:=16) (raw_st (has.keepN d.kb)) (by rw [stV_len]) (by omega) (by omega)
 refine W.bs e7 ?_
 ((try simp only [n1,n2,n3,n4,n5,n6] at d);(with_reducible repeat refine W.a2 ?_);(refine W.nD d fun h8 d _ kh8=>?_);(with_reducible repeat refine W.a5 d fun hw d lw kw=>?_))
 apply W.jb (if (!tOk (f+1) (.mk k n s l))=true then true else decide ((G.young.length:Int)+(needT (f+1) (.mk k n s l):Int)>1000)) d
 ·((try simp only [n1,n2,n3,n4,n5,n6] at d);(with_reducible repeat refine W.a1 d ?_))
  obtain ⟨h9,e9,k9⟩:=specTermOk_run (base:=base) (hm0.keep d.kb (fun _ _ h=>h)) d.ge
  refine W.bs e9 ?_
  have dk:=d
  have d:=d.kN k9
  ((with_reducible repeat refine W.a2 ?_))
  refine W.ite (fun c=>?_) (fun c=>?_)
  ·rw [if_pos c]
   exact W.lb rfl rfl k9
  rw [if_neg c]
  have hto:tOk (f+1) (.mk k n s l)=true:=by simpa using c
  have hnd:=hnd hto
  ((with_reducible repeat refine W.a1 d ?_))
  obtain ⟨h10,e10,k10⟩:=specNeed_run (base:=base) (f+1) h9 p _ _ (hm0.keep d.kb (fun _ _ h=>h)) (Wf.of hto) d.ge
  refine W.bs e10 ?_
  ((with_reducible repeat refine W.a2 ?_))
  have d:=d.kN k10
  ((with_reducible repeat refine W.a6 d ?_))
  rw [w64i (n:=(G.young.length:Int)+(needT (f+1) (.mk k n s l):Int)) (by omega) (by omega)]
  exact W.lb rfl rfl (kN k9 k10)
 intro h9 d n9
 rw [roomT_spec]
 ((try simp only [n1,n2,n3,n4,n5,n6] at d);(with_reducible repeat refine W.a2 ?_))
 refine W.ite (fun c=>?_) (fun c=>?_)
 ·have c:roomT 1000 (f+1) G.young (.mk k n s l)=false:=by simpa using c
  rw [putT_no c]
  ((with_reducible repeat first|refine W.a1 d ?_|refine W.a5 d fun hw d lw kw=>?_|refine W.a6 d ?_))
  have d:=(((d.frontR (Del.at (i:=3) rfl)).frontR (Del.at (i:=3) rfl)).frontR (Del.at (i:=3) rfl)).takeR 3
  exact W.ret ⟨a4,b4,a7,rfl,d.takeD 0⟩
 have c:roomT 1000 (f+1) G.young (.mk k n s l)=true:=by simpa using c
 rw [putT_yes c]
 unfold roomT at c
 rw [Bool.and_eq_true] at c
 obtain ⟨hto,hrm⟩:=c
 have hrm:=of_decide_eq_true hrm
 have hwf:=Wf.of hto
 rw [pt_sg (f+1) (.mk k n s l)]
 ((with_reducible repeat refine W.a1 d ?_))
 have d:=(d.frontR (Del.at (i:=3) rfl)).frontR (Del.at (i:=1) rfl)
 simp only [n5,n6] at d
 have d1:=Hs.part (D1:=[_]) (R1:=[_,_]) d
 refine W.wb (l6Lay_run (base:=base) (at_:=G.young.length) hwf (by omega) hal d1) ?_
 rintro ⟨u,h10⟩ ⟨aa',c,y1,d2⟩
 simp only at y1 d2
 subst y1
 have d:=Hs.back (D1:=[_]) (R1:=[_,_]) d d2 (imP rfl rfl)
 clear d1 d2
 have hsl:=sg_len hwf (100000+(G.young.length:Int)) ats
 generalize sg (f+1) (100000+(G.young.length:Int)) ats (.mk k n s l)=q at d hsl ⊢
 ((try simp only [n1,n2,n3,n4,n5,n6] at d);(with_reducible repeat first|refine W.a2 ?_|refine W.a3 ?_))
 dsimp only
 refine W.ite (fun cb=>?_) (fun cb=>?_)
 ·have cb:q.ok=false:=by simpa using cb
  rw [cb,if_neg (by decide)]
  ((with_reducible repeat first|refine W.a1 d ?_|refine W.a7 ?_);(refine W.nD d fun h12 d _ kh12=>?_))
  obtain ⟨a13,h13,e13,d⟩:=d.copyG (t:=9) (bytes:=16) (raw_st (has.keepN d.kb)) (by rw [stV_len]) (by omega) (by omega)
  refine W.bs e13 ?_
  ((try simp only [n1,n2,n3,n4,n5,n6] at d);(with_reducible repeat first|refine W.a1 d ?_|refine W.a2 ?_|refine W.a5 d fun hw d lw kw=>?_|refine W.a6 d ?_))
  have d:=(((d.frontR (Del.at (i:=5) rfl)).frontR (Del.at (i:=5) rfl)).frontR (Del.at (i:=5) rfl)).takeR 3
  exact W.ret ⟨a4,b4,a13,rfl,d.takeD 0⟩
 ·have cb:q.ok=true:=by simpa using cb
  rw [cb,if_pos rfl]
  ((with_reducible repeat refine W.a1 d ?_))
  obtain ⟨a',h11,e11,d,_⟩:=d.extW (i:=4) (m:=q.seg.length) (new:=q.seg) rfl (raw_ivs (Own.sl (d.rs (i:=1) rfl))) rfl (by omega)
  refine W.bs e11 ?_
  ((try simp only [n1,n2,n3,n4,n5,n6] at d);(with_reducible repeat first|refine W.a1 d ?_|refine W.a2 ?_|refine W.a5 d fun hw d lw kw=>?_|refine W.a6 d ?_))
  rw [show G.young.length+q.seg.length=(G.young++q.seg).length from by simp] at d
  have d:=(((d.frontR (Del.at (i:=2) rfl)).frontR (Del.at (i:=4) rfl)).frontR (Del.at (i:=4) rfl)).takeR 3
  exact W.ret ⟨a4,a',aa',by simp,d.takeD 0⟩
theorem Hs.callR {base:Nat} {V:Fp} {h0 h h':AH} {D D':Ds} {R R':List Rs} (d:Hs base V h0 h D R) (z:Hs base NoB h h' D' R') (hm:∀ r∈R',r.mu=true):Hs base V h0 h' D (R++R'):=by
 have d':=d.kN z.kb
 have hz:∀ r∈R',∀ b,r.S b→h.length≤b∧b<h'.length:=fun r hr b hb=>by
  obtain ⟨_,_,x3,x4,_⟩:=z.res r hr
  exact ⟨(x4 (hm r hr) b hb).resolve_left fun h=>h,x3 b hb⟩
 refine ⟨d'.ge,d'.kb,d'.own,d'.nd,fun r hr=>?_,?_⟩
 ·rcases List.mem_append.1 hr with hr|hr
  ·exact d'.res r hr
  ·obtain ⟨x1,x2,x3,x4,_⟩:=z.res r hr
   refine ⟨x1,x2,x3,fun _ b hb=>.inr ?_,fun x hx hS=>?_⟩
   ·have:=(hz r hr b hb).1
    have:=d.kb.1
    omega
   ·have:=((d.own x hx).1.lt (blk_at0.2 rfl)).2
    have:=(hz r hr _ hS).1
    omega
 ·rw [List.pairwise_append]
  refine ⟨d'.dj,z.dj,fun r hr s hs e b h1 h2=>?_⟩
  have:=(d.res r hr).2.2.1 b h1
  have:=(hz s hs b h2).1
  omega
def sw0 (G:Gn) (all:Bool):Sw:=⟨if all=true then [] else G.old,[],fun _=>none⟩
def swp (G:Gn) (ats:List ByteArray) (roots:List Int) (all:Bool):(Gn×List Int)×Bool:=
 if gOk G ats roots=true then
  (if decide (((cpAll false G all 133 roots (sw0 G all)).2.old.length:Int)>1000)=true then ((G,roots),false)
  else ((⟨(cpAll false G all 133 roots (sw0 G all)).2.old,(cpAll false G all 133 roots (sw0 G all)).2.young,(cpAll false G all 133 roots (sw0 G all)).2.young.length⟩,(cpAll false G all 133 roots (sw0 G all)).1),true))
 else ((G,roots),false)
theorem gOk_parts {G:Gn} {ats:List ByteArray} {roots:List Int} (h:gOk G ats roots=true):G.old.length≤1000∧G.young.length≤1000∧(0≤G.mark∧G.mark≤G.young.length)∧∀ w∈roots,Fue G 133 w:=by
 unfold gOk at h
 simp only [Bool.and_eq_true,Bool.not_eq_true',List.all_eq_true] at h
 obtain ⟨h1,h2,h3,_⟩:=gHead_ok h.1
 refine ⟨h1,h2,h3,fun w hw=>?_⟩
 have:=h.2 w hw
 unfold rootOk at this
 simp only [Bool.and_eq_true] at this
 exact gRd_fue this.1
theorem sw0_in {G:Gn} {all:Bool} (ho:G.old.length≤1000):(sw0 G all).In:=by
 unfold Sw.In sw0
 split<;>simp<;>omega
theorem cpAll_in {G:Gn} {all:Bool} (ho:G.old.length≤1000) (hy:G.young.length≤1000) {n:Nat}:∀ (l:List Int) (σ:Sw),(∀ w∈l,Fue G n w)→σ.In→(cpAll false G all n l σ).2.In
 | [],σ,_,x=>x
 | w :: r,σ,h,x=>by
  rw [cpAll]
  exact cpAll_in ho hy r _ (fun y hy'=>h y (.tail _ hy')) (cp_in ho hy n w σ (h w (.head _)) x)
theorem cpAll_len {fill:Bool} {G:Gn} {all:Bool} {n:Nat}:∀ (l:List Int) (σ:Sw),(cpAll fill G all n l σ).1.length=l.length
 | [],σ=>rfl
 | w :: r,σ=>by rw [cpAll,List.length_cons,List.length_cons,cpAll_len r]
theorem W.nM {β:Type} {Q:β→Prop} {base:Nat} {V:Fp} {h0 h:AH} {D:Ds} {R:List Rs} (d:Hs base V h0 h D R) {f:AH→Option β} (w:∀ h1,Hs base V h0 h1 D (R++[rMp h.length []])→h1.length=h.length+1→KB NoB h h1→Wp (f h1) Q):Wp ((some (h++[some (mblk [])])).bind f) Q:=w _ d.newM (by simp) (KB.push _ _ _)
theorem Hs.subR {base:Nat} {V:Fp} {h0 h:AH} {D:Ds} {R R':List Rs} (d:Hs base V h0 h D R) (u:R'.Sublist R):Hs base V h0 h D R':=
 ⟨d.ge,d.kb,d.own,d.nd,fun r hr=>d.res r (u.subset hr),d.dj.sublist u⟩
theorem Hs.nilW2 {base:Nat} {V:Fp} {h0 h:AH} {D:Ds} {R:List Rs} (d:Hs base V h0 h D R):Hs base V h0 h D (R++[rW base none []]):=
 d.call (KB.refl _ _) (blk none) (fun y=>Own base 3 y none (iv .i64 [])) (.inl ⟨rfl,rfl⟩) (fun U y y' ky hs x=>x.keep ky hs) (fun b ⟨ad,e,_⟩=>by cases e)
def SwA (base:Nat) (oa ya:Option Addr) (G:Gn) (aa:Option Addr) (ats:List ByteArray) (ra:Option Addr) (roots:List Int) (h:AH):Prop:=RdA base oa ya G aa ats h∧Sl h ra (iv .i64 roots)∧TyOk base h ra 3
theorem SwA.lt {base:Nat} {oa ya:Option Addr} {G:Gn} {aa:Option Addr} {ats:List ByteArray} {ra:Option Addr} {roots:List Int} {h:AH} (x:SwA base oa ya G aa ats ra roots h):∀ b,(blk oa b∨blk ya b∨blk aa b)∨blk ra b→b<h.length:=fun b hb=>hb.elim (x.1.lt b) (x.2.2.lt b)
theorem SwA.start {base:Nat} {oa ya:Option Addr} {G:Gn} {aa:Option Addr} {ats:List ByteArray} {ra:Option Addr} {roots:List Int} {h:AH} (x:SwA base oa ya G aa ats ra roots h) (hb:base≤h.length):Hs base NoB h h [] [⟨fun b=>b<h.length,false,SwA base oa ya G aa ats ra roots⟩]:=by
 have xl:=x.lt
 refine (Hs.start hb).inp (fun b=>b<h.length) (SwA base oa ya G aa ats ra roots) x (fun U y y' k hS q=>?_) (fun b hb=>hb) (fun x hx=>nomatch hx) rfl
 exact ⟨q.1.keep k fun i hi=>hS i (xl i (.inl hi)),q.2.1.keep k fun i hi=>hS i (xl i (.inr hi)),q.2.2.keep k fun i hi=>hS i (xl i (.inr hi))⟩
theorem W.rj {β:Type} {Q:β→Prop} {h:AH} {zs:List Int} {a:Option Addr} (hs:Sl h a (iv .i64 zs)) {i:Nat} (hi:i<zs.length) {f:Int→Option β} (w:Wp (f zs[i]) Q):Wp (a.bind fun ad=>((Am.cell h ad.block (ad.off+i*1)).bind (getI .i64)).bind f) Q:=by
 obtain ⟨ad,rfl,g⟩:=int_get hs hi
 exact W.bs rfl (W.bI g w)
theorem sweep_loop {base sb mb gb zb:Nat} {oa ya aa ra:Option Addr} {G:Gn} {ats:List ByteArray} {roots:List Int} {all:Bool} {S V:Fp} {mu:Bool} {h0:AH} (hG:G.Ok) (ho:G.old.length≤1000) (hy:G.young.length≤1000) (hr:∀ w∈roots,wOk w∧Fue G 133 w) (hrl:roots.length≤1048576) :
  ∀ (r i:Nat) (h:AH) (σ:Sw) (m:List (Int×Int)) (a b c:Option Addr) (out:List Int),i+r=roots.length→out.length=i→WR m σ→σ.In→Hs base V h0 h (swD sb oa ya G all a b σ mb) (swR base S mu (SwA base oa ya G aa ats ra roots) a b σ mb m++[rW base c out]) →
  Wp (loopL (B99_0 base) [some (.slice ra roots.length roots.length),some (.pointer (at0 gb)),some (.pointer (at0 zb)),some (.pointer (at0 sb)),some (.slice c out.length out.length),some (.slice ra roots.length roots.length),some (.int .i64 (roots.length:Int)),some (.int .i64 (i:Int))] h) fun q=>q.1=2∧∃ m' a' b' c',q.2.1 = [some (.slice ra roots.length roots.length),some (.pointer (at0 gb)),some (.pointer (at0 zb)),some (.pointer (at0 sb)),some (.slice c' (out++(cpAll false G all 133 (roots.drop i) σ).1).length (out++(cpAll false G all 133 (roots.drop i) σ).1).length)]∧Hs base V h0 q.2.2 (swD sb oa ya G all a' b' (cpAll false G all 133 (roots.drop i) σ).2 mb) (swR base S mu (SwA base oa ya G aa ats ra roots) a' b' (cpAll false G all 133 (roots.drop i) σ).2 mb m'++[rW base c' (out++(cpAll false G all 133 (roots.drop i) σ).1)]):=by
 intro r
 induction r with
 | zero=>
  intro i h σ m a b c out hi ho' hWR hin d
  suffices w1:Wp (B99_0 base [some (.slice ra roots.length roots.length),some (.pointer (at0 gb)),some (.pointer (at0 zb)),some (.pointer (at0 sb)),some (.slice c out.length out.length),some (.slice ra roots.length roots.length),some (.int .i64 (roots.length:Int)),some (.int .i64 (i:Int))] h) fun q=>q=(2,[some (.slice ra roots.length roots.length),some (.pointer (at0 gb)),some (.pointer (at0 zb)),some (.pointer (at0 sb)),some (.slice c out.length out.length)],h) by
   obtain ⟨q,e,rfl⟩:=w1
   rw [List.drop_of_length_le (by omega),cpAll,List.append_nil]
   exact ⟨_,loop_off (by decide) e,rfl,m,a,b,c,rfl,d⟩
  rw [B99_0_eq]
  exact W.ifF (by simp;omega) (W.ret rfl)
 | succ r ihr=>
  intro i h σ m a b c out hi ho' hWR hin d
  have hlt:i<roots.length:=by omega
  obtain ⟨hw,hf⟩:=hr _ (List.getElem_mem hlt)
  rw [List.drop_eq_getElem_cons hlt,cpAll]
  suffices w1:Wp (B99_0 base [some (.slice ra roots.length roots.length),some (.pointer (at0 gb)),some (.pointer (at0 zb)),some (.pointer (at0 sb)),some (.slice c out.length out.length),some (.slice ra roots.length roots.length),some (.int .i64 (roots.length:Int)),some (.int .i64 (i:Int))] h) fun q=>q.1=0∧∃ m' a' b' c',q.2.1 = [some (.slice ra roots.length roots.length),some (.pointer (at0 gb)),some (.pointer (at0 zb)),some (.pointer (at0 sb)),some (.slice c' (out++[(cp false G all 133 roots[i] σ).1]).length (out++[(cp false G all 133 roots[i] σ).1]).length),some (.slice ra roots.length roots.length),some (.int .i64 (roots.length:Int)),some (.int .i64 ((i:Int)+1))]∧WR m' (cp false G all 133 roots[i] σ).2∧Hs base V h0 q.2.2 (swD sb oa ya G all a' b' (cp false G all 133 roots[i] σ).2 mb) (swR base S mu (SwA base oa ya G aa ats ra roots) a' b' (cp false G all 133 roots[i] σ).2 mb m'++[rW base c' (out++[(cp false G all 133 roots[i] σ).1])]) by
   obtain ⟨⟨o1,o2,h'⟩,e,y1,m',a',b',c',y2,y3,d'⟩:=w1
   simp only at y1 y2 d'
   subst y1;subst y2
   obtain ⟨q,eq,z1,m2,a2,b2,c2,z2,z3⟩:=ihr (i+1) h' _ m' a' b' c' _ (by omega) (by simp;omega) y3 (cp_in ho hy 133 _ σ hf hin) d'
   refine ⟨q,loop_on e eq,z1,m2,a2,b2,c2,?_,?_⟩
   ·rw [z2,List.append_assoc];rfl
   ·rw [List.append_assoc] at z3;exact z3
  rw [B99_0_eq]
  refine W.ifT (decide_eq_true (by omega)) (W.ifT ⟨by omega,by omega⟩ ?_)
  rw [Int.toNat_natCast]
  refine W.rj (d.rs (i:=0) rfl:SwA base oa ya G aa ats ra roots h).2.1 hlt ?_
  have d1:=Hs.part (D1:=[_]) (D2:=[]) (R1:=[_,_,_,_]) (R2:=[_]) d
  refine W.wb (cw_all (all:=all) hG ho hy 133 _ σ m a b S _ mu _ _ h hw hf hWR hin (fun y hy=>hy.1.gnO) d1) ?_
  rintro ⟨u,h2⟩ ⟨y1,m',a',b',y2,d2⟩
  simp only at y1 d2
  subst y1
  have d:=Hs.back (D1:=[_]) (D2:=[]) (R1:=[_,_,_,_]) (R2:=[_]) d d2 (fun r hr hm=>by
   simp only [List.mem_cons,List.not_mem_nil,or_false] at hr
   rcases hr with rfl|rfl|rfl|rfl
   ·exact ⟨_,.head _,hm,rfl⟩
   ·cases hm
   ·cases hm
   ·cases hm)
  ((try simp only [n1,n2,n3,n4,n5,n6] at d);(with_reducible repeat refine W.a2 ?_);(refine W.nD d fun h3 d _ kh3=>?_))
  obtain ⟨c5,h5,e5,d,q5,k5,_⟩:=d.app1O (w:=1) (i:=4) (n:=out.length) (bytes:=8) rfl (fun b hb=>hb) (.head _) rfl (by decide) (by simp) rfl (by omega) (by omega)
  refine W.bs e5 ?_
  ((try simp only [n1,n2,n3,n4,n5,n6] at d);(with_reducible repeat refine W.a2 ?_))
  rw [w64i (n:=(i:Int)+1) (by omega) (by omega)]
  have d:=d.tl
  rw [show iv .i64 out++[Value.int .i64 (cp false G all 133 roots[i] σ).1]=iv .i64 (out++[(cp false G all 133 roots[i] σ).1]) from by rw [← iv_append];rfl] at d
  exact W.ret ⟨rfl,m',a',b',c5,by simp,y2,d⟩
def SwpO (base F:Nat) (all:Bool) (xs:List Value):Prop:=∀ (h:AH) (G:Gn) (ats:List ByteArray) (roots:List Int) (oa ya aa ra:Option Addr),G.Ok→ats.length≤1048576→(∀ s∈ats,s.size≤maxLen)→(∀ w∈roots,wOk w)→roots.length≤1048576→SwA base oa ya G aa ats ra roots h→base≤h.length →
  ∃ a b c h',run (Et base) F ([.agg (gensV oa ya G).toArray,.slice aa ats.length ats.length,.slice ra roots.length roots.length]++xs) h=some (.tuple #[.agg (gensV a b (swp G ats roots all).1.1).toArray,.slice c (swp G ats roots all).1.2.length (swp G ats roots all).1.2.length,.bool (swp G ats roots all).2],h')∧Hs base NoB h h' [] [rW base a (swp G ats roots all).1.1.old,rW base b (swp G ats roots all).1.1.young,rW base c (swp G ats roots all).1.2]
theorem implSweep_run {base:Nat} {all:Bool}:SwpO base 99 all [.bool all]:=by
 intro h G ats roots oa ya aa ra hG ha hz hr hrl x hb
 have d:=x.start hb
 suffices W:Wp (run (Et base) 99 [.agg (gensV oa ya G).toArray,.slice aa ats.length ats.length,.slice ra roots.length roots.length,.bool all] h) fun o=>∃ a b c,o.1 = .tuple #[.agg (gensV a b (swp G ats roots all).1.1).toArray,.slice c (swp G ats roots all).1.2.length (swp G ats roots all).1.2.length,.bool (swp G ats roots all).2]∧Hs base NoB h o.2 [] [rW base a (swp G ats roots all).1.1.old,rW base b (swp G ats roots all).1.1.young,rW base c (swp G ats roots all).1.2] by
  obtain ⟨⟨o1,o2⟩,e,a,b,c,y1,y2⟩:=W
  simp only at y1 y2
  subst y1
  exact ⟨a,b,c,o2,e,y2⟩
 refine W.of (fun r hx=>Am.r99 hx) ?_
 ((refine W.nD d fun h1 d _ kh1=>?_);(refine W.nD d fun h2 d _ kh2=>?_);(with_reducible repeat refine W.a1 d ?_))
 have x2:SwA base oa ya G aa ats ra roots h2:=d.rs (i:=0) rfl
 obtain ⟨h3,e3,k3⟩:=implGensOk_run (base:=base) hG ha hz hr (by omega) x2.1 x2.2.1 x2.2.2 d.ge
 have d:=d.kN k3
 refine W.bs e3 ?_
 ((with_reducible repeat refine W.a2 ?_))
 unfold swp
 refine W.ite (fun c=>?_) (fun c=>?_)
 ·have c:¬gOk G ats roots=true:=by simpa using c
  rw [if_neg c]
  ((with_reducible repeat refine W.a1 d ?_))
  have x3:SwA base oa ya G aa ats ra roots h3:=d.rs (i:=0) rfl
  obtain ⟨a4,b4,h4,e4,dq⟩:=copyGens_run (base:=base) h3 oa ya G (by have:=hG.1;omega) (by have:=hG.2.1;omega) x3.1.2.2.2.1 d.ge
  have d:=d.callR dq (by simp)
  refine W.bs e4 ?_
  ((try simp only [n1,n2,n3,n4,n5,n6] at d);(with_reducible repeat refine W.a2 ?_))
  have x4:SwA base oa ya G aa ats ra roots h4:=d.rs (i:=0) rfl
  obtain ⟨a7,h7,e7,o7,k7,f7⟩:=copyIntsO_run (base:=base) x4.2.1 (by omega) d.ge
  refine W.bs e7 ?_
  have d:=d.call k7 (blk a7) (fun y=>Own base 3 y a7 (iv .i64 roots)) o7 (fun U y y' k hs x=>x.keep k hs) (fun i hi=>⟨f7 i hi,(o7.lt hi).2⟩)
  ((try simp only [n1,n2,n3,n4,n5,n6] at d);(with_reducible repeat first|refine W.a1 d ?_|refine W.a2 ?_|refine W.a5 d fun hw d lw kw=>?_))
  exact W.ret ⟨a4,b4,a7,rfl,(d.takeD 0).subR (List.sublist_cons_self _ _)⟩
 have c:gOk G ats roots=true:=by simpa using c
 rw [if_pos c]
 obtain ⟨g1,g2,g3,g4⟩:=gOk_parts c
 ((with_reducible repeat refine W.a1 d ?_))
 refine W.nM d fun h4 d qn k4=>?_
 ((try simp only [n1,n2,n3,n4,n5,n6] at d);(refine W.nD d fun h5 d _ kh5=>?_))
 have d:=(d.nilW2).nilW2
 have d:=d.frontR (Del.at (i:=3) rfl)
 have d:=d.frontR (Del.at (i:=3) rfl)
 have d:=d.frontR (Del.at (i:=2) rfl)
 have d:Hs base NoB h h5 [(h4.length,119,swV oa ya G all none none ⟨[],[],fun _=>none⟩ h3.length),(h1.length,63,[.slice none 0 0,.slice none 0 0,.int .i64 0]),(h.length,63,gensV oa ya G)] (swR base _ false (SwA base oa ya G aa ats ra roots) none none ⟨[],[],fun _=>none⟩ h3.length []):=d
 refine W.jP (L:=[some (.slice ra roots.length roots.length),some (.pointer (at0 h.length)),some (.pointer (at0 h1.length)),some (.pointer (at0 h4.length))]) (fun y=>∃ a',Hs base NoB h y [(h4.length,119,swV oa ya G all a' none (sw0 G all) h3.length),(h1.length,63,[.slice none 0 0,.slice none 0 0,.int .i64 0]),(h.length,63,gensV oa ya G)] (swR base (fun b=>b<h.length) false (SwA base oa ya G aa ats ra roots) a' none (sw0 G all) h3.length [])) ?_ ?_
 ·cases all with
  | true=>exact W.ifF (by decide) (W.inl ⟨rfl,none,d⟩)
  | false=>
   refine W.ifT rfl ?_
   ((try simp only [n1,n2,n3,n4,n5,n6] at d);(with_reducible repeat refine W.a1 d ?_))
   have x5:SwA base oa ya G aa ats ra roots h5:=d.rs (i:=0) rfl
   obtain ⟨a7,h7,e7,o7,k7,f7⟩:=copyIntsO_run (base:=base) x5.1.2.2.2.1.1 (by omega) d.ge
   refine W.bs e7 ?_
   have d:=d.call k7 (blk a7) (fun y=>Own base 3 y a7 (iv .i64 G.old)) o7 (fun U y y' k hs x=>x.keep k hs) (fun i hi=>⟨f7 i hi,(o7.lt hi).2⟩)
   ((try simp only [n1,n2,n3,n4,n5,n6] at d);(with_reducible repeat first|refine W.a2 ?_|refine W.a5 d fun hw d lw kw=>?_))
   have d:=d.frontR (Del.at (i:=4) rfl)
   have d:=d.frontR (Del.at (i:=1) rfl)
   have d:=d.subR (R':=[_,_,_,_]) ((List.Sublist.refl [_,_]).append (List.sublist_cons_self _ [_,_]))
   exact W.inl ⟨rfl,a7,d⟩
 rintro h6 ⟨a6,d⟩
 ((with_reducible repeat refine W.a2 ?_))
 have d:=d.nilW2
 have d1:=Hs.part (D1:=[_]) (D2:=[_,_]) (R1:=[_,_,_,_,_]) (R2:=[]) d
 refine W.wb (sweep_loop (base:=base) (roots:=roots) (gb:=h.length) (zb:=h1.length) hG g1 g2 (fun w hw=>⟨hr w hw,g4 w hw⟩) hrl roots.length 0 h6 (sw0 G all) [] a6 none none [] (by omega) rfl (fun p=>rfl) (sw0_in g1) d1) ?_
 rintro ⟨q1,q2,h7⟩ ⟨y1,m',a',b',c',y2,d2⟩
 simp only at y1 y2 d2
 subst y1;subst y2
 have d:=Hs.back (D1:=[_]) (D2:=[_,_]) (R1:=[_,_,_,_,_]) (R2:=[]) d d2 (fun r hr hm=>by
   simp only [List.mem_append,List.mem_cons,List.not_mem_nil,or_false] at hr
   rcases hr with (rfl|rfl|rfl|rfl)|rfl
   ·exact ⟨_,.head _,hm,rfl⟩
   ·cases hm
   ·cases hm
   ·cases hm
   ·cases hm)
 rw [List.drop_zero,List.nil_append] at d ⊢
 generalize hX:cpAll false G all 133 roots (sw0 G all)=X at d ⊢
 refine W.ifT rfl ?_
 ((try simp only [n1,n2,n3,n4,n5,n6] at d);(with_reducible repeat first|refine W.a1 d ?_|refine W.a2 ?_))
 refine W.ite (fun c2=>?_) (fun c2=>?_)
 ·rw [if_pos c2]
  ((with_reducible repeat refine W.a1 d ?_))
  have x3:SwA base oa ya G aa ats ra roots h7:=d.rs (i:=0) rfl
  obtain ⟨a4,b4,h8,e4,dq⟩:=copyGens_run (base:=base) h7 oa ya G (by omega) (by omega) x3.1.2.2.2.1 d.ge
  have d:=d.callR dq (by simp)
  refine W.bs e4 ?_
  ((try simp only [n1,n2,n3,n4,n5,n6] at d);(with_reducible repeat refine W.a2 ?_))
  have x4:SwA base oa ya G aa ats ra roots h8:=d.rs (i:=0) rfl
  obtain ⟨a7,h9,e7,o7,k7,f7⟩:=copyIntsO_run (base:=base) x4.2.1 (by omega) d.ge
  refine W.bs e7 ?_
  have d:=d.call k7 (blk a7) (fun y=>Own base 3 y a7 (iv .i64 roots)) o7 (fun U y y' k hs x=>x.keep k hs) (fun i hi=>⟨f7 i hi,(o7.lt hi).2⟩)
  ((try simp only [n1,n2,n3,n4,n5,n6] at d);(with_reducible repeat first|refine W.a1 d ?_|refine W.a2 ?_|refine W.a5 d fun hw d lw kw=>?_))
  exact W.ret ⟨a4,b4,a7,rfl,(d.takeD 0).subR (List.sublist_append_right [_,_,_,_,_] [_,_,_])⟩
 ·rw [if_neg c2]
  ((with_reducible repeat first|refine W.a1 d ?_|refine W.a5 d fun hw d lw kw=>?_))
  exact W.ret ⟨a',b',c',rfl,(d.takeD 0).subR (R':=[_,_,_]) (((List.Sublist.refl [_,_]).append (List.sublist_cons_self _ [_])).cons _)⟩
def By6 (G:Gn) (w:Int):Prop:=tagW w=6→∀ i:Nat,(i:Int)<(gwd G (valW w)).getD 0→(gwd G (valW w+1+(i:Int))).isSome=true
def Fub (G:Gn):Nat→Int→Prop
 | 0,_=>False
 | n+1,w=>Nd G w∧By6 G w∧∀ x∈chW G w,Fub G n x
theorem Fub.fue {G:Gn}:∀ {n:Nat} {w:Int},Fub G n w→Fue G n w
 | 0,w,h=>h.elim
 | n+1,w,h=>⟨h.1,fun x hx=>Fub.fue (h.2.2 x hx)⟩
theorem Fub.up {G:Gn}:∀ {n:Nat} {w:Int},Fub G n w→∀ m,n≤m→Fub G m w
 | 0,w,h,m,_=>h.elim
 | n+1,w,h,0,e=>by omega
 | n+1,w,h,m+1,e=>⟨h.1,h.2.1,fun x hx=>Fub.up (h.2.2 x hx) m (by omega)⟩
theorem Fub.leaf {G:Gn} {w:Int} (h4:tagW w≠4) (h5:tagW w≠5) (h6:tagW w=6→∃ v,gwd G (valW w)=some v∧0≤v∧v≤40) (hb:By6 G w):Fub G 1 w:=by
 refine ⟨⟨h6,fun h=>absurd h h4,fun h=>absurd h h5⟩,hb,fun x hx=>?_⟩
 unfold chW at hx
 rw [if_neg h5,if_neg h4] at hx
 cases hx
theorem rdB_all {G:Gn}:∀ (n:Nat) (p:Int) (y:List Int),rdB G n p=some y→∀ i:Nat,i<n→(gwd G (p+i)).isSome=true
 | 0,p,y,e,i,hi=>by omega
 | n+1,p,y,e,i,hi=>by
  rw [rdB] at e
  obtain ⟨w,e1,e⟩:=Option.bind_eq_some_iff.1 e
  split at e
  ·obtain ⟨z,e3,e⟩:=Option.bind_eq_some_iff.1 e
   cases i with
   | zero=>rw [show p+((0:Nat):Int)=p from by omega,e1];rfl
   | succ i=>
    have:=rdB_all n (p+1) z e3 i (by omega)
    rw [show p+((i+1:Nat):Int)=p+1+(i:Int) from by omega]
    exact this
  ·cases e
theorem rdL_fub {G:Gn} {g:Int→Int→Option (Tm×Int)} {m:Nat} (hm:1≤m) (h:∀ w c y,g w c=some y→Fub G m w):∀ (n:Nat) (w c:Int) (y:List Tm×Int),rdL G g n w c=some y→Fub G (m+n+1) w
 | 0,w,c,y,e=>by
  rw [rdL_0] at e
  by_cases h1:w=3
  ·subst h1
   exact Fub.up (Fub.leaf (by decide) (by decide) (fun h=>absurd h (by decide)) (fun h=>absurd h (by decide))) _ (by omega)
  ·rw [if_neg h1] at e;cases e
 | n+1,w,c,y,e=>by
  rw [rdL_s] at e
  by_cases h1:w=3
  ·subst h1
   exact Fub.up (Fub.leaf (by decide) (by decide) (fun h=>absurd h (by decide)) (fun h=>absurd h (by decide))) _ (by omega)
  rw [if_neg h1] at e
  by_cases h2:w<0∨tagW w≠5
  ·rw [if_pos h2] at e;cases e
  rw [if_neg h2] at e
  obtain ⟨x,e1,e⟩:=Option.bind_eq_some_iff.1 e
  obtain ⟨t,e2,e⟩:=Option.bind_eq_some_iff.1 e
  obtain ⟨v,e3,e⟩:=Option.bind_eq_some_iff.1 e
  obtain ⟨z,e4,e⟩:=Option.bind_eq_some_iff.1 e
  have h5:tagW w=5:=Classical.byContradiction fun h=>h2 (.inr h)
  show Fub G (m+n+1+1) w
  refine ⟨⟨fun h=>by omega,fun h=>by omega,fun _=>by rw [e1,e3];exact ⟨rfl,rfl⟩⟩,fun h=>by omega,fun u hu=>?_⟩
  unfold chW at hu
  rw [if_pos h5,e1,e3] at hu
  simp only [Option.getD_some,List.mem_cons,List.not_mem_nil,or_false] at hu
  rcases hu with rfl|rfl
  ·exact Fub.up (h _ _ _ e2) _ (by omega)
  ·exact rdL_fub hm h n _ _ _ e4
theorem rdT_fub {G:Gn} {ats:List ByteArray} {chk:Tm→Bool}:∀ (f:Nat) (w c:Int) (y:Tm×Int),rdT chk G ats f w c=some y→Fub G (22*f+1) w
 | 0,w,c,y,e=>by rw [rdT] at e;cases e
 | f+1,w,c,y,e=>by
  have ih:=rdT_fub (G:=G) (ats:=ats) (chk:=chk) f
  rw [rdT] at e
  by_cases h1:w<0∨100≤c
  ·rw [if_pos h1] at e;cases e
  rw [if_neg h1] at e
  obtain ⟨x,e1,e⟩:=Option.bind_eq_some_iff.1 e
  by_cases h5:tagW w=5
  ·rw [if_neg (by omega),if_neg (by omega),if_neg (by omega),if_neg (by omega),if_neg (by omega),if_neg (by omega)] at e1
   obtain ⟨z,q2,e1⟩:=Option.bind_eq_some_iff.1 e1
   exact Fub.up (rdL_fub (by omega) ih _ _ _ _ q2) _ (by omega)
  by_cases h4:tagW w=4
  ·rw [if_neg (by omega),if_neg (by omega),if_neg (by omega),if_pos h4] at e1
   obtain ⟨v,q1,e1⟩:=Option.bind_eq_some_iff.1 e1
   by_cases hv:inB v 0 8=true
   ·rw [if_pos hv] at e1
    obtain ⟨z,q2,e1⟩:=Option.bind_eq_some_iff.1 e1
    show Fub G (22*(f+1)+1) w
    rw [show 22*(f+1)+1=22*f+22+1 from by omega]
    have hv2:0≤v∧v≤8:=by unfold inB at hv;simpa using hv
    have ra:=rdS_all (Q:=Fub G (22*f+1)) ih _ _ _ _ q2
    refine ⟨⟨fun h=>by omega,fun _=>⟨v,q1,hv2.1,hv2.2,fun i hi=>(ra i (by omega)).1⟩,fun h=>by omega⟩,fun h=>by omega,fun u hu=>?_⟩
    unfold chW at hu
    rw [if_neg h5,if_pos h4,q1] at hu
    obtain ⟨i,hi,rfl⟩:=List.mem_map.1 hu
    have:=(ra i (by simpa using hi)).2
    exact Fub.up this _ (by omega)
   ·rw [if_neg hv] at e1;cases e1
  ·have key:tagW w=6→∃ v,gwd G (valW w)=some v∧(0≤v∧v≤40)∧∀ i:Nat,(i:Int)<v→(gwd G (valW w+1+(i:Int))).isSome=true:=fun h6=>by
    rw [if_neg (by omega),if_neg (by omega),if_neg (by omega),if_neg h4,if_pos h6] at e1
    obtain ⟨v,q1,e1⟩:=Option.bind_eq_some_iff.1 e1
    by_cases hv:inB v 0 40=true
    ·rw [if_pos hv] at e1
     obtain ⟨z,q2,e1⟩:=Option.bind_eq_some_iff.1 e1
     exact ⟨v,q1,by unfold inB at hv;simpa using hv,fun i hi=>rdB_all _ _ _ q2 i (by omega)⟩
    ·rw [if_neg hv] at e1;cases e1
   refine Fub.up (Fub.leaf h4 h5 (fun h6=>?_) fun h6=>?_) _ (by omega)
   ·obtain ⟨v,a,b,_⟩:=key h6;exact ⟨v,a,b⟩
   ·obtain ⟨v,a,_,b⟩:=key h6
    rw [a]
    exact b
theorem gRd_fub {G:Gn} {ats:List ByteArray} {w:Int} (h:(gRd G ats w).2=true):Fub G 133 w:=by
 obtain ⟨y,e,_⟩:=gRd_ok h
 exact rdT_fub 6 w 0 y e
theorem gOk_fub {G:Gn} {ats:List ByteArray} {roots:List Int} (h:gOk G ats roots=true):∀ w∈roots,Fub G 133 w:=fun w hw=>by
 unfold gOk at h
 simp only [Bool.and_eq_true,Bool.not_eq_true',List.all_eq_true] at h
 have:=h.2 w hw
 unfold rootOk at this
 simp only [Bool.and_eq_true] at this
 exact gRd_fub this.1
theorem szW_wid {G:Gn} {w:Int} (hn:Nd G w) (hl:leadW w=true):szW G w=wid G w:=by
 unfold szW wid
 by_cases t5:tagW w=5
 ·rw [if_pos t5,if_pos t5]
 ·rw [if_neg t5,if_neg t5]
  have h3:tagW w=4∨tagW w=6:=by
   unfold leadW inB at hl
   simp at hl
   omega
  rw [if_pos h3]
  unfold sz1
  rcases h3 with h|h
  ·obtain ⟨v,e,a,b,_⟩:=hn.2.1 h
   rw [e];simp only [Option.getD_some];rw [if_pos (by unfold inB;simp;omega)]
  ·obtain ⟨v,e,a,b⟩:=hn.1 h
   rw [e];simp only [Option.getD_some];rw [if_pos (by unfold inB;simp;omega)]
theorem wid_some {G:Gn} {w:Int} (hn:Nd G w) (hb:By6 G w) (hl:leadW w=true) {i:Nat} (hi:(i:Int)<wid G w):(gwd G (valW w+(i:Int))).isSome=true:=by
 cases i with
 | zero=>rw [show valW w+((0:Nat):Int)=valW w from by omega];exact hn.some hl
 | succ i=>
  unfold wid at hi
  by_cases t5:tagW w=5
  ·rw [if_pos t5] at hi
   have:i=0:=by omega
   subst this
   exact (hn.2.2 t5).2
  ·rw [if_neg t5] at hi
   have h3:tagW w=4∨tagW w=6:=by
    unfold leadW inB at hl
    simp at hl
    omega
   rw [show valW w+((i+1:Nat):Int)=valW w+1+(i:Int) from by omega]
   rcases h3 with h|h
   ·obtain ⟨v,e,a,b,hc⟩:=hn.2.1 h
    rw [e] at hi
    simp only [Option.getD_some] at hi
    exact hc i (by omega)
   ·exact hb h i (by omega)
theorem gwB_wid {G:Gn} (ho:G.old.length≤1000) {w:Int} (hn:Nd G w) (hb:By6 G w) (hl:leadW w=true):gwB G (valW w) (wid G w)=true:=by
 obtain ⟨w1,w2⟩:=wid_le hn hl
 cases h:gwB G (valW w) (wid G w) with
 | true=>rfl
 | false=>
  obtain ⟨i,hi,e⟩:=gws_no ho w1 h
  have:=wid_some hn hb hl hi
  rw [e] at this
  cases this
theorem gws_raw {G:Gn} (ho:G.old.length≤1000) {w:Int} (hn:Nd G w) (hb:By6 G w) (hl:leadW w=true):gws G (valW w) (wid G w)=rawW G w:=by
 have hB:=gwB_wid ho hn hb hl
 have hlen:=gws_len hB
 apply List.ext_getElem
 ·rw [rawW_len];omega
 ·intro i h1 h2
  have:=gws_at ho hB h1
  simp [rawW,this]
def WRs (lo ly:List Int) (G:Gn) (σ:Sw):Prop:=lo.length=G.old.length∧ly.length=G.young.length∧(∀ (i:Nat) (v:Int),lo[i]? = some v→σ.wn (i:Int)=if 0≤v then some v else none)∧(∀ (i:Nat) (v:Int),ly[i]? = some v→σ.wn (100000+(i:Int))=if 0≤v then some v else none)
theorem WRs.set {lo ly:List Int} {G:Gn} {σ:Sw} (x:WRs lo ly G σ) (o:Bool) (i:Nat) (v:Int):WRs lo ly G (σ.set o i v):=by
 cases o<;>exact x
theorem WRs.putO {lo ly:List Int} {G:Gn} {σ:Sw} (x:WRs lo ly G σ) {i:Nat} (hi:i<100000) {v:Int} (hv:0≤v):WRs (lo.set i v) ly G (σ.put (i:Int) v):=by
 obtain ⟨x1,x2,x3,x4⟩:=x
 refine ⟨by simp [x1],x2,fun j u hj=>?_,fun j u hj=>?_⟩
 ·show (if (j:Int)=(i:Int) then some v else σ.wn (j:Int))=_
  by_cases e:i=j
  ·subst e
   have hlt:i<lo.length:=by have:=(List.getElem?_eq_some_iff.1 hj).1;simpa using this
   rw [List.getElem?_set_self hlt] at hj
   injection hj with hj
   subst hj
   rw [if_pos rfl,if_pos hv]
  ·rw [List.getElem?_set_ne e] at hj
   rw [if_neg (by omega)]
   exact x3 j u hj
 ·show (if (100000+(j:Int))=(i:Int) then some v else σ.wn (100000+(j:Int)))=_
  rw [if_neg (by omega)]
  exact x4 j u hj
theorem WRs.putY {lo ly:List Int} {G:Gn} {σ:Sw} (x:WRs lo ly G σ) (hlo:lo.length≤100000) {i:Nat} {v:Int} (hv:0≤v):WRs lo (ly.set i v) G (σ.put (100000+(i:Int)) v):=by
 obtain ⟨x1,x2,x3,x4⟩:=x
 refine ⟨x1,by simp [x2],fun j u hj=>?_,fun j u hj=>?_⟩
 ·show (if (j:Int)=100000+(i:Int) then some v else σ.wn (j:Int))=_
  have hlt:=(List.getElem?_eq_some_iff.1 hj).1
  rw [if_neg (by omega)]
  exact x3 j u hj
 ·show (if (100000+(j:Int))=100000+(i:Int) then some v else σ.wn (100000+(j:Int)))=_
  by_cases e:i=j
  ·subst e
   have hlt:i<ly.length:=by have:=(List.getElem?_eq_some_iff.1 hj).1;simpa using this
   rw [List.getElem?_set_self hlt] at hj
   injection hj with hj
   subst hj
   rw [if_pos rfl,if_pos hv]
  ·rw [List.getElem?_set_ne e] at hj
   rw [if_neg (by omega)]
   exact x4 j u hj
theorem set_same {l:List Int} {i:Nat} {x:Int} (h:l[i]? = some x):l.set i x=l:=by
 apply List.ext_getElem?
 intro j
 by_cases e:i=j
 ·subst e
  have hlt:=(List.getElem?_eq_some_iff.1 h).1
  rw [List.getElem?_set_self hlt];exact h.symm
 ·rw [List.getElem?_set_ne e]
theorem Sw.set_same {σ:Sw} {o:Bool} {i:Nat} {x:Int} (h:(if o=true then σ.old else σ.young)[i]? = some x):σ.set o i x=σ:=by
 obtain ⟨a,b,c⟩:=σ
 cases o
 ·show (⟨a,b.set i x,c⟩:Sw)=_
  rw [Am.set_same (l:=b) h]
 ·show (⟨a.set i x,b,c⟩:Sw)=_
  rw [Am.set_same (l:=a) h]
theorem app_at {G:Gn} {w:Int} {σ:Sw} {o:Bool} {p v:Int} {i:Nat} (hi:(i:Int)<wid G w):(if o=true then ((σ.app o (rawW G w)).put p v).old else ((σ.app o (rawW G w)).put p v).young)[σ.len o+i]? = some ((gwd G (valW w+(i:Int))).getD 0):=by
 have hr:(rawW G w)[i]? = some ((gwd G (valW w+(i:Int))).getD 0):=by
  have hlt:i<(wid G w).toNat:=by omega
  simp [rawW,hlt]
 cases o
 ·show (σ.young++rawW G w)[σ.young.length+i]? = _
  rw [List.getElem?_append_right (by omega),Nat.add_sub_cancel_left];exact hr
 ·show (σ.old++rawW G w)[σ.old.length+i]? = _
  rw [List.getElem?_append_right (by omega),Nat.add_sub_cancel_left];exact hr
theorem cpLoop_bin {G:Gn} {w:Int} {o:Bool} {p v:Int} {go:Int→Sw→Int×Sw} (σ:Sw) (h6:tagW w=6):∀ (r i:Nat),(i:Int)+r≤wid G w→cpLoop G w o (σ.len o) go r i ((σ.app o (rawW G w)).put p v)=(σ.app o (rawW G w)).put p v
 | 0,i,_=>rfl
 | r+1,i,hi=>by
  have c:isPt w i=false:=by unfold isPt;simp [h6]
  rw [cpLoop,if_neg (by rw [c];decide),Sw.set_same (app_at (by omega))]
  exact cpLoop_bin σ h6 r (i+1) (by omega)
theorem cpLoop_tup {G:Gn} {w:Int} {o:Bool} {p v:Int} {go:Int→Sw→Int×Sw} (σ:Sw) (h5:tagW w≠5) (r:Nat) (hr:((r+1:Nat):Int)≤wid G w):cpLoop G w o (σ.len o) go (r+1) 0 ((σ.app o (rawW G w)).put p v)=cpLoop G w o (σ.len o) go r 1 ((σ.app o (rawW G w)).put p v):=by
 have c:isPt w 0=false:=by unfold isPt;simp [h5]
 rw [cpLoop,if_neg (by rw [c];decide),Sw.set_same (app_at (by omega))]
def ptW (G:Gn) (w:Int):Nat→Nat→List Int
 | 0,_=>[]
 | r+1,i=>if isPt w i=true then (gwd G (valW w+(i:Int))).getD 0 :: ptW G w r (i+1) else ptW G w r (i+1)
def rgI (p:Int) (n:Nat):List Int:=(List.range n).map fun (i:Nat)=>p+(i:Int)
def pls (G:Gn):Nat→Int→List Int
 | 0,_=>[]
 | n+1,w=>if leadW w=true then rgI (valW w) (wid G w).toNat++(ptW G w (wid G w).toNat 0).flatMap (pls G n) else []
theorem ptW_mem {G:Gn} {w x:Int}:∀ {r i:Nat},x∈ptW G w r i→∃ k,i≤k∧k<i+r∧isPt w k=true∧x=(gwd G (valW w+(k:Int))).getD 0
 | 0,i,h=>by cases h
 | r+1,i,h=>by
  rw [ptW] at h
  by_cases c:isPt w i=true
  ·rw [if_pos c] at h
   rcases List.mem_cons.1 h with rfl|h
   ·exact ⟨i,Nat.le_refl _,by omega,c,rfl⟩
   ·obtain ⟨k,a,b,q⟩:=ptW_mem h
    exact ⟨k,by omega,by omega,q⟩
  ·rw [if_neg c] at h
   obtain ⟨k,a,b,q⟩:=ptW_mem h
   exact ⟨k,by omega,by omega,q⟩
theorem lead3 {w:Int} (h:leadW w=true):tagW w=4∨tagW w=5∨tagW w=6:=by
 unfold leadW inB at h
 simp only [Bool.and_eq_true,decide_eq_true_eq] at h
 omega
theorem lead_of {w:Int} (h:tagW w=4∨tagW w=5∨tagW w=6):leadW w=true:=by
 unfold leadW inB
 rcases h with h|h|h<;>rw [h]<;>decide
theorem ptW_ch {G:Gn} {w x:Int} (h:x∈ptW G w (wid G w).toNat 0):x∈chW G w:=by
 obtain ⟨k,_,b,c,rfl⟩:=ptW_mem h
 exact chW_at (by omega) c
theorem rgI_mem {p x:Int} {n:Nat}:x∈rgI p n↔p≤x∧x<p+n:=by
 unfold rgI
 rw [List.mem_map]
 constructor
 ·rintro ⟨i,hi,rfl⟩
  have:=List.mem_range.1 hi
  omega
 ·intro h
  exact ⟨(x-p).toNat,List.mem_range.2 (by omega),by omega⟩
theorem rgI_app (p:Int) (m n:Nat):rgI p m++rgI (p+m) n=rgI p (m+n):=by
 unfold rgI
 rw [List.range_add,List.map_append,List.map_map]
 congr 1
 apply List.map_congr_left
 intro i _
 simp only [Function.comp]
 omega
theorem rgI_nodup (p:Int) (n:Nat):(rgI p n).Nodup:=by
 unfold rgI
 rw [List.nodup_iff_pairwise_ne,List.pairwise_map]
 exact (List.nodup_iff_pairwise_ne.1 List.nodup_range).imp fun h e=>h (by omega)
theorem rgI_len (p:Int) (n:Nat):(rgI p n).length=n:=by simp [rgI]
def Isw (G H:Gn) (π:Int→Int):Nat→Int→Int→Prop
 | 0,_,_=>False
 | n+1,w,w'=>if leadW w=true then
   (tagW w'=tagW w∧prt H (valW w')=π (prt G (valW w))∧wid H w'=wid G w∧(1:Int)≤wid G w ∧
    ∀ i:Nat,(i:Int)<wid G w→∃ x x',gwd G (valW w+(i:Int))=some x∧gwd H (valW w'+(i:Int))=some x'∧(isPt w i=false→x'=x)∧(isPt w i=true→Isw G H π n x x'))
  else w'=w
theorem Isw.off {G H:Gn} {π:Int→Int}:∀ {n:Nat} {w w':Int},Isw G H π n w w'→¬leadW w=true→w'=w
 | 0,w,w',h,_=>h.elim
 | n+1,w,w',h,c=>by rw [Isw,if_neg c] at h;exact h
theorem Isw.lead {G H:Gn} {π:Int→Int}:∀ {n:Nat} {w w':Int},Isw G H π n w w'→leadW w'=leadW w
 | 0,w,w',h=>h.elim
 | n+1,w,w',h=>by
  by_cases c:leadW w=true
  ·rw [Isw,if_pos c] at h
   unfold leadW
   rw [h.1]
  ·rw [h.off c]
theorem tag_nn {w:Int} (h:leadW w=true):0≤w:=by
 rcases Int.lt_or_le w 0 with c|c
 ·have:=lead3 h
  unfold tagW at this
  rw [if_pos c] at this
  omega
 ·exact c
theorem rdS_isw {G H:Gn} {g g':Int→Int→Option (Tm×Int)}:∀ (n:Nat) (p p' c:Int),(∀ i:Nat,i<n→∃ x x',gwd G (p+(i:Int))=some x∧gwd H (p'+(i:Int))=some x'∧∀ c,g x c=g' x' c)→rdS G g n p c=rdS H g' n p' c
 | 0,p,p',c,h=>rfl
 | n+1,p,p',c,h=>by
  obtain ⟨x,x',e1,e2,e3⟩:=h 0 (by omega)
  rw [show p+((0:Nat):Int)=p from by omega] at e1
  rw [show p'+((0:Nat):Int)=p' from by omega] at e2
  rw [rdS,rdS,e1,e2,Option.bind_some,Option.bind_some,e3]
  congr 1
  funext t
  rw [rdS_isw n (p+1) (p'+1) t.2 fun i hi=>?_]
  have:=h (i+1) (by omega)
  rw [show p+((i+1:Nat):Int)=p+1+(i:Int) from by omega,show p'+((i+1:Nat):Int)=p'+1+(i:Int) from by omega] at this
  exact this
theorem rdB_isw {G H:Gn}:∀ (n:Nat) (p p':Int),(∀ i:Nat,i<n→gwd G (p+(i:Int))=gwd H (p'+(i:Int)))→rdB G n p=rdB H n p'
 | 0,p,p',h=>rfl
 | n+1,p,p',h=>by
  have e:=h 0 (by omega)
  rw [show p+((0:Nat):Int)=p from by omega,show p'+((0:Nat):Int)=p' from by omega] at e
  rw [rdB,rdB,e,rdB_isw n (p+1) (p'+1) fun i hi=>?_]
  have:=h (i+1) (by omega)
  rw [show p+((i+1:Nat):Int)=p+1+(i:Int) from by omega,show p'+((i+1:Nat):Int)=p'+1+(i:Int) from by omega] at this
  exact this
theorem rdL_off {G:Gn} {g:Int→Int→Option (Tm×Int)} {w:Int} (h:tagW w≠5) (n:Nat) (c:Int):rdL G g n w c=if w=3 then some ([],c) else none:=by
 cases n with
 | zero=>rw [rdL_0]
 | succ n=>
  rw [rdL_s]
  split
  ·rfl
  ·rw [if_pos (.inr h)]
theorem isw5 {G H:Gn} {π:Int→Int} {n:Nat} {w w':Int} (h:Isw G H π (n+1) w w') (h5:tagW w=5):tagW w'=5∧∃ x x' y y',gwd G (valW w)=some x∧gwd H (valW w')=some x'∧Isw G H π n x x'∧gwd G (valW w+1)=some y∧gwd H (valW w'+1)=some y'∧Isw G H π n y y':=by
 rw [Isw,if_pos (lead_of (.inr (.inl h5)))] at h
 obtain ⟨e,_,_,_,q⟩:=h
 have hw:wid G w=2:=by unfold wid;rw [if_pos h5]
 have ip:∀ i,isPt w i=true:=fun i=>by unfold isPt;rw [h5];rfl
 obtain ⟨x,x',a1,a2,_,a3⟩:=q 0 (by omega)
 obtain ⟨y,y',b1,b2,_,b3⟩:=q 1 (by omega)
 rw [show valW w+((0:Nat):Int)=valW w from by omega] at a1
 rw [show valW w'+((0:Nat):Int)=valW w' from by omega] at a2
 exact ⟨by rw [e,h5],x,x',y,y',a1,a2,a3 (ip 0),b1,b2,b3 (ip 1)⟩
theorem rdL_isw {G H:Gn} {π:Int→Int} {g g':Int→Int→Option (Tm×Int)} (hg:∀ n x x' c,Isw G H π n x x'→g x c=g' x' c):∀ (m n:Nat) (w w' c:Int),Isw G H π n w w'→rdL G g m w c=rdL H g' m w' c
 | m,0,w,w',c,h=>h.elim
 | 0,n+1,w,w',c,h=>by
  by_cases h5:tagW w=5
  ·have h5':=(isw5 h h5).1
   have e:∀ u,tagW u=5→¬u=3:=fun u h e=>by subst e;exact absurd h (by decide)
   rw [rdL_0,rdL_0,if_neg (e _ h5),if_neg (e _ h5')]
  ·by_cases c:leadW w=true
   ·rw [Isw,if_pos c] at h
    rw [rdL_off h5,rdL_off (by rw [h.1];exact h5)]
    have e:∀ u,leadW u=true→¬u=3:=fun u h e=>by subst e;exact absurd h (by decide)
    have c':leadW w'=true:=by unfold leadW;rw [h.1];exact c
    rw [if_neg (e _ c),if_neg (e _ c')]
   ·rw [h.off c,rdL_off h5,rdL_off h5]
 | m+1,n+1,w,w',c,h=>by
  by_cases h5:tagW w=5
  ·obtain ⟨h5',x,x',y,y',a1,a2,a3,b1,b2,b3⟩:=isw5 h h5
   have e:∀ u,tagW u=5→¬u=3:=fun u h e=>by subst e;exact absurd h (by decide)
   have e2:∀ u,tagW u=5→¬(u<0∨tagW u≠5):=fun u h q=>q.elim (fun q=>by have:=tag_nn (lead_of (.inr (.inl h)));omega) fun q=>q h
   rw [rdL_s,rdL_s,if_neg (e _ h5),if_neg (e _ h5'),if_neg (e2 _ h5),if_neg (e2 _ h5'),a1,a2,Option.bind_some,Option.bind_some,hg n x x' c a3,b1,b2]
   congr 1
   funext t
   rw [Option.bind_some,Option.bind_some,rdL_isw hg m n y y' t.2 b3]
  ·by_cases c:leadW w=true
   ·rw [Isw,if_pos c] at h
    rw [rdL_off h5,rdL_off (by rw [h.1];exact h5)]
    have e:∀ u,leadW u=true→¬u=3:=fun u h e=>by subst e;exact absurd h (by decide)
    have c':leadW w'=true:=by unfold leadW;rw [h.1];exact c
    rw [if_neg (e _ c),if_neg (e _ c')]
   ·rw [h.off c,rdL_off h5,rdL_off h5]
theorem rdT_isw {G H:Gn} {π:Int→Int} {chk:Tm→Bool} {ats:List ByteArray}:∀ (f n:Nat) (w w' c:Int),Isw G H π n w w'→rdT chk G ats f w c=rdT chk H ats f w' c
 | 0,n,w,w',c,h=>by rw [rdT,rdT]
 | f+1,0,w,w',c,h=>h.elim
 | f+1,n+1,w,w',c,h=>by
  have ih:=fun n x x' c h=>rdT_isw (G:=G) (H:=H) (π:=π) (chk:=chk) (ats:=ats) f n x x' c h
  rw [rdT,rdT]
  by_cases l:leadW w=true
  ·have h0:=h
   rw [Isw,if_pos l] at h
   obtain ⟨et,_,ew,w1,q⟩:=h
   have l':leadW w'=true:=by unfold leadW;rw [et];exact l
   have nn:=tag_nn l
   have nn':=tag_nn l'
   have ec:(w<0∨100≤c)=(w'<0∨100≤c):=by apply propext;constructor<;>intro h<;>omega
   simp only [ec,et]
   by_cases h1:w'<0∨100≤c
   ·rw [if_pos h1,if_pos h1]
   rw [if_neg h1,if_neg h1]
   congr 1
   rcases lead3 l with h4|h4|h4
   ·obtain ⟨x,x',a1,a2,a3,_⟩:=q 0 (by omega)
    rw [show valW w+((0:Nat):Int)=valW w from by omega] at a1
    rw [show valW w'+((0:Nat):Int)=valW w' from by omega] at a2
    have ex:=a3 (by unfold isPt;rw [h4];rfl)
    subst ex
    have ewid:wid G w=x'+1:=by unfold wid;rw [if_neg (by omega),a1];rfl
    simp only [h4,show ¬((4:Int)=0) from by decide,show ¬((4:Int)=1) from by decide,show ¬((4:Int)=2) from by decide,if_false,if_true,a1,a2,Option.bind_some]
    split
    ·rename_i cv
     have hv:0≤x'∧x'≤8:=by unfold inB at cv;simpa using cv
     rw [rdS_isw x'.toNat (valW w+1) (valW w'+1) (c+1) fun i hi=>?_]
     obtain ⟨y,y',b1,b2,_,b3⟩:=q (i+1) (by omega)
     rw [show valW w+((i+1:Nat):Int)=valW w+1+(i:Int) from by omega] at b1
     rw [show valW w'+((i+1:Nat):Int)=valW w'+1+(i:Int) from by omega] at b2
     exact ⟨y,y',b1,b2,fun c=>ih n y y' c (b3 (by unfold isPt;rw [h4];simp))⟩
    ·rfl
   ·simp only [h4,show ¬((5:Int)=0) from by decide,show ¬((5:Int)=1) from by decide,show ¬((5:Int)=2) from by decide,show ¬((5:Int)=4) from by decide,show ¬((5:Int)=6) from by decide,show ¬((5:Int)=7) from by decide,if_false]
    rw [rdL_isw ih 20 (n+1) w w' (c+1) h0]
   ·obtain ⟨x,x',a1,a2,a3,_⟩:=q 0 (by omega)
    rw [show valW w+((0:Nat):Int)=valW w from by omega] at a1
    rw [show valW w'+((0:Nat):Int)=valW w' from by omega] at a2
    have ip:∀ i,isPt w i=false:=fun i=>by unfold isPt;rw [h4];rfl
    have ex:=a3 (ip 0)
    subst ex
    have ewid:wid G w=x'+1:=by unfold wid;rw [if_neg (by omega),a1];rfl
    simp only [h4,show ¬((6:Int)=0) from by decide,show ¬((6:Int)=1) from by decide,show ¬((6:Int)=2) from by decide,show ¬((6:Int)=4) from by decide,if_false,if_true,a1,a2,Option.bind_some]
    split
    ·rename_i cv
     have hv:0≤x'∧x'≤40:=by unfold inB at cv;simpa using cv
     rw [rdB_isw x'.toNat (valW w+1) (valW w'+1) fun i hi=>?_]
     obtain ⟨y,y',b1,b2,b3,_⟩:=q (i+1) (by omega)
     rw [show valW w+((i+1:Nat):Int)=valW w+1+(i:Int) from by omega] at b1
     rw [show valW w'+((i+1:Nat):Int)=valW w'+1+(i:Int) from by omega] at b2
     rw [b1,b2,b3 (ip _)]
    ·rfl
  ·have e:=h.off l
   subst e
   have n4:¬tagW w'=4:=fun e=>l (lead_of (.inl e))
   have n5:¬tagW w'=5:=fun e=>l (lead_of (.inr (.inl e)))
   have n6:¬tagW w'=6:=fun e=>l (lead_of (.inr (.inr e)))
   rw [if_neg n4,if_neg n4,if_neg n6,if_neg n6,rdL_off n5,rdL_off n5]
theorem chW_pt {G:Gn} {w x:Int} (h:x∈chW G w):∃ k:Nat,(k:Int)<wid G w∧isPt w k=true∧x=(gwd G (valW w+(k:Int))).getD 0:=by
 unfold chW at h
 by_cases h5:tagW w=5
 ·rw [if_pos h5] at h
  have hw:wid G w=2:=by unfold wid;rw [if_pos h5]
  simp only [List.mem_cons,List.not_mem_nil,or_false] at h
  rcases h with rfl|rfl
  ·exact ⟨0,by omega,by unfold isPt;rw [h5];rfl,by rw [show valW w+((0:Nat):Int)=valW w from by omega]⟩
  ·exact ⟨1,by omega,by unfold isPt;rw [h5];rfl,rfl⟩
 ·rw [if_neg h5] at h
  by_cases h4:tagW w=4
  ·rw [if_pos h4] at h
   obtain ⟨i,hi,rfl⟩:=List.mem_map.1 h
   have hi:=List.mem_range.1 hi
   refine ⟨i+1,?_,by unfold isPt;rw [h4];simp,by rw [show valW w+((i+1:Nat):Int)=valW w+1+(i:Int) from by omega]⟩
   unfold wid
   rw [if_neg h5]
   omega
  ·rw [if_neg h4] at h;cases h
theorem isPt_tag {w w':Int} (e:tagW w'=tagW w) (k:Nat):isPt w' k=isPt w k:=by unfold isPt;rw [e]
theorem Isw.prt {G H:Gn} {π:Int→Int}:∀ {n:Nat} {w w':Int},Isw G H π n w w'→leadW w=true→Am.prt H (valW w')=π (Am.prt G (valW w))
 | 0,w,w',h,_=>h.elim
 | n+1,w,w',h,c=>by rw [Isw,if_pos c] at h;exact h.2.1
theorem dnW_isw {G H:Gn} {π:Int→Int} (hπ:∀ a b,a≤b→π a≤π b):∀ (n:Nat) (w w':Int),Isw G H π n w w'→dnW G n w=true→dnW H n w'=true
 | 0,w,w',h,_=>h.elim
 | n+1,w,w',h,hd=>by
  by_cases l:leadW w=true
  ·have l':leadW w'=true:=by rw [h.lead];exact l
   have h0:=h
   rw [Isw,if_pos l] at h
   obtain ⟨et,ep,ew,w1,q⟩:=h
   rw [dnW,l] at hd
   rw [dnW,l']
   simp only [Bool.not_true,Bool.false_or,List.all_eq_true] at hd ⊢
   intro x' hx'
   obtain ⟨k,hk,ip,rfl⟩:=chW_pt hx'
   rw [isPt_tag et] at ip
   obtain ⟨x,y,a1,a2,_,a3⟩:=q k (by omega)
   have a3:=a3 ip
   have hx:=chW_at (G:=G) (w:=w) (i:=k) (by omega) ip
   rw [a1] at hx
   have hc:=hd _ hx
   rw [a2]
   simp only [Option.getD_some,Bool.and_eq_true,Bool.not_eq_true',Bool.and_eq_false_iff,decide_eq_false_iff_not] at hc ⊢
   refine ⟨?_,dnW_isw hπ n x y a3 hc.2⟩
   rcases hc.1 with c|c
   ·exact .inl (by rw [a3.lead];exact c)
   ·cases lx:leadW x with
    | false=>exact .inl (by rw [a3.lead];exact lx)
    | true=>
     refine .inr fun hgt=>c ?_
     rw [a3.prt lx,ep] at hgt
     rcases Int.lt_or_le (Am.prt G (valW w)) (Am.prt G (valW x)) with z|z
     ·exact z
     ·have:=hπ _ _ z;omega
  ·rw [h.off l,dnW]
   have:leadW w=false:=by simpa using l
   rw [this]
   rfl
def plsA (G:Gn) (all:Bool):Nat→Int→List Int
 | 0,_=>[]
 | n+1,w=>if stay G all w=true then [] else rgI (valW w) (wid G w).toNat++(ptW G w (wid G w).toNat 0).flatMap (plsA G all n)
def plsS (G:Gn) (all:Bool):Nat→Int→List Int
 | 0,_=>[]
 | n+1,w=>if stay G all w=true then pls G (n+1) w else (ptW G w (wid G w).toNat 0).flatMap (plsS G all n)
theorem fm_split {f g h:Int→List Int}:∀ (l:List Int),(∀ x∈l,(f x).Perm (g x++h x))→(l.flatMap f).Perm (l.flatMap g++l.flatMap h)
 | [],_=>.nil
 | x :: l,q=>by
  rw [List.flatMap_cons,List.flatMap_cons,List.flatMap_cons]
  have a:=q x (.head _)
  have b:=fm_split l fun y hy=>q y (.tail _ hy)
  rw [List.perm_iff_count] at a b ⊢
  intro z
  have a:=a z
  have b:=b z
  simp only [List.count_append] at a b ⊢
  omega
theorem fm_congr {f g:Int→List Int}:∀ (l:List Int),(∀ x∈l,f x=g x)→l.flatMap f=l.flatMap g
 | [],_=>rfl
 | x :: l,q=>by rw [List.flatMap_cons,List.flatMap_cons,q x (.head _),fm_congr l fun y hy=>q y (.tail _ hy)]
theorem stay_lead {G:Gn} {all:Bool} {w:Int} (h:¬stay G all w=true):leadW w=true:=by
 unfold stay at h
 cases e:leadW w with
 | true=>rfl
 | false=>rw [e] at h;exact absurd rfl h
theorem pls_split {G:Gn} {all:Bool}:∀ (n:Nat) (w:Int),(pls G n w).Perm (plsA G all n w++plsS G all n w)
 | 0,w=>.nil
 | n+1,w=>by
  rw [plsA,plsS]
  by_cases c:stay G all w=true
  ·rw [if_pos c,if_pos c];exact .refl _
  ·rw [if_neg c,if_neg c,pls,if_pos (stay_lead c),List.append_assoc]
   exact .append_left _ (fm_split _ fun x _=>pls_split n x)
theorem plsA_sub {G:Gn} {all:Bool} {n:Nat} {w p:Int} (h:p∈plsA G all n w):p∈pls G n w:=(pls_split n w).mem_iff.2 (List.mem_append_left _ h)
theorem fmA_sub {G:Gn} {all:Bool} {n:Nat} {l:List Int} {p:Int} (h:p∈l.flatMap (plsA G all n)):p∈l.flatMap (pls G n):=by
 obtain ⟨x,hx,hp⟩:=List.mem_flatMap.1 h
 exact List.mem_flatMap.2 ⟨x,hx,plsA_sub hp⟩
def Sw.l (σ:Sw) (o:Bool):List Int:=if o=true then σ.old else σ.young
def Gn.l (H:Gn) (o:Bool):List Int:=if o=true then H.old else H.young
theorem Sw.len_l (σ:Sw) (o:Bool):(σ.l o).length=σ.len o:=by cases o<;>rfl
theorem Sw.l_set (σ:Sw) (o p:Bool) (i:Nat) (x:Int):(σ.set o i x).l p=if p=o then (σ.l p).set i x else σ.l p:=by cases o<;>cases p<;>rfl
theorem Sw.l_app (σ:Sw) (o p:Bool) (l:List Int):(σ.app o l).l p=if p=o then σ.l p++l else σ.l p:=by cases o<;>cases p<;>rfl
theorem plc_add (o:Bool) (j i:Nat):plc o j+(i:Int)=plc o (j+i):=by
 unfold plc
 split<;>omega
theorem gwd_plc {H:Gn} {o:Bool} {j:Nat} (hj:o=true→j<100000):gwd H (plc o j)=(H.l o)[j]?:=by
 cases o with
 | false=>
  show gwd H (100000+(j:Int))=H.young[j]?
  unfold gwd ati
  rw [if_pos (by omega),if_pos (by omega)]
  congr 1
  omega
 | true=>
  have:=hj rfl
  show gwd H (j:Int)=H.old[j]?
  unfold gwd ati
  rw [if_neg (by omega),if_pos (by omega)]
  congr 1
theorem ptW_congr {G H:Gn} {w:Int}:∀ (r i:Nat),(∀ k:Nat,i≤k→k<i+r→gwd H (valW w+(k:Int))=gwd G (valW w+(k:Int)))→ptW H w r i=ptW G w r i
 | 0,i,_=>rfl
 | r+1,i,h=>by
  rw [ptW,ptW,h i (Nat.le_refl _) (by omega),ptW_congr r (i+1) fun k h1 h2=>h k (by omega) (by omega)]
def piS (all:Bool) (p:Int):Int:=if all=true then 0 else if p≤1 then 0 else 1
theorem piS_mono (all:Bool):∀ a b,a≤b→piS all a≤piS all b:=by
 intro a b h
 unfold piS
 split
 ·omega
 ·split<;>split<;>omega
theorem prtZ {G:Gn} {p:Int} (h:prt G p=0):p<100000:=by
 unfold prt at h
 split at h
 ·assumption
 ·split at h<;>omega
theorem isw_old {G H:Gn} (ho:G.old.length≤1000) (hH:∀ j,j<G.old.length→H.old[j]? = G.old[j]?):∀ (n:Nat) (w:Int),Fub G n w→dnW G n w=true→(leadW w=true→prt G (valW w)=0)→Isw G H (piS false) n w w∧pls H n w=pls G n w
 | 0,w,h,_,_=>h.elim
 | n+1,w,h,hd,hp=>by
  rw [Isw,pls,pls]
  by_cases l:leadW w=true
  ·rw [if_pos l,if_pos l,if_pos l]
   obtain ⟨nd,b6,hc⟩:=h
   obtain ⟨w1,w2⟩:=wid_le nd l
   have hp:=prtZ (hp l)
   have old:∀ k:Nat,(k:Int)<wid G w→gwd H (valW w+(k:Int))=gwd G (valW w+(k:Int)):=fun k hk=>by
    have s0:=wid_some nd b6 l (i:=0) (by omega)
    have s:=wid_some nd b6 l hk
    obtain ⟨v0,e0⟩:=Option.isSome_iff_exists.1 s0
    obtain ⟨v,e⟩:=Option.isSome_iff_exists.1 s
    have c0:¬100000≤valW w+((0:Nat):Int):=by omega
    unfold gwd at e0
    rw [if_neg c0] at e0
    have a0:=(ati_ok e0).2
    have c1:¬100000≤valW w+(k:Int):=by omega
    have e':=e
    unfold gwd at e'
    rw [if_neg c1] at e'
    have a1:=(ati_ok e').2
    unfold gwd ati
    rw [if_neg c1,if_neg c1,if_pos a1.1,if_pos a1.1]
    exact hH _ (by omega)
   have ew:wid H w=wid G w:=by
    unfold wid
    split
    ·rfl
    ·have:=old 0 (by omega)
     rw [show valW w+((0:Nat):Int)=valW w from by omega] at this
     rw [this]
   rw [dnW,l] at hd
   simp only [Bool.not_true,Bool.false_or,List.all_eq_true] at hd
   have kid:∀ x∈chW G w,Isw G H (piS false) n x x∧pls H n x=pls G n x:=fun x hx=>by
    have q:=hd x hx
    simp only [Bool.and_eq_true,Bool.not_eq_true',Bool.and_eq_false_iff,decide_eq_false_iff_not] at q
    refine isw_old ho hH n x (hc x hx) q.2 fun lx=>?_
    rcases q.1 with q|q
    ·rw [lx] at q;cases q
    ·have:=(prt_le G (valW x)).1
     have e0:prt G (valW w)=0:=by unfold prt;rw [if_pos hp]
     omega
   refine ⟨⟨rfl,?_,ew,w1,fun i hi=>?_⟩,?_⟩
   ·have e0:∀ X:Gn,prt X (valW w)=0:=fun X=>by unfold prt;rw [if_pos hp]
    rw [e0,e0]
    rfl
   ·have s:=wid_some nd b6 l hi
    obtain ⟨v,e⟩:=Option.isSome_iff_exists.1 s
    refine ⟨v,v,e,by rw [old i hi];exact e,fun _=>rfl,fun ip=>?_⟩
    have:=chW_at (G:=G) (w:=w) hi ip
    rw [e] at this
    exact (kid v this).1
   ·rw [ew,ptW_congr (G:=G) (H:=H) _ _ fun k _ hk=>old k (by omega)]
    congr 1
    exact fm_congr _ fun x hx=>(kid x (ptW_ch hx)).2
  ·rw [if_neg l,if_neg l,if_neg l]
   exact ⟨rfl,rfl⟩
structure Fits (G:Gn) (all:Bool) (σ τ:Sw) (H:Gn):Prop where
 new:∀ o j,σ.len o≤j→j<τ.len o→(H.l o)[j]? = (τ.l o)[j]?
 old:all=false→∀ j,j<G.old.length→H.old[j]? = G.old[j]?
 mrk:all=false→(τ.len false:Int)≤H.mark
def rgs (σ τ:Sw):List Int:=rgI (σ.len true) (τ.len true-σ.len true)++rgI (100000+σ.len false) (τ.len false-σ.len false)
theorem rgs_self (σ:Sw):rgs σ σ = []:=by
 unfold rgs rgI
 rw [Nat.sub_self,Nat.sub_self]
 rfl
theorem rgI_cnt (z p:Int) (a b c:Nat) (h1:a≤b) (h2:b≤c):(rgI (p+a) (c-a)).count z=(rgI (p+a) (b-a)).count z+(rgI (p+b) (c-b)).count z:=by
 have:=rgI_app (p+a) (b-a) (c-b)
 rw [show p+(a:Int)+((b-a:Nat):Int)=p+(b:Int) from by omega,show b-a+(c-b)=c-a from by omega] at this
 rw [← this,List.count_append]
theorem rgs_cnt {σ m τ:Sw} (h1:∀ o,σ.len o≤m.len o) (h2:∀ o,m.len o≤τ.len o) (z:Int):(rgs σ τ).count z=(rgs σ m).count z+(rgs m τ).count z:=by
 unfold rgs
 simp only [List.count_append]
 have a:=rgI_cnt z 0 _ _ _ (h1 true) (h2 true)
 have b:=rgI_cnt z 100000 _ _ _ (h1 false) (h2 false)
 simp only [Int.zero_add] at a
 omega
structure CpP (G:Gn) (all:Bool) (n:Nat) (w:Int) (σ:Sw) (q:Int×Sw):Prop where
 mono:∀ o,σ.len o≤q.2.len o
 sum:q.2.len true+q.2.len false=σ.len true+σ.len false+(plsA G all n w).length
 keep:∀ o j,j<σ.len o→(q.2.l o)[j]? = (σ.l o)[j]?
 wn:∀ p,p ∉ plsA G all n w→q.2.wn p=σ.wn p
 yng:(all=true∨G.mark=G.young.length)→q.2.len false=σ.len false
 to:∀ H,Fits G all σ q.2 H→Isw G H (piS all) n w q.1∧(pls H n q.1).Perm (rgs σ q.2++plsS G all n w)
def CpF (G:Gn) (all:Bool) (n:Nat):Prop:=∀ (w:Int) (σ:Sw),Fub G n w→dnW G n w=true→(pls G n w).Nodup→(∀ p∈plsA G all n w,σ.wn p=none)→σ.len true+σ.len false+(plsA G all n w).length≤90000→CpP G all n w σ (cp false G all n w σ)
structure LpP (G:Gn) (all:Bool) (n:Nat) (w:Int) (o:Bool) (at_ r i:Nat) (σ τ:Sw):Prop where
 mono:∀ o,σ.len o≤τ.len o
 sum:τ.len true+τ.len false=σ.len true+σ.len false+((ptW G w r i).flatMap (plsA G all n)).length
 keep:∀ p j,j<σ.len p→¬(p=o∧at_+i≤j∧j<at_+i+r)→(τ.l p)[j]? = (σ.l p)[j]?
 wn:∀ p,p ∉ (ptW G w r i).flatMap (plsA G all n)→τ.wn p=σ.wn p
 yng:(all=true∨G.mark=G.young.length)→τ.len false=σ.len false
 to:∀ H w',tagW w'=tagW w→valW w'=plc o at_→Fits G all σ τ H→(∀ k,i≤k→k<i+r→(H.l o)[at_+k]? = (τ.l o)[at_+k]?) →
  (∀ k:Nat,i≤k→k<i+r→∃ x',(τ.l o)[at_+k]? = some x'∧(isPt w k=false→x'=(gwd G (valW w+(k:Int))).getD 0)∧(isPt w k=true→Isw G H (piS all) n ((gwd G (valW w+(k:Int))).getD 0) x')) ∧
  ((ptW H w' r i).flatMap (pls H n)).Perm (rgs σ τ++(ptW G w r i).flatMap (plsS G all n))
theorem ptW_fm {G:Gn} {w:Int} {r i:Nat} (f:Int→List Int):(ptW G w (r+1) i).flatMap f=(if isPt w i=true then f ((gwd G (valW w+(i:Int))).getD 0) else [])++(ptW G w r (i+1)).flatMap f:=by
 rw [ptW]
 split
 ·rw [List.flatMap_cons]
 ·rfl
theorem ptW_up {G:Gn} {w x:Int} {r i:Nat} (h:x∈ptW G w r (i+1)):x∈ptW G w (r+1) i:=by
 rw [ptW]
 split
 ·exact .tail _ h
 ·exact h
structure StP (G:Gn) (all:Bool) (n:Nat) (w:Int) (i:Nat) (σ:Sw) (q:Int×Sw):Prop where
 mono:∀ o,σ.len o≤q.2.len o
 sum:q.2.len true+q.2.len false=σ.len true+σ.len false+(if isPt w i=true then plsA G all n ((gwd G (valW w+(i:Int))).getD 0) else []).length
 keep:∀ o j,j<σ.len o→(q.2.l o)[j]? = (σ.l o)[j]?
 wn:∀ p,p ∉ (if isPt w i=true then plsA G all n ((gwd G (valW w+(i:Int))).getD 0) else [])→q.2.wn p=σ.wn p
 yng:(all=true∨G.mark=G.young.length)→q.2.len false=σ.len false
 to:∀ H,Fits G all σ q.2 H→(isPt w i=false→q.1=(gwd G (valW w+(i:Int))).getD 0)∧(isPt w i=true→Isw G H (piS all) n ((gwd G (valW w+(i:Int))).getD 0) q.1)∧(if isPt w i=true then pls H n q.1 else []).Perm (rgs σ q.2++(if isPt w i=true then plsS G all n ((gwd G (valW w+(i:Int))).getD 0) else []))
theorem stP {G:Gn} {all:Bool} {n:Nat} (ih:CpF G all n) {w:Int} {i r:Nat} {σ:Sw} (hF:∀ x∈ptW G w (r+1) i,Fub G n x∧dnW G n x=true) (hn:((ptW G w (r+1) i).flatMap (pls G n)).Nodup) (hw:∀ p∈(ptW G w (r+1) i).flatMap (plsA G all n),σ.wn p=none) (hb:σ.len true+σ.len false+((ptW G w (r+1) i).flatMap (plsA G all n)).length≤90000):StP G all n w i σ (stepX false G all n w i σ):=by
 rw [ptW_fm] at hn hw hb
 unfold stepX
 by_cases c:isPt w i=true
 ·rw [if_pos c] at hn hw hb ⊢
  have hx:=hF ((gwd G (valW w+(i:Int))).getD 0) (by rw [ptW,if_pos c];exact .head _)
  rw [List.length_append] at hb
  have P:=ih _ σ hx.1 hx.2 (List.nodup_append.1 hn).1 (fun p hp=>hw p (List.mem_append_left _ hp)) (by omega)
  refine ⟨P.mono,by rw [if_pos c];exact P.sum,P.keep,fun p hp=>P.wn p (by rw [if_pos c] at hp;exact hp),P.yng,fun H F=>?_⟩
  rw [if_pos c,if_pos c]
  exact ⟨fun h=>(by rw [c] at h;cases h),fun _=>(P.to H F).1,(P.to H F).2⟩
 ·rw [if_neg c]
  refine ⟨fun _=>Nat.le_refl _,by rw [if_neg c];rfl,fun _ _ _=>rfl,fun _ _=>rfl,fun _=>rfl,fun H F=>?_⟩
  rw [if_neg c,if_neg c,rgs_self]
  exact ⟨fun _=>rfl,fun h=>absurd h c,.nil⟩
theorem cpLoop_fo {G:Gn} {all:Bool} {n:Nat} (ih:CpF G all n) {w:Int} {o:Bool} {at_:Nat}:∀ (r i:Nat) (σ:Sw),(∀ x∈ptW G w r i,Fub G n x∧dnW G n x=true)→((ptW G w r i).flatMap (pls G n)).Nodup→(∀ p∈(ptW G w r i).flatMap (plsA G all n),σ.wn p=none)→σ.len true+σ.len false+((ptW G w r i).flatMap (plsA G all n)).length≤90000→at_+i+r≤σ.len o →
  LpP G all n w o at_ r i σ (cpLoop G w o at_ (cp false G all n) r i σ)
 | 0,i,σ,hF,hn,hw,hb,ha=>by
  rw [cpLoop]
  refine ⟨fun _=>Nat.le_refl _,rfl,fun _ _ _ _=>rfl,fun _ _=>rfl,fun _=>rfl,fun H w' _ _ _ _=>⟨fun k h1 h2=>by omega,?_⟩⟩
  rw [rgs_self]
  exact .nil
 | r+1,i,σ,hF,hn,hw,hb,ha=>by
  have S:=stP ih hF hn hw hb
  rw [cpLoop_step]
  generalize stepX false G all n w i σ=q at S ⊢
  rw [ptW_fm] at hn hw hb
  rw [List.length_append] at hb
  obtain ⟨_,hn2,hn3⟩:=List.nodup_append.1 hn
  have ls:∀ p,(q.2.set o (at_+i) q.1).len p=q.2.len p:=fun p=>Sw.len_set _ _ _ _ _
  have m1:=S.mono true
  have m2:=S.mono false
  have m3:=S.mono o
  have sw:(q.2.set o (at_+i) q.1).wn=q.2.wn:=by cases o<;>rfl
  have sA:∀ p,p∈(if isPt w i=true then plsA G all n ((gwd G (valW w+(i:Int))).getD 0) else [])→p∈(if isPt w i=true then pls G n ((gwd G (valW w+(i:Int))).getD 0) else []):=fun p hp=>by
   split
   ·rename_i c;rw [if_pos c] at hp;exact plsA_sub hp
   ·rename_i c;rw [if_neg c] at hp;exact hp
  have R:=cpLoop_fo ih (w:=w) (o:=o) (at_:=at_) r (i+1) (q.2.set o (at_+i) q.1) (fun x hx=>hF x (ptW_up hx)) hn2 (fun p hp=>by
   rw [sw,S.wn p fun hq=>hn3 p (sA p hq) p (fmA_sub hp) rfl]
   exact hw p (List.mem_append_right _ hp)) (by rw [ls,ls];have:=S.sum;omega) (by rw [ls];omega)
  generalize cpLoop G w o at_ (cp false G all n) r (i+1) (q.2.set o (at_+i) q.1)=τ at R ⊢
  have Rm:∀ p,q.2.len p≤τ.len p:=fun p=>by have:=R.mono p;rwa [ls] at this
  have sl:∀ p j,¬(p=o∧j=at_+i)→((q.2.set o (at_+i) q.1).l p)[j]? = (q.2.l p)[j]?:=fun p j h=>by
   rw [Sw.l_set]
   split
   ·rename_i e
    rw [List.getElem?_set_ne (fun e2=>h ⟨e,e2.symm⟩)]
   ·rfl
  refine ⟨fun p=>Nat.le_trans (S.mono p) (Rm p),?_,fun p j hj hno=>?_,fun p hp=>?_,fun hy=>?_,fun H w' et ev F slots=>?_⟩
  ·rw [ptW_fm,List.length_append]
   have a:=R.sum
   have b:=S.sum
   rw [ls,ls] at a
   omega
  ·rw [R.keep p j (by rw [ls];exact Nat.lt_of_lt_of_le hj (S.mono p)) (fun h=>hno ⟨h.1,by omega,by omega⟩),sl p j (fun h=>hno ⟨h.1,by omega,by omega⟩),S.keep p j hj]
  ·rw [ptW_fm] at hp
   rw [R.wn p fun h=>hp (List.mem_append_right _ h),sw,S.wn p fun h=>hp (List.mem_append_left _ h)]
  ·rw [R.yng hy,ls,S.yng hy]
  ·have slot:(τ.l o)[at_+i]? = some q.1:=by
    rw [R.keep o (at_+i) (by rw [ls];omega) (fun h=>by omega),Sw.l_set,if_pos rfl,List.getElem?_set_self (by rw [Sw.len_l];omega)]
   have F1:Fits G all σ q.2 H:=⟨fun p j h1 h2=>by
    rw [F.new p j h1 (Nat.lt_of_lt_of_le h2 (Rm p)),R.keep p j (by rw [ls];exact h2) (fun h=>by obtain ⟨rfl,h3,h4⟩:=h;omega),sl p j (fun h=>by obtain ⟨rfl,h3⟩:=h;omega)],F.old,fun h=>by have:=F.mrk h;have:=Rm false;omega⟩
   have F2:Fits G all (q.2.set o (at_+i) q.1) τ H:=⟨fun p j h1 h2=>F.new p j (by rw [ls] at h1;exact Nat.le_trans (S.mono p) h1) h2,F.old,F.mrk⟩
   obtain ⟨s1,s2,s3⟩:=S.to H F1
   obtain ⟨r1,r2⟩:=R.to H w' et ev F2 fun k h1 h2=>slots k (by omega) (by omega)
   refine ⟨fun k h1 h2=>?_,?_⟩
   ·rcases Nat.lt_or_eq_of_le h1 with h|h
    ·exact r1 k h (by omega)
    ·subst h
     exact ⟨q.1,slot,s1,s2⟩
   ·have hg:(gwd H (valW w'+(i:Int))).getD 0=q.1:=by
     rw [ev,plc_add,gwd_plc (fun h=>by subst h;omega),slots i (Nat.le_refl _) (by omega),slot]
     rfl
    rw [ptW_fm,ptW_fm,isPt_tag et,hg]
    rw [List.perm_iff_count] at s3 r2 ⊢
    intro z
    have a:=s3 z
    have b:=r2 z
    have c:=rgs_cnt (σ:=σ) (m:=q.2) (τ:=τ) S.mono Rm z
    have e:rgs (q.2.set o (at_+i) q.1) τ=rgs q.2 τ:=by unfold rgs;rw [ls,ls]
    rw [e] at b
    simp only [List.count_append] at a b ⊢
    omega
theorem cp_fo {G:Gn} {all:Bool} (ho:G.old.length≤1000) (hy:G.young.length≤1000):∀ n,CpF G all n
 | 0=>fun w σ h=>h.elim
 | n+1=>by
  intro w σ hF hd hn hw hb
  rw [cp]
  by_cases c:stay G all w=true
  ·rw [if_pos c]
   have eA:plsA G all (n+1) w = []:=by rw [plsA,if_pos c]
   have eS:plsS G all (n+1) w=pls G (n+1) w:=by rw [plsS,if_pos c]
   refine ⟨fun _=>Nat.le_refl _,by rw [eA];rfl,fun _ _ _=>rfl,fun _ _=>rfl,fun _=>rfl,fun H F=>?_⟩
   rw [rgs_self,eS]
   unfold stay at c
   by_cases l:leadW w=true
   ·cases all with
    | true=>rw [l] at c;simp at c
    | false=>
     have c:prt G (valW w)=0:=by rw [l] at c;simpa using c
     obtain ⟨a,b⟩:=isw_old (G:=G) (H:=H) ho (F.old rfl) (n+1) w hF hd fun _=>c
     simp only
     rw [b]
     exact ⟨a,.refl _⟩
   ·simp only
    rw [Isw,if_neg l,pls,pls,if_neg l,if_neg l]
    exact ⟨rfl,.refl _⟩
  rw [if_neg c]
  have l:=stay_lead c
  obtain ⟨nd,b6,hc⟩:=hF
  obtain ⟨w1,w2⟩:=wid_le nd l
  have eA:plsA G all (n+1) w=rgI (valW w) (wid G w).toNat++(ptW G w (wid G w).toNat 0).flatMap (plsA G all n):=by rw [plsA,if_neg c]
  have eS:plsS G all (n+1) w=(ptW G w (wid G w).toNat 0).flatMap (plsS G all n):=by rw [plsS,if_neg c]
  have eP:pls G (n+1) w=rgI (valW w) (wid G w).toNat++(ptW G w (wid G w).toNat 0).flatMap (pls G n):=by rw [pls,if_pos l]
  rw [eP] at hn
  rw [eA] at hw hb
  rw [List.length_append,rgI_len] at hb
  obtain ⟨_,hn2,hn3⟩:=List.nodup_append.1 hn
  have hv:valW w∈rgI (valW w) (wid G w).toNat:=rgI_mem.2 (by omega)
  rw [hw _ (List.mem_append_left _ hv)]
  simp only
  rw [if_neg (show ¬(false=true) by decide)]
  generalize ho':toO G all w=o
  have dW:=hd
  rw [dnW,l] at dW
  simp only [Bool.not_true,Bool.false_or,List.all_eq_true] at dW
  have lz:∀ p,((σ.app o (List.replicate (wid G w).toNat 0)).put (valW w) (plc o (σ.len o))).len p=σ.len p+if p=o then (wid G w).toNat else 0:=fun p=>by rw [Sw.len_put,Sw.len_app,List.length_replicate]
  have lk:∀ p j,j<σ.len p→(((σ.app o (List.replicate (wid G w).toNat 0)).put (valW w) (plc o (σ.len o))).l p)[j]? = (σ.l p)[j]?:=fun p j hj=>by
   show ((σ.app o (List.replicate (wid G w).toNat 0)).l p)[j]? = _
   rw [Sw.l_app]
   split
   ·rw [List.getElem?_append_left (by rw [Sw.len_l];exact hj)]
   ·rfl
  have wn0:∀ p,p≠valW w→((σ.app o (List.replicate (wid G w).toNat 0)).put (valW w) (plc o (σ.len o))).wn p=σ.wn p:=fun p hp=>by
   show (if p=valW w then _ else _)=_
   rw [if_neg hp]
   cases o<;>rfl
  have lsum:((σ.app o (List.replicate (wid G w).toNat 0)).put (valW w) (plc o (σ.len o))).len true+((σ.app o (List.replicate (wid G w).toNat 0)).put (valW w) (plc o (σ.len o))).len false=σ.len true+σ.len false+(wid G w).toNat:=by
   rw [lz,lz]
   cases o<;>simp<;>omega
  have L:=cpLoop_fo (all:=all) (cp_fo ho hy n) (w:=w) (o:=o) (at_:=σ.len o) (wid G w).toNat 0 ((σ.app o (List.replicate (wid G w).toNat 0)).put (valW w) (plc o (σ.len o)))
   (fun x hx=>by
    have hx:=ptW_ch hx
    have:=dW x hx
    simp only [Bool.and_eq_true] at this
    exact ⟨hc x hx,this.2⟩) hn2
   (fun p hp=>by
    rw [wn0 p fun e=>hn3 _ hv p (fmA_sub hp) e.symm]
    exact hw p (List.mem_append_right _ hp)) (by rw [lsum];omega) (by rw [lz,if_pos rfl];omega)
  generalize ((σ.app o (List.replicate (wid G w).toNat 0)).put (valW w) (plc o (σ.len o)))=σ0 at lz lk wn0 lsum L ⊢
  generalize cpLoop G w o (σ.len o) (cp false G all n) (wid G w).toNat 0 σ0=τ at L ⊢
  have m0:∀ p,σ.len p≤σ0.len p:=fun p=>by rw [lz];omega
  have lo:σ0.len o=σ.len o+(wid G w).toNat:=by rw [lz,if_pos rfl]
  refine ⟨fun p=>Nat.le_trans (m0 p) (L.mono p),?_,fun p j hj=>?_,fun p hp=>?_,fun hY=>?_,fun H F=>?_⟩
  ·rw [eA,List.length_append,rgI_len]
   have:=L.sum
   simp only
   omega
  ·simp only
   rw [L.keep p j (Nat.lt_of_lt_of_le hj (m0 p)) (fun h=>by obtain ⟨rfl,h,_⟩:=h;omega),lk p j hj]
  ·simp only
   rw [eA] at hp
   rw [L.wn p fun h=>hp (List.mem_append_right _ h),wn0 p fun e=>hp (List.mem_append_left _ (e ▸ hv))]
  ·have et:o=true:=by
    rw [← ho']
    unfold toO
    cases all with
    | true=>rfl
    | false=>
     have hY:G.mark=G.young.length:=hY.elim (fun h=>by cases h) id
     have hp:¬prt G (valW w)=0:=fun e=>c (by unfold stay;rw [l,e];rfl)
     have hs:=nd.some l
     obtain ⟨v,e⟩:=Option.isSome_iff_exists.1 hs
     unfold prt at hp ⊢
     by_cases c1:valW w<100000
     ·rw [if_pos c1] at hp;exact absurd rfl hp
     ·unfold gwd at e
      rw [if_pos (by omega)] at e
      have:=(ati_ok e).2
      rw [if_neg c1,if_pos (by omega)]
      rfl
   simp only
   rw [L.yng hY,lz,if_neg (by rw [et];decide)]
   omega
  ·have hF0:Fits G all σ0 τ H:=⟨fun p j h1 h2=>F.new p j (Nat.le_trans (m0 p) h1) h2,F.old,F.mrk⟩
   have hb1:o=true→σ.len o+(wid G w).toNat<100000:=fun e=>by subst e;omega
   have tg:=mk_tag (t:=tagW w) (v:=plc o (σ.len o)) (by rcases lead3 l with h|h|h<;>omega) (by unfold plc;cases o<;>simp<;>omega)
   have slots:∀ k,0≤k→k<0+(wid G w).toNat→(H.l o)[σ.len o+k]? = (τ.l o)[σ.len o+k]?:=fun k _ hk=>F.new o _ (by omega) (Nat.lt_of_lt_of_le (by omega) (L.mono o))
   obtain ⟨t1,t2⟩:=L.to H (mkW (tagW w) (plc o (σ.len o))) tg.1 tg.2.1 hF0 slots
   have gH:∀ k:Nat,k<(wid G w).toNat→gwd H (valW (mkW (tagW w) (plc o (σ.len o)))+(k:Int))=(τ.l o)[σ.len o+k]?:=fun k hk=>by
    rw [tg.2.1,plc_add,gwd_plc (fun e=>by have:=hb1 e;omega),slots k (by omega) (by omega)]
   have vals:∀ i:Nat,(i:Int)<wid G w→∃ x x',gwd G (valW w+(i:Int))=some x∧gwd H (valW (mkW (tagW w) (plc o (σ.len o)))+(i:Int))=some x'∧(isPt w i=false→x'=x)∧(isPt w i=true→Isw G H (piS all) n x x'):=fun i hi=>by
    obtain ⟨x,e⟩:=Option.isSome_iff_exists.1 (wid_some nd b6 l hi)
    obtain ⟨x',a1,a2,a3⟩:=t1 i (by omega) (by omega)
    rw [e] at a2 a3
    exact ⟨x,x',e,by rw [gH i (by omega)];exact a1,a2,a3⟩
   have ew:wid H (mkW (tagW w) (plc o (σ.len o)))=wid G w:=by
    unfold wid
    rw [tg.1]
    split
    ·rfl
    ·rename_i h5
     obtain ⟨x,x',a1,a2,a3,_⟩:=vals 0 (by omega)
     rw [show valW w+((0:Nat):Int)=valW w from by omega] at a1
     rw [show valW (mkW (tagW w) (plc o (σ.len o)))+((0:Nat):Int)=valW (mkW (tagW w) (plc o (σ.len o))) from by omega] at a2
     rw [a1,a2,a3 (by unfold isPt;simp [h5])]
   have lw:leadW (mkW (tagW w) (plc o (σ.len o)))=true:=by unfold leadW;rw [tg.1];exact l
   refine ⟨?_,?_⟩
   ·show Isw G H (piS all) (n+1) w (mkW (tagW w) (plc o (σ.len o)))
    rw [Isw,if_pos l]
    refine ⟨tg.1,?_,ew,w1,vals⟩
    rw [tg.2.1]
    unfold piS
    cases o with
    | true=>
     have e0:prt H (plc true (σ.len true))=0:=by
      unfold prt plc
      have:=hb1 rfl
      rw [if_pos rfl,if_pos (by omega)]
     rw [e0]
     split
     ·rfl
     ·rename_i ha
      have hp:prt G (valW w)=1:=by
       unfold toO at ho'
       rw [show all=false by simpa using ha] at ho'
       simpa using ho'
      rw [hp];rfl
    | false=>
     have ha:all=false:=by
      unfold toO at ho'
      cases all with
      | true=>cases ho'
      | false=>rfl
     have hp:¬prt G (valW w)=1:=by
      unfold toO at ho'
      rw [ha] at ho'
      simpa using ho'
     have hp0:¬prt G (valW w)=0:=fun e=>c (by unfold stay;rw [l,e,ha];rfl)
     have hp2:=prt_le G (valW w)
     have hm:=F.mrk ha
     simp only at hm
     have hlt:σ.len false<τ.len false:=by have:=L.mono false;omega
     rw [ha,if_neg (by decide),if_neg (by omega)]
     show prt H (100000+((σ.len false:Nat):Int))=1
     unfold prt
     rw [if_neg (by omega),if_pos (by omega)]
   ·simp only
    rw [pls,if_pos lw,ew,eS,tg.2.1]
    rw [List.perm_iff_count] at t2 ⊢
    intro z
    have a:=t2 z
    have b:=rgs_cnt (σ:=σ) (m:=σ0) (τ:=τ) m0 L.mono z
    have e:(rgs σ σ0).count z=(rgI (plc o (σ.len o)) (wid G w).toNat).count z:=by
     unfold rgs
     rw [List.count_append,lz,lz]
     cases o with
     | true=>
      rw [if_pos rfl,if_neg (by decide)]
      simp only [Nat.add_sub_cancel_left]
      show _+(rgI _ 0).count z=_
      rfl
     | false=>
      rw [if_pos rfl,if_neg (by decide)]
      simp only [Nat.add_sub_cancel_left]
      show (rgI _ 0).count z+_=_
      rw [show rgI ((σ.len true:Nat):Int) 0 = [] from rfl,List.count_nil,Nat.zero_add]
      rfl
    simp only [List.count_append] at a ⊢
    omega
theorem cp_in' {G:Gn} {all:Bool} (ho:G.old.length≤1000) (hy:G.young.length≤1000) {n:Nat} {w:Int} {σ:Sw} (h:Fue G n w) (x:σ.In):(cp true G all n w σ).2.In:=by
 rw [← cp_fill];exact cp_in ho hy n w σ h x
theorem cp_len' {G:Gn} {all:Bool} {n:Nat} {w:Int} {σ:Sw} (o:Bool):σ.len o≤(cp true G all n w σ).2.len o:=by
 rw [← cp_fill];exact cp_len o
theorem Sw.wn_set (σ:Sw) (o:Bool) (i:Nat) (x:Int):(σ.set o i x).wn=σ.wn:=by cases o<;>rfl
theorem Sw.wn_app (σ:Sw) (o:Bool) (l:List Int):(σ.app o l).wn=σ.wn:=by cases o<;>rfl
theorem cpLoop_wn {G:Gn} {w:Int} {o:Bool} {at_:Nat} {go:Int→Sw→Int×Sw} {p v:Int} (h:∀ x σ,σ.wn p=some v→(go x σ).2.wn p=some v):∀ (r i:Nat) (σ:Sw),σ.wn p=some v→(cpLoop G w o at_ go r i σ).wn p=some v
 | 0,i,σ,e=>e
 | r+1,i,σ,e=>by
  rw [cpLoop]
  split
  ·exact cpLoop_wn h r (i+1) _ (by rw [Sw.wn_set];exact h _ _ e)
  ·exact cpLoop_wn h r (i+1) _ (by rw [Sw.wn_set];exact e)
theorem cp_wn {fill:Bool} {G:Gn} {all:Bool} {p v:Int}:∀ (n:Nat) (w:Int) (σ:Sw),σ.wn p=some v→(cp fill G all n w σ).2.wn p=some v
 | 0,w,σ,e=>e
 | n+1,w,σ,e=>by
  rw [cp]
  split
  ·exact e
  ·split
   ·exact e
   ·rename_i h
    refine cpLoop_wn (fun x σ' e'=>cp_wn n x σ' e') _ _ _ ?_
    show (if p=valW w then _ else (Sw.app σ _ _).wn p)=some v
    rw [Sw.wn_app]
    split
    ·rename_i hp;rw [hp,h] at e;cases e
    ·exact e
abbrev ssV (oa ya:Option Addr) (G:Gn) (all:Bool) (a b:Option Addr) (σ:Sw) (la lya:Option Addr) (lo ly:List Int):List Value:=[.slice oa G.old.length G.old.length,.slice ya G.young.length G.young.length,.int .i64 G.mark,.slice a σ.old.length σ.old.length,.slice b σ.young.length σ.young.length,.int .i64 0,.slice la lo.length lo.length,.slice lya ly.length ly.length,.bool all]
abbrev ssD (tb:Nat) (oa ya:Option Addr) (G:Gn) (all:Bool) (a b:Option Addr) (σ:Sw) (la lya:Option Addr) (lo ly:List Int):Ds:=[(tb,168,ssV oa ya G all a b σ la lya lo ly)]
abbrev ssR (base:Nat) (S:Fp) (mu:Bool) (A:AH→Prop) (a b:Option Addr) (σ:Sw) (la lya:Option Addr) (lo ly:List Int):List Rs:=[⟨S,mu,A⟩,rW base a σ.old,rW base b σ.young,rW base la lo,rW base lya ly]
def sj (q:Bool):Nat:=if q=true then 3 else 4
def sL (q:Bool) (lo ly:List Int):List Int:=if q=true then lo else ly
def sA (q:Bool) (la lya:Option Addr):Option Addr:=if q=true then la else lya
def sS (q:Bool) (lo ly:List Int) (k:Nat) (v:Int):List Int×List Int:=if q=true then (lo.set k v,ly) else (lo,ly.set k v)
theorem ssR_get {base:Nat} {S:Fp} {mu:Bool} {A:AH→Prop} {a b:Option Addr} {σ:Sw} {la lya:Option Addr} {lo ly:List Int} (q:Bool):(ssR base S mu A a b σ la lya lo ly)[sj q]? = some (rW base (sA q la lya) (sL q lo ly)):=by
 cases q<;>rfl
theorem ssR_set {base:Nat} {S:Fp} {mu:Bool} {A:AH→Prop} {a b:Option Addr} {σ:Sw} {la lya:Option Addr} {lo ly:List Int} (q:Bool) (k:Nat) (v:Int):(ssR base S mu A a b σ la lya lo ly).set (sj q) (rW base (sA q la lya) ((sL q lo ly).set k v))=ssR base S mu A a b σ la lya (sS q lo ly k v).1 (sS q lo ly k v).2:=by
 cases q<;>rfl
theorem sS_len (q:Bool) (lo ly:List Int) (k:Nat) (v:Int):(sS q lo ly k v).1.length=lo.length∧(sS q lo ly k v).2.length=ly.length:=by
 cases q<;>simp [sS]
theorem sS_two (q:Bool) (lo ly:List Int) (k:Nat) (u v:Int):sS q (sS q lo ly k u).1 (sS q lo ly k u).2 k v=sS q lo ly k v:=by
 cases q<;>simp [sS]
theorem sL_len {lo ly lo' ly':List Int} (q:Bool) (h1:lo'.length=lo.length) (h2:ly'.length=ly.length):(sL q lo' ly').length=(sL q lo ly).length:=by
 cases q
 ·exact h2
 ·exact h1
theorem WRs.side {lo ly:List Int} {G:Gn} {σ:Sw} (x:WRs lo ly G σ) (hlo:G.old.length≤1000) {p:Int} (hs:(gwd G p).isSome=true):∃ k:Nat,gwp p=(k:Int)∧k<(sL (decide (p<100000)) lo ly).length∧(∀ u,(sL (decide (p<100000)) lo ly)[k]? = some u→σ.wn p=if 0≤u then some u else none)∧∀ v,0≤v→WRs (sS (decide (p<100000)) lo ly k v).1 (sS (decide (p<100000)) lo ly k v).2 G (σ.put p v):=by
 obtain ⟨x1,x2,x3,x4⟩:=x
 cases e:gwd G p with
 | none=>rw [e] at hs;cases hs
 | some n=>
  unfold gwd at e
  split at e
  ·rename_i c
   obtain ⟨_,a,b⟩:=ati_ok e
   have hq:decide (p<100000)=false:=by simp;omega
   rw [hq]
   refine ⟨(p-100000).toNat,by unfold gwp;rw [if_pos c];omega,?_,fun u hu=>?_,fun v hv=>?_⟩
   ·show _<ly.length;omega
   ·have:=x4 _ _ hu
    rw [show (100000:Int)+((p-100000).toNat:Int)=p from by omega] at this
    exact this
   ·have:=WRs.putY ⟨x1,x2,x3,x4⟩ (by omega) (i:=(p-100000).toNat) hv
    rw [show (100000:Int)+((p-100000).toNat:Int)=p from by omega] at this
    exact this
  ·rename_i c
   obtain ⟨_,a,b⟩:=ati_ok e
   have hq:decide (p<100000)=true:=by simp;omega
   rw [hq]
   refine ⟨p.toNat,by unfold gwp;rw [if_neg c];omega,?_,fun u hu=>?_,fun v hv=>?_⟩
   ·show _<lo.length;omega
   ·have:=x3 _ _ hu
    rw [show ((p.toNat:Nat):Int)=p from by omega] at this
    exact this
   ·have:=WRs.putO ⟨x1,x2,x3,x4⟩ (i:=p.toNat) (by omega) hv
    rw [show ((p.toNat:Nat):Int)=p from by omega] at this
    exact this
def TkR (base tb:Nat) (oa ya:Option Addr) (G:Gn) (all:Bool) (n:Nat):Prop:=∀ (w:Int) (σ:Sw) (lo ly:List Int) (a b la lya:Option Addr) (S V:Fp) (mu:Bool) (A:AH→Prop) (h0 h:AH),wOk w→Fub G n w→WRs lo ly G σ→σ.In→(∀ y,A y→GnO base y oa ya G) →
 Hs base V h0 h (ssD tb oa ya G all a b σ la lya lo ly) (ssR base S mu A a b σ la lya lo ly) →
 Wp (run (Et base) 147 [.pointer (at0 tb),.int .i64 w] h) fun o=>o.1 = .int .i64 (cp true G all n w σ).1∧∃ lo' ly' a' b',lo'.length=lo.length∧ly'.length=ly.length∧WRs lo' ly' G (cp true G all n w σ).2∧Hs base V h0 o.2 (ssD tb oa ya G all a' b' (cp true G all n w σ).2 la lya lo' ly') (ssR base S mu A a' b' (cp true G all n w σ).2 la lya lo' ly')
theorem l6Went_run {base tb:Nat} {oa ya:Option Addr} {G:Gn} {all:Bool} {a b:Option Addr} {σ:Sw} {la lya:Option Addr} {lo ly:List Int} {V:Fp} {h0 h:AH} {D:Ds} {R:List Rs} {p:Int} {k:Nat} (hk:gwp p=(k:Int)) (hp:wOk p) (d:Hs base V h0 h ((tb,168,ssV oa ya G all a b σ la lya lo ly) :: D) R) :
  run (Et base) 190 [.pointer (at0 tb),.int .i64 p] h=some (.tuple #[.slice (sA (decide (p<100000)) la lya) (sL (decide (p<100000)) lo ly).length (sL (decide (p<100000)) lo ly).length,.int .i64 (k:Int)],h):=by
 obtain ⟨p1,p2⟩:=hp
 suffices W:Wp (run (Et base) 190 [.pointer (at0 tb),.int .i64 p] h) fun o=>o=(.tuple #[.slice (sA (decide (p<100000)) la lya) (sL (decide (p<100000)) lo ly).length (sL (decide (p<100000)) lo ly).length,.int .i64 (k:Int)],h) by
  obtain ⟨o,e,rfl⟩:=W
  exact e
 refine W.of (fun r hx=>Am.r190 hx) ?_
 unfold gwp at hk
 refine W.ite (fun c=>?_) (fun c=>?_)
 ·rw [c]
  have c:p<100000:=by simpa using c
  rw [if_neg (by omega)] at hk
  ((with_reducible repeat first|refine W.a1 d ?_|refine W.bo ?_))
  exact W.ret (by rw [hk];rfl)
 ·have c':decide (p<100000)=false:=by simpa using c
  rw [c']
  have c:¬p<100000:=by simpa using c
  rw [if_pos (by omega)] at hk
  ((with_reducible repeat first|refine W.a1 d ?_|refine W.bo ?_))
  rw [w64i (by omega) (by omega)]
  exact W.ret (by rw [hk];rfl)
theorem prt0 (G:Gn) (p:Int):(prt G p==0)=decide (p<100000):=by
 unfold prt
 split
 ·rename_i h;simp [h]
 ·rename_i h;split<;>simp [h]
theorem toO_at {G:Gn} {all:Bool} {w:Int} (c:¬stay G all w=true) (hl:leadW w=true):toO G all w=(all||decide (valW w<100000+G.mark)):=by
 unfold stay at c
 unfold toO
 cases all with
 | true=>rfl
 | false=>
  rw [hl,prt0] at c
  have c:¬valW w<100000:=by simpa using c
  unfold prt
  rw [if_neg c]
  simp only [Bool.false_or]
  split
  ·rw [decide_eq_true (by omega)];rfl
  ·rw [decide_eq_false (by omega)];rfl
theorem tk_loop {base tb n k at_ kk:Nat} {oa ya:Option Addr} {G:Gn} {all o:Bool} {w:Int} {la lya:Option Addr} {q:Bool} {nlo nly:Nat} {S V:Fp} {mu:Bool} {A:AH→Prop} {h0:AH} (hG:G.Ok) (ho:G.old.length≤1000) (hy:G.young.length≤1000) (hw:wOk w) (hk:wid G w=(k:Int)) (hk41:k≤41) (hat:at_≤101000) (hB:gwB G (valW w) (wid G w)=true) (hraw:gws G (valW w) (wid G w)=rawW G w) (h6:tagW w≠6) (hf:∀ x∈chW G w,Fub G n x) (hA:∀ y,A y→GnO base y oa ya G) (ih:TkR base tb oa ya G all n) :
  ∀ (r i:Nat) (h:AH) (σ:Sw) (lo ly:List Int) (a b:Option Addr),i+r=k→(tagW w≠5→1≤i∧tagW w=4)→lo.length=nlo→ly.length=nly→at_+k≤σ.len o→WRs lo ly G σ→σ.In→Hs base V h0 h (ssD tb oa ya G all a b σ la lya lo ly) (ssR base S mu A a b σ la lya lo ly) →
  Wp (loopL (B147_0 base) [some (.pointer (at0 tb)),some (.int .i64 w),some (.int .i64 (k:Int)),some (.slice (sA q la lya) (if q=true then nlo else nly) (if q=true then nlo else nly)),some (.int .i64 (kk:Int)),some (.slice (shiftA (gwa oa ya (valW w)) (gwp (valW w)).toNat) k k),some (.bool o),some (.int .i64 (at_:Int)),some (.int .i64 (i:Int))] h) fun z=>z.1=2∧z.2.1 = [some (.int .i64 w),some (.slice (sA q la lya) (if q=true then nlo else nly) (if q=true then nlo else nly)),some (.int .i64 (kk:Int))]∧∃ lo' ly' a' b',lo'.length=nlo∧ly'.length=nly∧WRs lo' ly' G (cpLoop G w o at_ (cp true G all n) r i σ)∧Hs base V h0 z.2.2 (ssD tb oa ya G all a' b' (cpLoop G w o at_ (cp true G all n) r i σ) la lya lo' ly') (ssR base S mu A a' b' (cpLoop G w o at_ (cp true G all n) r i σ) la lya lo' ly'):=by
 intro r
 have hlen:(rawW G w).length=k:=by rw [rawW_len];omega
 induction r with
 | zero=>
  intro i h σ lo ly a b hi h5 hlo hly hl hW hin d
  suffices w1:Wp (B147_0 base [some (.pointer (at0 tb)),some (.int .i64 w),some (.int .i64 (k:Int)),some (.slice (sA q la lya) (if q=true then nlo else nly) (if q=true then nlo else nly)),some (.int .i64 (kk:Int)),some (.slice (shiftA (gwa oa ya (valW w)) (gwp (valW w)).toNat) k k),some (.bool o),some (.int .i64 (at_:Int)),some (.int .i64 (i:Int))] h) fun z=>z.1=2∧z.2.1 = [some (.int .i64 w),some (.slice (sA q la lya) (if q=true then nlo else nly) (if q=true then nlo else nly)),some (.int .i64 (kk:Int))]∧Hs base V h0 z.2.2 (ssD tb oa ya G all a b σ la lya lo ly) (ssR base S mu A a b σ la lya lo ly) by
   obtain ⟨⟨z1,z2,z3⟩,e,y1,y2,y3⟩:=w1
   simp only at y1 y2 y3
   subst y1;subst y2
   exact ⟨_,loop_off (by decide) e,rfl,rfl,lo,ly,a,b,hlo,hly,hW,y3⟩
  rw [B147_0_eq]
  apply W.jb false d
  ·refine W.ifF (by simp;omega) ?_
   exact W.lb rfl rfl (KB.refl _ _)
  intro h1 d q1
  ((with_reducible repeat refine W.a2 ?_))
  refine W.ifF (by decide) (W.ret ⟨rfl,rfl,d⟩)
 | succ r ihr=>
  intro i h σ lo ly a b hi h5 hlo hly hl hW hin d
  have c:isPt w i=true:=by
   unfold isPt
   by_cases t5:tagW w=5
   ·simp [t5]
   ·obtain ⟨a1,a2⟩:=h5 t5
    simp [a2];omega
  have hm:=chW_at (G:=G) (w:=w) (i:=i) (by omega) c
  rw [cpLoop,if_pos c]
  generalize hX:cp true G all n ((gwd G (valW w+(i:Int))).getD 0) σ=X
  have hXin:X.2.In:=by rw [← hX];exact cp_in' ho hy (hf _ hm).fue hin
  have hXl:∀ p,σ.len p≤X.2.len p:=fun p=>by rw [← hX];exact cp_len' p
  suffices w1:Wp (B147_0 base [some (.pointer (at0 tb)),some (.int .i64 w),some (.int .i64 (k:Int)),some (.slice (sA q la lya) (if q=true then nlo else nly) (if q=true then nlo else nly)),some (.int .i64 (kk:Int)),some (.slice (shiftA (gwa oa ya (valW w)) (gwp (valW w)).toNat) k k),some (.bool o),some (.int .i64 (at_:Int)),some (.int .i64 (i:Int))] h) fun z=>z.1=0∧z.2.1 = [some (.pointer (at0 tb)),some (.int .i64 w),some (.int .i64 (k:Int)),some (.slice (sA q la lya) (if q=true then nlo else nly) (if q=true then nlo else nly)),some (.int .i64 (kk:Int)),some (.slice (shiftA (gwa oa ya (valW w)) (gwp (valW w)).toNat) k k),some (.bool o),some (.int .i64 (at_:Int)),some (.int .i64 ((i:Int)+1))]∧∃ lo' ly' a' b',lo'.length=nlo∧ly'.length=nly∧WRs lo' ly' G (X.2.set o (at_+i) X.1)∧Hs base V h0 z.2.2 (ssD tb oa ya G all a' b' (X.2.set o (at_+i) X.1) la lya lo' ly') (ssR base S mu A a' b' (X.2.set o (at_+i) X.1) la lya lo' ly') by
   obtain ⟨⟨o1,o2,h'⟩,e,y1,y2,lo',ly',a',b',y3,y4,y5,d'⟩:=w1
   simp only at y1 y2 d'
   subst y1;subst y2
   obtain ⟨z,ez,zz⟩:=ihr (i+1) h' _ lo' ly' a' b' (by omega) (fun t=>⟨by omega,(h5 t).2⟩) y3 y4 (by rw [Sw.len_set];have:=hXl o;omega) y5 (hXin.set _ _ _) d'
   exact ⟨z,loop_on e ez,zz⟩
  rw [B147_0_eq]
  apply W.jb true d
  ·refine W.ifT (decide_eq_true (by omega)) ?_
   refine W.bs specTag_run ?_
   ((with_reducible repeat refine W.a2 ?_))
   exact W.lb rfl (by simp [bne,h6]) (KB.refl _ _)
  intro h1 d q1
  ((with_reducible repeat refine W.a2 ?_))
  refine W.ifT rfl ?_
  refine W.jP (L:=[some (.pointer (at0 tb)),some (.int .i64 w),some (.int .i64 (k:Int)),some (.slice (sA q la lya) (if q=true then nlo else nly) (if q=true then nlo else nly)),some (.int .i64 (kk:Int)),some (.slice (shiftA (gwa oa ya (valW w)) (gwp (valW w)).toNat) k k),some (.bool o),some (.int .i64 (at_:Int)),some (.int .i64 (i:Int))]) (fun y=>∃ lo' ly' a' b',lo'.length=nlo∧ly'.length=nly∧WRs lo' ly' G (X.2.set o (at_+i) X.1)∧Hs base V h0 y (ssD tb oa ya G all a' b' (X.2.set o (at_+i) X.1) la lya lo' ly') (ssR base S mu A a' b' (X.2.set o (at_+i) X.1) la lya lo' ly')) ?_ ?_
  ·refine W.ifT ⟨by omega,by show (i:Int)<(k:Int);omega⟩ ?_
   have sl:=(hA _ (d.rs (i:=0) rfl)).sl hB
   rw [hraw] at sl
   dsimp only
   rw [Int.toNat_natCast]
   refine W.rj sl (by rw [hlen];omega) ?_
   have er:(rawW G w)[i]'(by rw [hlen];omega)=(gwd G (valW w+(i:Int))).getD 0:=by simp [rawW]
   rw [er]
   refine W.wb (ih _ σ lo ly a b la lya S V mu A h0 h1 (chW_ok hG hm) (hf _ hm) hW hin hA d) ?_
   rintro ⟨u,h2⟩ ⟨y1,lo',ly',a',b',y3,y4,y5,d2⟩
   simp only at y1 d2
   rw [hX] at y1 y5 d2
   subst y1
   have d:=d2
   have hle:at_+i<X.2.len o:=by have:=hXl o;omega
   ((with_reducible repeat refine W.a2 ?_))
   cases o with
   | true=>
    refine W.ifT rfl ?_
    ((with_reducible repeat first|refine W.a1 d ?_|refine W.bo ?_))
    dsimp only
    rw [w64i (n:=(at_:Int)+(i:Int)) (by omega) (by omega)]
    rw [show (at_:Int)+(i:Int)=((at_+i:Nat):Int) from by omega,Int.toNat_natCast]
    refine W.ifT ⟨by omega,by have:at_+i<X.2.old.length:=hle;omega⟩ ?_
    obtain ⟨ad,h3,rfl,e3,d,_⟩:=d.setW (i:=1) (j:=at_+i) (v:=X.1) rfl hle
    refine W.bs rfl ?_
    rw [Nat.mul_one]
    refine W.bs e3 ?_
    have el:X.2.old.length=(X.2.old.set (at_+i) X.1).length:=by simp
    dsimp only [ssD,ssV] at d
    rw [el] at d
    exact W.inl ⟨rfl,lo',ly',some ad,b',by omega,by omega,y5.set _ _ _,d⟩
   | false=>
    refine W.ifF (by decide) ?_
    ((with_reducible repeat first|refine W.a1 d ?_|refine W.bo ?_))
    dsimp only
    rw [w64i (n:=(at_:Int)+(i:Int)) (by omega) (by omega)]
    rw [show (at_:Int)+(i:Int)=((at_+i:Nat):Int) from by omega,Int.toNat_natCast]
    refine W.ifT ⟨by omega,by have:at_+i<X.2.young.length:=hle;omega⟩ ?_
    obtain ⟨ad,h3,rfl,e3,d,_⟩:=d.setW (i:=2) (j:=at_+i) (v:=X.1) rfl hle
    refine W.bs rfl ?_
    rw [Nat.mul_one]
    refine W.bs e3 ?_
    have el:X.2.young.length=(X.2.young.set (at_+i) X.1).length:=by simp
    dsimp only [ssD,ssV] at d
    rw [el] at d
    exact W.inl ⟨rfl,lo',ly',a',some ad,by omega,by omega,y5.set _ _ _,d⟩
  rintro h2 ⟨lo',ly',a',b',y3,y4,y5,d⟩
  ((with_reducible repeat refine W.a2 ?_))
  dsimp only
  rw [w64i (n:=(i:Int)+1) (by omega) (by omega)]
  exact W.ret ⟨rfl,rfl,lo',ly',a',b',y3,y4,y5,d⟩
theorem tk_succ {base tb n:Nat} {oa ya:Option Addr} {G:Gn} {all:Bool} (hG:G.Ok) (ho:G.old.length≤1000) (hy:G.young.length≤1000) (hmk:0≤G.mark∧G.mark≤1000) (ih:TkR base tb oa ya G all n):TkR base tb oa ya G all (n+1):=by
 intro w σ lo ly a b la lya S V mu A h0 h hw hf hW hin hA d
 have vnn:=valW_nn w
 have vle:=valW_le hw
 have hv:wOk (valW w):=⟨by omega,by omega⟩
 refine W.of (fun r hx=>Am.r147 hx) ?_
 ((with_reducible repeat first|refine W.a1 d ?_|refine W.bo ?_))
 obtain ⟨h1,e1,k1⟩:=l6Size_run hG ho hw (hA _ (d.rs (i:=0) rfl)) d.ge
 have d:=d.kN k1
 refine W.bs e1 ?_
 ((with_reducible repeat refine W.a2 ?_))
 refine W.bs (specVal_run hw.2) ?_
 ((with_reducible repeat refine W.a2 ?_))
 apply W.jb (stay G all w) d
 ·have hs:=szW_lead hf.1
  unfold stay
  rw [prt0]
  refine W.ite (fun c=>?_) (fun c=>?_)
  ·rw [hs] at c
   exact W.lb rfl (by rw [c];rfl) (KB.refl _ _)
  rw [hs] at c
  have c:leadW w=true:=by simpa using c
  refine W.ite (fun c2=>?_) (fun c2=>?_)
  ·((with_reducible repeat first|refine W.a1 d ?_|refine W.bo ?_))
   exact W.lb rfl (by rw [c,c2];simp) (KB.refl _ _)
  ·have c2:decide (valW w<100000)=false:=by simpa using c2
   exact W.lb rfl (by rw [c,c2];rfl) (KB.refl _ _)
 intro h2 d q2
 ((with_reducible repeat refine W.a2 ?_))
 rw [cp]
 refine W.ite (fun c=>?_) (fun c=>?_)
 ·rw [if_pos c]
  exact W.ret ⟨rfl,lo,ly,a,b,rfl,rfl,hW,d⟩
 rw [if_neg c]
 have hl:leadW w=true:=by
  unfold stay at c
  cases e:leadW w with
  | true=>rfl
  | false=>rw [e] at c;exact absurd rfl c
 obtain ⟨wd1,wd2⟩:=wid_le hf.1 hl
 rw [szW_wid hf.1 hl]
 have hB:=gwB_wid ho hf.1 hf.2.1 hl
 have hraw:=gws_raw ho hf.1 hf.2.1 hl
 obtain ⟨kk,hkk,hklt,hget,hput⟩:=hW.side ho (hf.1.some hl)
 refine W.bs (l6Went_run hkk hv d) ?_
 ((with_reducible repeat first|refine W.a2 ?_|refine W.a3 ?_|refine W.a8 ?_))
 generalize hQ:decide (valW w<100000)=q at hklt hget hput ⊢
 have rq:∀ {y:AH} {a b:Option Addr} {σ:Sw} {lo ly:List Int},Hs base V h0 y (ssD tb oa ya G all a b σ la lya lo ly) (ssR base S mu A a b σ la lya lo ly)→Sl y (sA q la lya) (iv .i64 (sL q lo ly)):=fun d=>Own.sl (d.rs (ssR_get q))
 dsimp only
 rw [Int.toNat_natCast]
 refine W.rj (rq d) hklt ?_
 have hg:=hget _ (List.getElem?_eq_getElem hklt)
 refine W.ite (fun c2=>?_) (fun c2=>?_)
 ·have c2:0≤(sL q lo ly)[kk]:=by simpa using c2
  rw [if_pos c2] at hg
  rw [hg]
  refine W.bs specTag_run ?_
  ((with_reducible repeat first|refine W.a2 ?_|refine W.a8 ?_))
  obtain ⟨ad,e3,g3⟩:=int_get (rq d) hklt
  dsimp only at e3 ⊢
  rw [e3]
  refine W.bs rfl (W.gt (fun ad _=>⟨fun _ _=>rfl,rfl⟩) ?_)
  refine W.bI g3 ?_
  refine W.bs specMk_run ?_
  ((with_reducible repeat refine W.a2 ?_))
  exact W.ret ⟨rfl,lo,ly,a,b,rfl,rfl,hW,d⟩
 have c2:¬0≤(sL q lo ly)[kk]:=by simpa using c2
 rw [if_neg c2] at hg
 rw [hg]
 ((with_reducible repeat first|refine W.a1 d ?_|refine W.bo ?_))
 have hwid:wOk (wid G w):=⟨by omega,by omega⟩
 obtain ⟨a3,h3,e3,s3,k3,f3⟩:=l6Words_run (base:=base) hG hv hwid (hA _ (d.rs (i:=0) rfl)) d.ge
 have d:=d.kN k3
 refine W.bs e3 ?_
 rw [f3 hB,hraw,hB]
 ((with_reducible repeat first|refine W.a2 ?_|refine W.a3 ?_))
 obtain ⟨k,hk⟩:∃ k:Nat,wid G w=(k:Int):=⟨(wid G w).toNat,by omega⟩
 have hlen:(rawW G w).length=k:=by rw [rawW_len];omega
 rw [hlen,hk]
 apply W.jb (toO G all w) d
 ·rw [toO_at c hl]
  ((with_reducible repeat first|refine W.a1 d ?_|refine W.bo ?_))
  cases all with
  | true=>exact W.ifT rfl (W.lb rfl rfl (KB.refl _ _))
  | false=>
   refine W.ifF (by decide) ?_
   ((with_reducible repeat first|refine W.a1 d ?_|refine W.bo ?_))
   rw [w64i (n:=100000+G.mark) (by omega) (by omega)]
   exact W.lb rfl rfl (KB.refl _ _)
 intro h4 d q4
 ((with_reducible repeat first|refine W.a1 d ?_|refine W.a2 ?_|refine W.bo ?_))
 generalize hO:toO G all w=o
 have hle:=hin.le o
 simp only [if_true]
 obtain ⟨al,eal⟩:∃ al,shiftA (gwa oa ya (valW w)) (gwp (valW w)).toNat=al:=⟨_,rfl⟩
 have hal:∀ {y:AH},GnO base y oa ya G→rawAt y al (k*1)=some (iv .i64 (rawW G w)):=fun x=>by
  have:=(x.sl hB).raw (iv_leaf _ _)
  rw [hraw,iv_length,hlen,eal] at this
  rw [Nat.mul_one];exact this
 rw [eal]
 refine W.jP (L:=[some (.pointer (at0 tb)),some (.int .i64 w),some (.int .i64 (k:Int)),some (.slice (sA q la lya) (sL q lo ly).length (sL q lo ly).length),some (.int .i64 (kk:Int)),some (.slice al k k),some (.bool o),some (.int .i64 (σ.len o:Int))]) (fun y=>∃ a' b',Hs base V h0 y (ssD tb oa ya G all a' b' (σ.app o (rawW G w)) la lya lo ly) (ssR base S mu A a' b' (σ.app o (rawW G w)) la lya lo ly)) ?_ ?_
 ·cases o with
  | true=>
   refine W.ifT rfl ?_
   ((with_reducible repeat first|refine W.a1 d ?_|refine W.bo ?_))
   dsimp only
   rw [hal (hA _ (d.rs (i:=0) rfl))]
   obtain ⟨a',h5,e5,d,k5⟩:=d.extW (i:=1) (m:=k) (new:=rawW G w) (src:=some (iv .i64 (rawW G w))) rfl rfl hlen (by have:σ.old.length≤101000:=hle;omega)
   refine W.bs e5 ?_
   ((try simp only [n1,n2,n3,n4,n5,n6] at d);(with_reducible repeat first|refine W.a2 ?_|refine W.bo ?_|refine W.a5 d fun hw d lw kw=>?_))
   have el:σ.old.length+k=(σ.old++rawW G w).length:=by simp [hlen]
   rw [el] at d
   exact W.inl ⟨rfl,a',b,d⟩
  | false=>
   refine W.ifF (by decide) ?_
   ((with_reducible repeat first|refine W.a1 d ?_|refine W.bo ?_))
   dsimp only
   rw [hal (hA _ (d.rs (i:=0) rfl))]
   obtain ⟨b',h5,e5,d,k5⟩:=d.extW (i:=2) (m:=k) (new:=rawW G w) (src:=some (iv .i64 (rawW G w))) rfl rfl hlen (by have:σ.young.length≤101000:=hle;omega)
   refine W.bs e5 ?_
   ((try simp only [n1,n2,n3,n4,n5,n6] at d);(with_reducible repeat first|refine W.a2 ?_|refine W.bo ?_|refine W.a5 d fun hw d lw kw=>?_))
   have el:σ.young.length+k=(σ.young++rawW G w).length:=by simp [hlen]
   rw [el] at d
   exact W.inl ⟨rfl,a,b',d⟩
 rintro h5 ⟨a1,b1,d⟩
 ((with_reducible repeat first|refine W.a2 ?_|refine W.a8 ?_))
 dsimp only
 obtain ⟨ad,h6,ea,e6,d,_⟩:=d.setW (i:=sj q) (j:=kk) (v:=(σ.len o:Int)) (ssR_get q) hklt
 rw [ssR_set] at d
 have hL1:=sS_len q lo ly kk (σ.len o:Int)
 have hl1:kk<(sL q (sS q lo ly kk (σ.len o:Int)).1 (sS q lo ly kk (σ.len o:Int)).2).length:=by rw [sL_len q hL1.1 hL1.2];exact hklt
 rw [ea]
 refine W.bs rfl ?_
 rw [Nat.mul_one,Int.toNat_natCast]
 refine W.bs e6 ?_
 have hwr:∀ {y:AH} {a b:Option Addr} {σ':Sw} {v u:Int},Hs base V h0 y (ssD tb oa ya G all a b σ' la lya lo ly) (ssR base S mu A a b σ' la lya (sS q lo ly kk v).1 (sS q lo ly kk v).2)→Hs base V h0 y (ssD tb oa ya G all a b σ' la lya (sS q lo ly kk v).1 (sS q lo ly kk v).2) (ssR base S mu A a b σ' la lya (sS q lo ly kk v).1 (sS q lo ly kk v).2):=fun {y a b σ' v u} d=>by
  have hL:=sS_len q lo ly kk v
  dsimp only [ssD,ssV] at d ⊢
  rw [hL.1,hL.2];exact d
 refine W.jP (L:=[some (.pointer (at0 tb)),some (.int .i64 w),some (.int .i64 (k:Int)),some (.slice (some ad) (sL q lo ly).length (sL q lo ly).length),some (.int .i64 (kk:Int)),some (.slice al k k),some (.bool o),some (.int .i64 (σ.len o:Int))]) (fun y=>Hs base V h0 y (ssD tb oa ya G all a1 b1 (σ.app o (rawW G w)) la lya lo ly) (ssR base S mu A a1 b1 (σ.app o (rawW G w)) la lya (sS q lo ly kk (plc o (σ.len o))).1 (sS q lo ly kk (plc o (σ.len o))).2)) ?_ ?_
 ·cases o with
  | true=>exact W.ifF (by decide) (W.inl ⟨rfl,d⟩)
  | false=>
   refine W.ifT rfl ?_
   ((with_reducible repeat first|refine W.bo ?_|refine W.a8 ?_))
   rw [w64i (n:=100000+(σ.len false:Int)) (by omega) (by omega)]
   obtain ⟨ad2,h7,ea2,e7,d,_⟩:=d.setW (i:=sj q) (j:=kk) (v:=100000+(σ.len false:Int)) (ssR_get q) hl1
   rw [ssR_set,sS_two] at d
   rw [ea] at ea2
   injection ea2 with ea2
   subst ea2
   exact W.bs e7 (W.inl ⟨rfl,d⟩)
 rintro h7 d
 have d:=hwr (u:=0) d
 ((with_reducible repeat refine W.a2 ?_))
 have hL2:=sS_len q lo ly kk (plc o (σ.len o))
 have hplc:0≤plc o (σ.len o):=by unfold plc;split<;>omega
 have hW2:=hput (plc o (σ.len o)) hplc
 generalize hP:sS q lo ly kk (plc o (σ.len o))=P2 at d hL2 hW2
 have hkn:(wid G w).toNat=k:=by omega
 have hkk2:((k:Int)).toNat=k:=by omega
 simp only [hkk2]
 have hgrow:((σ.app o (rawW G w)).put (valW w) (plc o (σ.len o))).In:=hin.grow (by rw [hlen];omega) (hf.1.pl ho hy hl) (by rw [hg])
 have eq':∀ {lo' ly':List Int},lo'.length=lo.length→ly'.length=ly.length→(sL q lo' ly').length=(sL q lo ly).length:=fun h1 h2=>sL_len q h1 h2
 have eqn:(sL q lo ly).length=if q=true then lo.length else ly.length:=by cases q<;>rfl
 have ea':some ad=sA q la lya:=ea.symm
 have fin:∀ (y:AH) (σ':Sw) (lo' ly':List Int) (a' b':Option Addr),lo'.length=lo.length→ly'.length=ly.length→WRs lo' ly' G σ'→σ'.wn (valW w)=some (plc o (σ.len o))→Hs base V h0 y (ssD tb oa ya G all a' b' σ' la lya lo' ly') (ssR base S mu A a' b' σ' la lya lo' ly')→(Am.cell y ad.block (ad.off+kk*1))=some (.int .i64 (plc o (σ.len o))):=by
  intro y σ' lo' ly' a' b' e1 e2 e3 e4 d'
  have hlt:kk<(sL q lo' ly').length:=by rw [eq' e1 e2];exact hklt
  obtain ⟨ad2,e5,g5⟩:=int_get (rq d') hlt
  rw [← ea'] at e5
  injection e5 with e5
  subst e5
  rw [g5]
  obtain ⟨kk2,hkk3,_,hget2,_⟩:=e3.side ho (hf.1.some hl)
  rw [hkk] at hkk3
  have:kk2=kk:=by omega
  subst this
  rw [hQ] at hget2
  have h7:=hget2 _ (List.getElem?_eq_getElem hlt)
  rw [e4] at h7
  split at h7
  ·injection h7 with h7;rw [h7]
  ·cases h7
 have hpw:((σ.app o (rawW G w)).put (valW w) (plc o (σ.len o))).wn (valW w)=some (plc o (σ.len o)):=by simp [Sw.put]
 refine W.jP (L:=[some (.pointer (at0 tb)),some (.int .i64 w),some (.int .i64 (k:Int)),some (.slice (some ad) (sL q lo ly).length (sL q lo ly).length),some (.int .i64 (kk:Int)),some (.slice al k k),some (.bool o),some (.int .i64 (σ.len o:Int)),some (.int .i64 (if tagW w=5 then 0 else 1))]) (· = h7) ?_ ?_
 ·refine W.bs specTag_run ?_
  ((with_reducible repeat refine W.a2 ?_))
  refine W.ite (fun c=>?_) (fun c=>?_)
  ·have c:tagW w≠5:=by simpa [bne] using c
   rw [if_neg c]
   exact W.inl ⟨rfl,rfl⟩
  ·have c:tagW w=5:=by simpa [bne] using c
   rw [if_pos c]
   exact W.inl ⟨rfl,rfl⟩
 rintro h8 rfl
 ((with_reducible repeat refine W.a2 ?_))
 dsimp only
 have tag3:tagW w=4∨tagW w=5∨tagW w=6:=by
  unfold leadW inB at hl
  simp at hl
  omega
 have wl:Wp (loopL (B147_0 base) [some (.pointer (at0 tb)),some (.int .i64 w),some (.int .i64 (k:Int)),some (.slice (some ad) (sL q lo ly).length (sL q lo ly).length),some (.int .i64 (kk:Int)),some (.slice al k k),some (.bool o),some (.int .i64 (σ.len o:Int)),some (.int .i64 (if tagW w=5 then 0 else 1))] h8) fun z=>z.1=2∧z.2.1 = [some (.int .i64 w),some (.slice (some ad) (sL q lo ly).length (sL q lo ly).length),some (.int .i64 (kk:Int))]∧∃ lo' ly' a' b',lo'.length=lo.length∧ly'.length=ly.length∧WRs lo' ly' G (cpLoop G w o (σ.len o) (cp true G all n) k 0 ((σ.app o (rawW G w)).put (valW w) (plc o (σ.len o))))∧Hs base V h0 z.2.2 (ssD tb oa ya G all a' b' (cpLoop G w o (σ.len o) (cp true G all n) k 0 ((σ.app o (rawW G w)).put (valW w) (plc o (σ.len o)))) la lya lo' ly') (ssR base S mu A a' b' (cpLoop G w o (σ.len o) (cp true G all n) k 0 ((σ.app o (rawW G w)).put (valW w) (plc o (σ.len o)))) la lya lo' ly'):=by
  have d0:Hs base V h0 h8 (ssD tb oa ya G all a1 b1 ((σ.app o (rawW G w)).put (valW w) (plc o (σ.len o))) la lya P2.1 P2.2) (ssR base S mu A a1 b1 ((σ.app o (rawW G w)).put (valW w) (plc o (σ.len o))) la lya P2.1 P2.2):=d
  have hWP:WRs P2.1 P2.2 G ((σ.app o (rawW G w)).put (valW w) (plc o (σ.len o))):=by
   obtain ⟨x1,x2,x3,x4⟩:=hW2
   have e:((σ.app o (rawW G w)).put (valW w) (plc o (σ.len o))).wn=(σ.put (valW w) (plc o (σ.len o))).wn:=by
    cases o<;>rfl
   exact ⟨x1,x2,fun i v hv=>by rw [e];exact x3 i v hv,fun i v hv=>by rw [e];exact x4 i v hv⟩
  have hln:σ.len o+k≤((σ.app o (rawW G w)).put (valW w) (plc o (σ.len o))).len o:=by rw [Sw.len_put,Sw.len_app,if_pos rfl,hlen];omega
  have go:=fun (h6:tagW w≠6)=>tk_loop (base:=base) (tb:=tb) (n:=n) (k:=k) (at_:=σ.len o) (kk:=kk) (all:=all) (o:=o) (la:=la) (lya:=lya) (q:=q) (nlo:=lo.length) (nly:=ly.length) (S:=S) (V:=V) (mu:=mu) (A:=A) (h0:=h0) hG ho hy hw hk (by omega) hle hB hraw h6 hf.2.2 hA ih
  rw [ea',eqn,← eal]
  rcases tag3 with t|t|t
  ·obtain ⟨k1,rfl⟩:∃ k1,k=k1+1:=⟨k-1,by omega⟩
   rw [show (if tagW w=5 then (0:Int) else 1)=1 from if_neg (by omega),cpLoop_tup (G:=G) (w:=w) (o:=o) σ (by omega) k1 (by rw [hk];exact Int.le_refl _)]
   exact go (by omega) k1 1 h8 _ P2.1 P2.2 a1 b1 (by omega) (fun _=>⟨by omega,t⟩) hL2.1 hL2.2 hln hWP hgrow d0
  ·rw [show (if tagW w=5 then (0:Int) else 1)=0 from if_pos t]
   exact go (by omega) k 0 h8 _ P2.1 P2.2 a1 b1 (by omega) (fun h=>absurd t h) hL2.1 hL2.2 hln hWP hgrow d0
  ·rw [show (if tagW w=5 then (0:Int) else 1)=1 from if_neg (by omega),cpLoop_bin σ t k 0 (by omega)]
   suffices w1:Wp (B147_0 base [some (.pointer (at0 tb)),some (.int .i64 w),some (.int .i64 (k:Int)),some (.slice (sA q la lya) (if q=true then lo.length else ly.length) (if q=true then lo.length else ly.length)),some (.int .i64 (kk:Int)),some (.slice (shiftA (gwa oa ya (valW w)) (gwp (valW w)).toNat) k k),some (.bool o),some (.int .i64 (σ.len o:Int)),some (.int .i64 1)] h8) fun z=>z.1=2∧z.2.1 = [some (.int .i64 w),some (.slice (sA q la lya) (if q=true then lo.length else ly.length) (if q=true then lo.length else ly.length)),some (.int .i64 (kk:Int))]∧Hs base V h0 z.2.2 (ssD tb oa ya G all a1 b1 ((σ.app o (rawW G w)).put (valW w) (plc o (σ.len o))) la lya P2.1 P2.2) (ssR base S mu A a1 b1 ((σ.app o (rawW G w)).put (valW w) (plc o (σ.len o))) la lya P2.1 P2.2) by
    obtain ⟨⟨z1,z2,z3⟩,e,y1,y2,y3⟩:=w1
    simp only at y1 y2 y3
    subst y1;subst y2
    exact ⟨_,loop_off (by decide) e,rfl,rfl,P2.1,P2.2,a1,b1,hL2.1,hL2.2,hWP,y3⟩
   rw [B147_0_eq]
   apply W.jb false d0
   ·refine W.ite (fun c=>?_) (fun c=>?_)
    ·refine W.bs specTag_run ?_
     ((with_reducible repeat refine W.a2 ?_))
     exact W.lb rfl (by rw [t];rfl) (KB.refl _ _)
    ·exact W.lb rfl rfl (KB.refl _ _)
   intro h9 d q9
   ((with_reducible repeat refine W.a2 ?_))
   exact W.ifF (by decide) (W.ret ⟨rfl,rfl,d⟩)
 refine W.wb wl ?_
 rintro ⟨z1,z2,h9⟩ ⟨y1,y2,lo',ly',a',b',y3,y4,y5,d⟩
 simp only at y1 y2 d
 subst y1;subst y2
 refine W.ifT rfl ?_
 ((with_reducible repeat refine W.a2 ?_))
 refine W.bs specTag_run ?_
 ((with_reducible repeat first|refine W.a2 ?_|refine W.bo ?_|refine W.a8 ?_))
 dsimp only
 have gf:=fin h9 _ lo' ly' a' b' y3 y4 y5 (cpLoop_wn (fun x σ' e'=>cp_wn n x σ' e') _ _ _ hpw) d
 refine W.gt (fun ad _=>⟨fun _ _=>rfl,rfl⟩) ?_
 rw [Int.toNat_natCast]
 refine W.bI gf ?_
 refine W.bs specMk_run ?_
 ((with_reducible repeat refine W.a2 ?_))
 exact W.ret ⟨rfl,lo',ly',a',b',y3,y4,y5,d⟩
theorem tk_all {base tb:Nat} {oa ya:Option Addr} {G:Gn} {all:Bool} (hG:G.Ok) (ho:G.old.length≤1000) (hy:G.young.length≤1000) (hmk:0≤G.mark∧G.mark≤1000):∀ n,TkR base tb oa ya G all n
 | 0=>fun w σ lo ly a b la lya S V mu A h0 h _ hf=>hf.elim
 | n+1=>tk_succ hG ho hy hmk (tk_all hG ho hy hmk n)
theorem l6Gone_loop {base n:Nat} {V:Fp} {h0:AH} {a:Option Addr} (hn:n≤1000):∀ (r i:Nat) (h:AH) (l:List Int),i+r=n→l.length=n→(∀ j,j<i→l[j]? = some (-1))→Hs base V h0 h [] [rW base a l] →
  Wp (loopL (B146_0 base) [some (.int .i64 (n:Int)),some (.slice a n n),some (.int .i64 (i:Int))] h) fun q=>q.1=2∧q.2.1 = [some (.slice a n n)]∧Hs base V h0 q.2.2 [] [rW base a (List.replicate n (-1))]:=by
 intro r
 induction r with
 | zero=>
  intro i h l hi hl hj d
  have el:l=List.replicate n (-1):=by
   apply List.ext_getElem?
   intro j
   by_cases hjn:j<n
   ·rw [hj j (by omega)];simp [hjn]
   ·rw [List.getElem?_eq_none (by omega),List.getElem?_eq_none (by simp;omega)]
  subst el
  suffices w1:Wp (B146_0 base [some (.int .i64 (n:Int)),some (.slice a n n),some (.int .i64 (i:Int))] h) fun q=>q=(2,[some (.slice a n n)],h) by
   obtain ⟨q,e,rfl⟩:=w1
   exact ⟨_,loop_off (by decide) e,rfl,rfl,d⟩
  rw [B146_0_eq]
  exact W.ifF (by simp;omega) (W.ret rfl)
 | succ r ihr=>
  intro i h l hi hl hj d
  obtain ⟨ad,h1,ea,e1,d1,_⟩:=d.setW (i:=0) (j:=i) (v:=-1) rfl (by omega)
  suffices w1:Wp (B146_0 base [some (.int .i64 (n:Int)),some (.slice a n n),some (.int .i64 (i:Int))] h) fun q=>q=(0,[some (.int .i64 (n:Int)),some (.slice a n n),some (.int .i64 ((i+1:Nat):Int))],h1) by
   obtain ⟨q,e,rfl⟩:=w1
   obtain ⟨z,ez,zz⟩:=ihr (i+1) h1 (l.set i (-1)) (by omega) (by simp [hl]) (fun j hj2=>by
    by_cases e:i=j
    ·subst e;rw [List.getElem?_set_self (by omega)]
    ·rw [List.getElem?_set_ne e];exact hj j (by omega)) d1
   exact ⟨z,loop_on e ez,zz⟩
  rw [B146_0_eq]
  refine W.ifT (decide_eq_true (by omega)) (W.ifT ⟨by omega,by omega⟩ ?_)
  rw [ea]
  refine W.bs rfl ?_
  rw [Nat.mul_one,Int.toNat_natCast]
  refine W.bs e1 ?_
  rw [w64i (n:=(i:Int)+1) (by omega) (by omega)]
  exact W.ret rfl
theorem l6Gone_run {base n:Nat} {h:AH} (hn:n≤1000) (hb:base≤h.length):∃ a h',run (Et base) 146 [.int .i64 (n:Int)] h=some (.slice a n n,h')∧Hs base NoB h h' [] [rW base a (List.replicate n (-1))]:=by
 have d:=Hs.start hb
 suffices W:Wp (run (Et base) 146 [.int .i64 (n:Int)] h) fun o=>∃ a,o.1 = .slice a n n∧Hs base NoB h o.2 [] [rW base a (List.replicate n (-1))] by
  obtain ⟨⟨o1,o2⟩,e,a,y1,y2⟩:=W
  simp only at y1 y2
  subst y1
  exact ⟨a,o2,e,y2⟩
 refine W.of (fun r hx=>Am.r146 hx) ?_
 refine W.ifT ⟨rfl,by omega,by omega,by omega⟩ ?_
 ((refine W.nD d fun h1 d _ kh1=>?_))
 simp only [Int.toNat_natCast] at d ⊢
 rw [rep_ivs] at d
 have d:=d.asW .here
 refine W.wb (l6Gone_loop hn n 0 h1 (List.replicate n 0) (by omega) (by simp) (fun j hj=>by omega) d) ?_
 rintro ⟨q1,q2,h2⟩ ⟨y1,y2,d2⟩
 simp only at y1 y2 d2
 subst y1;subst y2
 refine W.ifT rfl ?_
 ((with_reducible repeat refine W.a2 ?_))
 exact W.ret ⟨_,rfl,d2⟩
theorem cpLoop_young {G:Gn} {w:Int} {at_:Nat} {go:Int→Sw→Int×Sw} (h:∀ x σ,(go x σ).2.young=σ.young):∀ (r i:Nat) (σ:Sw),(cpLoop G w true at_ go r i σ).young=σ.young
 | 0,i,σ=>rfl
 | r+1,i,σ=>by
  rw [cpLoop]
  split
  ·rw [cpLoop_young h];exact h _ _
  ·rw [cpLoop_young h];rfl
theorem cp_young {fill:Bool} {G:Gn}:∀ (n:Nat) (w:Int) (σ:Sw),(cp fill G true n w σ).2.young=σ.young
 | 0,w,σ=>rfl
 | n+1,w,σ=>by
  rw [cp]
  split
  ·rfl
  ·split
   ·rfl
   ·show (cpLoop G w (toO G true w) _ _ _ _ _).young=_
    rw [show toO G true w=true from rfl,cpLoop_young fun x σ'=>cp_young n x σ']
    rfl
theorem cpAll_young {fill:Bool} {G:Gn} {n:Nat}:∀ (l:List Int) (σ:Sw),(cpAll fill G true n l σ).2.young=σ.young
 | [],σ=>rfl
 | w :: r,σ=>by rw [cpAll];exact (cpAll_young r _).trans (cp_young n w σ)
theorem swept_loop {base tb zb:Nat} {oa ya aa ra la lya:Option Addr} {G:Gn} {ats:List ByteArray} {roots:List Int} {all:Bool} {S V:Fp} {mu:Bool} {h0:AH} (hG:G.Ok) (ho:G.old.length≤1000) (hy:G.young.length≤1000) (hmk:0≤G.mark∧G.mark≤1000) (hr:∀ w∈roots,wOk w∧Fub G 133 w) (hrl:roots.length≤1048576) :
  ∀ (r i:Nat) (h:AH) (σ:Sw) (lo ly:List Int) (a b c:Option Addr) (out:List Int),i+r=roots.length→out.length=i→WRs lo ly G σ→σ.In→Hs base V h0 h (ssD tb oa ya G all a b σ la lya lo ly) (ssR base S mu (SwA base oa ya G aa ats ra roots) a b σ la lya lo ly++[rW base c out]) →
  Wp (loopL (B96_0 base) [some (.slice ra roots.length roots.length),some (.bool all),some (.pointer (at0 zb)),some (.pointer (at0 tb)),some (.slice c out.length out.length),some (.int .i64 (i:Int))] h) fun q=>q.1=2∧∃ lo' ly' a' b' c',q.2.1 = [some (.bool all),some (.pointer (at0 zb)),some (.pointer (at0 tb)),some (.slice c' (out++(cpAll true G all 133 (roots.drop i) σ).1).length (out++(cpAll true G all 133 (roots.drop i) σ).1).length)]∧Hs base V h0 q.2.2 (ssD tb oa ya G all a' b' (cpAll true G all 133 (roots.drop i) σ).2 la lya lo' ly') (ssR base S mu (SwA base oa ya G aa ats ra roots) a' b' (cpAll true G all 133 (roots.drop i) σ).2 la lya lo' ly'++[rW base c' (out++(cpAll true G all 133 (roots.drop i) σ).1)]):=by
 intro r
 induction r with
 | zero=>
  intro i h σ lo ly a b c out hi ho' hW hin d
  suffices w1:Wp (B96_0 base [some (.slice ra roots.length roots.length),some (.bool all),some (.pointer (at0 zb)),some (.pointer (at0 tb)),some (.slice c out.length out.length),some (.int .i64 (i:Int))] h) fun q=>q=(2,[some (.bool all),some (.pointer (at0 zb)),some (.pointer (at0 tb)),some (.slice c out.length out.length)],h) by
   obtain ⟨q,e,rfl⟩:=w1
   rw [List.drop_of_length_le (by omega),cpAll,List.append_nil]
   exact ⟨_,loop_off (by decide) e,rfl,lo,ly,a,b,c,rfl,d⟩
  rw [B96_0_eq]
  exact W.ifF (by simp;omega) (W.ret rfl)
 | succ r ihr=>
  intro i h σ lo ly a b c out hi ho' hW hin d
  have hlt:i<roots.length:=by omega
  obtain ⟨hw,hf⟩:=hr _ (List.getElem_mem hlt)
  rw [List.drop_eq_getElem_cons hlt,cpAll]
  suffices w1:Wp (B96_0 base [some (.slice ra roots.length roots.length),some (.bool all),some (.pointer (at0 zb)),some (.pointer (at0 tb)),some (.slice c out.length out.length),some (.int .i64 (i:Int))] h) fun q=>q.1=0∧∃ lo' ly' a' b' c',q.2.1 = [some (.slice ra roots.length roots.length),some (.bool all),some (.pointer (at0 zb)),some (.pointer (at0 tb)),some (.slice c' (out++[(cp true G all 133 roots[i] σ).1]).length (out++[(cp true G all 133 roots[i] σ).1]).length),some (.int .i64 ((i:Int)+1))]∧WRs lo' ly' G (cp true G all 133 roots[i] σ).2∧Hs base V h0 q.2.2 (ssD tb oa ya G all a' b' (cp true G all 133 roots[i] σ).2 la lya lo' ly') (ssR base S mu (SwA base oa ya G aa ats ra roots) a' b' (cp true G all 133 roots[i] σ).2 la lya lo' ly'++[rW base c' (out++[(cp true G all 133 roots[i] σ).1])]) by
   obtain ⟨⟨o1,o2,h'⟩,e,y1,lo',ly',a',b',c',y2,y3,d'⟩:=w1
   simp only at y1 y2 d'
   subst y1;subst y2
   obtain ⟨q,eq,z1,l2,m2,a2,b2,c2,z2,z3⟩:=ihr (i+1) h' _ lo' ly' a' b' c' _ (by omega) (by simp;omega) y3 (cp_in' ho hy hf.fue hin) d'
   refine ⟨q,loop_on e eq,z1,l2,m2,a2,b2,c2,?_,?_⟩
   ·rw [z2,List.append_assoc];rfl
   ·rw [List.append_assoc] at z3;exact z3
  rw [B96_0_eq]
  refine W.ifT (decide_eq_true (by omega)) (W.ifT ⟨by omega,by omega⟩ ?_)
  rw [Int.toNat_natCast]
  refine W.rj (d.rs (i:=0) rfl:SwA base oa ya G aa ats ra roots h).2.1 hlt ?_
  have d1:=Hs.part (D1:=[_]) (D2:=[]) (R1:=[_,_,_,_,_]) (R2:=[_]) d
  refine W.wb (tk_all (all:=all) hG ho hy hmk 133 _ σ lo ly a b la lya S _ mu _ _ h hw hf hW hin (fun y hy=>hy.1.gnO) d1) ?_
  rintro ⟨u,h2⟩ ⟨y1,lo',ly',a',b',_,_,y2,d2⟩
  simp only at y1 d2
  subst y1
  have d:=Hs.back (D1:=[_]) (D2:=[]) (R1:=[_,_,_,_,_]) (R2:=[_]) d d2 (fun r hr hm=>by
   simp only [List.mem_cons,List.not_mem_nil,or_false] at hr
   rcases hr with rfl|rfl|rfl|rfl|rfl
   ·exact ⟨_,.head _,hm,rfl⟩
   ·cases hm
   ·cases hm
   ·cases hm
   ·cases hm)
  ((try simp only [n1,n2,n3,n4,n5,n6] at d);(with_reducible repeat refine W.a2 ?_);(refine W.nD d fun h3 d _ kh3=>?_))
  obtain ⟨c5,h5,e5,d,q5,k5,_⟩:=d.app1O (w:=1) (i:=5) (n:=out.length) (bytes:=8) rfl (fun b hb=>hb) (.head _) rfl (by decide) (by simp) rfl (by omega) (by omega)
  refine W.bs e5 ?_
  ((try simp only [n1,n2,n3,n4,n5,n6] at d);(with_reducible repeat refine W.a2 ?_))
  rw [w64i (n:=(i:Int)+1) (by omega) (by omega)]
  have d:=d.tl
  rw [show iv .i64 out++[Value.int .i64 (cp true G all 133 roots[i] σ).1]=iv .i64 (out++[(cp true G all 133 roots[i] σ).1]) from by rw [← iv_append];rfl] at d
  exact W.ret ⟨rfl,lo',ly',a',b',c5,by simp,y2,d⟩
theorem l6Swept_run {base:Nat} {all:Bool} {oa ya aa ra:Option Addr} {G:Gn} {ats:List ByteArray} {roots:List Int} {h:AH} (hG:G.Ok) (hr:∀ w∈roots,wOk w) (hrl:roots.length≤1048576) (x:SwA base oa ya G aa ats ra roots h) (hb:base≤h.length) (ok:gOk G ats roots=true) :
  ∃ a b c h',run (Et base) 96 [.agg (gensV oa ya G).toArray,.slice ra roots.length roots.length,.bool all] h=some (.tuple #[.agg (gensV a b ⟨(cpAll true G all 133 roots (sw0 G all)).2.old,(cpAll true G all 133 roots (sw0 G all)).2.young,(cpAll true G all 133 roots (sw0 G all)).2.young.length⟩).toArray,.slice c (cpAll true G all 133 roots (sw0 G all)).1.length (cpAll true G all 133 roots (sw0 G all)).1.length],h')∧Hs base NoB h h' [] [rW base a (cpAll true G all 133 roots (sw0 G all)).2.old,rW base b (cpAll true G all 133 roots (sw0 G all)).2.young,rW base c (cpAll true G all 133 roots (sw0 G all)).1]:=by
 obtain ⟨g1,g2,g3,_⟩:=gOk_parts ok
 have g4:=gOk_fub ok
 have d:=x.start hb
 generalize hX:cpAll true G all 133 roots (sw0 G all)=X
 suffices W:Wp (run (Et base) 96 [.agg (gensV oa ya G).toArray,.slice ra roots.length roots.length,.bool all] h) fun o=>∃ a b c,o.1 = .tuple #[.agg (gensV a b ⟨X.2.old,X.2.young,X.2.young.length⟩).toArray,.slice c X.1.length X.1.length]∧Hs base NoB h o.2 [] [rW base a X.2.old,rW base b X.2.young,rW base c X.1] by
  obtain ⟨⟨o1,o2⟩,e,a,b,c,y1,y2⟩:=W
  simp only at y1 y2
  subst y1
  exact ⟨a,b,c,o2,e,y2⟩
 refine W.of (fun r hx=>Am.r96 hx) ?_
 ((refine W.nD d fun h1 d _ kh1=>?_);(refine W.nD d fun h2 d _ kh2=>?_);(with_reducible repeat refine W.a1 d ?_))
 obtain ⟨la,h3,e3,d3⟩:=l6Gone_run (base:=base) (n:=G.old.length) g1 d.ge
 refine W.bs e3 ?_
 have d:=d.callR d3 (by simp)
 ((try simp only [n1,n2,n3,n4,n5,n6] at d);(with_reducible repeat first|refine W.a1 d ?_|refine W.a2 ?_|refine W.a6 d ?_))
 obtain ⟨lya,h4,e4,d4⟩:=l6Gone_run (base:=base) (n:=G.young.length) g2 d.ge
 refine W.bs e4 ?_
 have d:=d.callR d4 (by simp)
 ((try simp only [n1,n2,n3,n4,n5,n6] at d);(with_reducible repeat first|refine W.a2 ?_|refine W.a6 d ?_);(refine W.nD d fun h5 d _ kh5=>?_))
 have d:=(d.nilW2).nilW2
 have d:=d.frontR (Del.at (i:=4) rfl)
 have d:=d.frontR (Del.at (i:=4) rfl)
 have d:=d.frontR (Del.at (i:=2) rfl)
 have l1:(List.replicate G.old.length (-1:Int)).length=G.old.length:=by simp
 have l2:(List.replicate G.young.length (-1:Int)).length=G.young.length:=by simp
 have d:Hs base NoB h h5 [(h4.length,168,ssV oa ya G all none none ⟨[],[],fun _=>none⟩ la lya (List.replicate G.old.length (-1)) (List.replicate G.young.length (-1))),(h1.length,63,[.slice none 0 0,.slice none 0 0,.int .i64 0]),(h.length,63,gensV oa ya G)] (ssR base (fun b=>b<h.length) false (SwA base oa ya G aa ats ra roots) none none ⟨[],[],fun _=>none⟩ la lya (List.replicate G.old.length (-1)) (List.replicate G.young.length (-1))):=by
  dsimp only [ssV]
  rw [l1,l2]
  exact d
 refine W.jP (L:=[some (.slice ra roots.length roots.length),some (.bool all),some (.pointer (at0 h1.length)),some (.pointer (at0 h4.length))]) (fun y=>∃ a',Hs base NoB h y [(h4.length,168,ssV oa ya G all a' none (sw0 G all) la lya (List.replicate G.old.length (-1)) (List.replicate G.young.length (-1))),(h1.length,63,[.slice none 0 0,.slice none 0 0,.int .i64 0]),(h.length,63,gensV oa ya G)] (ssR base (fun b=>b<h.length) false (SwA base oa ya G aa ats ra roots) a' none (sw0 G all) la lya (List.replicate G.old.length (-1)) (List.replicate G.young.length (-1)))) ?_ ?_
 ·cases all with
  | true=>exact W.ifF (by decide) (W.inl ⟨rfl,none,d⟩)
  | false=>
   refine W.ifT rfl ?_
   ((try simp only [n1,n2,n3,n4,n5,n6] at d);(refine W.nD d fun h6 d _ kh6=>?_);(with_reducible repeat refine W.a1 d ?_))
   have x6:SwA base oa ya G aa ats ra roots h6:=d.rs (i:=0) rfl
   obtain ⟨a7,h7,e7,d⟩:=d.copyG (t:=3) (bytes:=8) (m:=G.old.length) (raw_ivs x6.1.2.2.2.1.1) (by simp) (by omega) (by omega)
   refine W.bs e7 ?_
   ((try simp only [n1,n2,n3,n4,n5,n6] at d);(with_reducible repeat first|refine W.a2 ?_|refine W.a5 d fun hw d lw kw=>?_))
   have d:=d.frontR (Del.at (i:=5) rfl)
   have d:=d.frontR (Del.at (i:=1) rfl)
   have d:=d.subR (R':=[_,_,_,_,_]) ((List.Sublist.refl [_,_]).append (List.sublist_cons_self _ [_,_,_]))
   exact W.inl ⟨rfl,a7,d⟩
 rintro h6 ⟨a6,d⟩
 ((with_reducible repeat refine W.a2 ?_);(refine W.nD d fun h7 d _ kh7=>?_))
 have d:=d.asW (l:=[]) .here
 have d:=d.frontR (Del.at (i:=5) rfl)
 have d:=d.frontR (Del.at (i:=5) rfl)
 have d:=d.frontR (Del.at (i:=5) rfl)
 have d:=d.frontR (Del.at (i:=5) rfl)
 have d:=d.frontR (Del.at (i:=5) rfl)
 have d1:=Hs.part (D1:=[_]) (D2:=[_,_]) (R1:=[_,_,_,_,_,_]) (R2:=[]) d
 have hW0:WRs (List.replicate G.old.length (-1)) (List.replicate G.young.length (-1)) G (sw0 G all):=by
  refine ⟨by simp,by simp,fun i v hv=>?_,fun i v hv=>?_⟩
  ·have:=List.mem_of_getElem? hv
   have:=List.eq_of_mem_replicate this
   subst this;rfl
  ·have:=List.mem_of_getElem? hv
   have:=List.eq_of_mem_replicate this
   subst this;rfl
 refine W.wb (swept_loop (base:=base) (roots:=roots) (zb:=h1.length) hG g1 g2 (by omega) (fun w hw=>⟨hr w hw,g4 w hw⟩) hrl roots.length 0 h7 (sw0 G all) _ _ a6 none (at0 h6.length) [] (by omega) rfl hW0 (sw0_in g1) d1) ?_
 rintro ⟨q1,q2,h8⟩ ⟨y1,lo',ly',a',b',c',y2,d2⟩
 simp only at y1 y2 d2
 subst y1;subst y2
 have d:=Hs.back (D1:=[_]) (D2:=[_,_]) (R1:=[_,_,_,_,_,_]) (R2:=[]) d d2 (fun r hr hm=>by
   simp only [List.mem_append,List.mem_cons,List.not_mem_nil,or_false] at hr
   rcases hr with (rfl|rfl|rfl|rfl|rfl)|rfl
   ·exact ⟨_,.head _,hm,rfl⟩
   ·cases hm
   ·cases hm
   ·cases hm
   ·cases hm
   ·cases hm)
 rw [List.drop_zero,List.nil_append,hX] at d ⊢
 refine W.ifT rfl ?_
 ((try simp only [n1,n2,n3,n4,n5,n6] at d);(with_reducible repeat refine W.a2 ?_))
 have hyy:all=true→X.2.young = []:=fun e=>by
  subst e
  rw [← hX,cpAll_young];rfl
 refine W.jP (L:=[some (.pointer (at0 h1.length)),some (.pointer (at0 h4.length)),some (.slice c' X.1.length X.1.length)]) (fun y=>Hs base NoB h y [(h4.length,168,[.slice oa G.old.length G.old.length,.slice ya G.young.length G.young.length,.int .i64 G.mark,.slice a' X.2.old.length X.2.old.length,.slice b' X.2.young.length X.2.young.length,.int .i64 (X.2.young.length:Int),.slice la lo'.length lo'.length,.slice lya ly'.length ly'.length,.bool all]),(h1.length,63,[.slice none 0 0,.slice none 0 0,.int .i64 0]),(h.length,63,gensV oa ya G)] (ssR base (fun b=>b<h.length) false (SwA base oa ya G aa ats ra roots) a' b' X.2 la lya lo' ly'++[rW base c' X.1])) ?_ ?_
 ·cases all with
  | true=>
   refine W.ifF (by decide) (W.inl ⟨rfl,?_⟩)
   have e:=hyy rfl
   have e0:((X.2.young.length:Nat):Int)=0:=by rw [e];rfl
   rw [e0]
   exact d
  | false=>
   refine W.ifT rfl ?_
   ((with_reducible repeat first|refine W.a1 d ?_|refine W.a5 d fun hw d lw kw=>?_))
   exact W.inl ⟨rfl,d⟩
 rintro h9 d
 ((try simp only [n1,n2,n3,n4,n5,n6] at d);(with_reducible repeat first|refine W.a1 d ?_|refine W.a2 ?_|refine W.a5 d fun hw d lw kw=>?_))
 exact W.ret ⟨a',b',c',rfl,(d.takeD 0).subR (R':=[_,_,_]) (((List.Sublist.refl [_,_]).append ((List.Sublist.refl [_]).cons _ |>.cons _)).cons _)⟩
theorem l6Ends_run {base:Nat} {all:Bool}:SwpO base 98 all [.bool all]:=by
 intro h G ats roots oa ya aa ra hG ha hz hr hrl x hb
 have d:=x.start hb
 suffices W:Wp (run (Et base) 98 [.agg (gensV oa ya G).toArray,.slice aa ats.length ats.length,.slice ra roots.length roots.length,.bool all] h) fun o=>∃ a b c,o.1 = .tuple #[.agg (gensV a b (swp G ats roots all).1.1).toArray,.slice c (swp G ats roots all).1.2.length (swp G ats roots all).1.2.length,.bool (swp G ats roots all).2]∧Hs base NoB h o.2 [] [rW base a (swp G ats roots all).1.1.old,rW base b (swp G ats roots all).1.1.young,rW base c (swp G ats roots all).1.2] by
  obtain ⟨⟨o1,o2⟩,e,a,b,c,y1,y2⟩:=W
  simp only at y1 y2
  subst y1
  exact ⟨a,b,c,o2,e,y2⟩
 refine W.of (fun r hx=>Am.r98 hx) ?_
 ((refine W.nD d fun h1 d _ kh1=>?_);(refine W.nD d fun h2 d _ kh2=>?_))
 refine W.jP (L:=[some (.slice ra roots.length roots.length),some (.pointer (at0 h.length)),some (.pointer (at0 h1.length))]) (fun y=>swp G ats roots all=((G,roots),false)∧Hs base NoB h y [(h1.length,63,[.slice none 0 0,.slice none 0 0,.int .i64 0]),(h.length,63,gensV oa ya G)] [⟨fun b=>b<h.length,false,SwA base oa ya G aa ats ra roots⟩]) ?_ ?_
 ·((with_reducible repeat refine W.a1 d ?_))
  have x2:SwA base oa ya G aa ats ra roots h2:=d.rs (i:=0) rfl
  obtain ⟨h3,e3,k3⟩:=specGensOk_run (base:=base) hG ha hz hr (by omega) x2.1 x2.2.1 x2.2.2 d.ge
  have d:=d.kN k3
  refine W.bs e3 ?_
  ((with_reducible repeat refine W.a2 ?_))
  unfold swp
  refine W.ite (fun c=>?_) (fun c=>?_)
  ·rw [if_pos c,cpAll_fill]
   ((with_reducible repeat refine W.a1 d ?_))
   have x3:SwA base oa ya G aa ats ra roots h3:=d.rs (i:=0) rfl
   obtain ⟨a4,b4,c4,h4,e4,dq⟩:=l6Swept_run (base:=base) (all:=all) hG hr hrl x3 d.ge c
   refine W.bs e4 ?_
   have d:=d.callR dq (by simp)
   generalize cpAll true G all 133 roots (sw0 G all)=X at d ⊢
   ((try simp only [n1,n2,n3,n4,n5,n6] at d);(with_reducible repeat first|refine W.a2 ?_|refine W.a3 ?_);(refine W.nD d fun h5 d _ kh5=>?_);(with_reducible repeat first|refine W.a1 d ?_|refine W.a5 d fun hw d lw kw=>?_))
   refine W.ite (fun c2=>?_) (fun c2=>?_)
   ·have c2:¬decide ((X.2.old.length:Int)>1000)=true:=by simp at c2 ⊢;omega
    rw [if_neg c2]
    ((try simp only [n1,n2,n3,n4,n5,n6] at d);(with_reducible repeat first|refine W.a1 d ?_|refine W.a5 d fun hw d lw kw=>?_))
    refine W.mp ?_
    ((try simp only [n1,n2,n3,n4,n5,n6] at d);(with_reducible repeat refine W.a1 d ?_))
    exact W.ret ⟨a4,b4,c4,rfl,(d.takeD 0).subR (List.sublist_append_right [_] [_,_,_])⟩
   ·have c2:decide ((X.2.old.length:Int)>1000)=true:=by simp at c2 ⊢;omega
    rw [if_pos c2]
    exact W.inl ⟨rfl,rfl,(d.tl).takeR 1⟩
  ·rw [if_neg c]
   exact W.inl ⟨rfl,rfl,d⟩
 rintro h3 ⟨es,d⟩
 rw [es]
 ((with_reducible repeat first|refine W.a1 d ?_|refine W.a2 ?_))
 have x3:SwA base oa ya G aa ats ra roots h3:=d.rs (i:=0) rfl
 obtain ⟨a4,b4,h4,e4,dq⟩:=l6Copy_run (base:=base) h3 oa ya G (by have:=hG.1;omega) (by have:=hG.2.1;omega) x3.1.2.2.2.1 d.ge
 have d:=d.callR dq (by simp)
 refine W.bs e4 ?_
 ((try simp only [n1,n2,n3,n4,n5,n6] at d);(with_reducible repeat refine W.a2 ?_);(refine W.nD d fun h5 d _ kh5=>?_))
 have x5:SwA base oa ya G aa ats ra roots h5:=d.rs (i:=0) rfl
 obtain ⟨a7,h7,e7,d⟩:=d.copyG (t:=3) (bytes:=8) (m:=roots.length) (raw_ivs x5.2.1) (by simp) (by omega) (by omega)
 refine W.bs e7 ?_
 ((try simp only [n1,n2,n3,n4,n5,n6] at d);(with_reducible repeat first|refine W.a1 d ?_|refine W.a2 ?_|refine W.a5 d fun hw d lw kw=>?_))
 exact W.ret ⟨a4,b4,a7,rfl,(d.takeD 0).subR (List.sublist_cons_self _ _)⟩
theorem implMinor_run {base:Nat}:SwpO base 46 false []:=by
 intro h G ats roots oa ya aa ra hG ha hz hr hrl x hb
 have d:=x.start hb
 suffices W:Wp (run (Et base) 46 [.agg (gensV oa ya G).toArray,.slice aa ats.length ats.length,.slice ra roots.length roots.length] h) fun o=>∃ a b c,o.1 = .tuple #[.agg (gensV a b (swp G ats roots false).1.1).toArray,.slice c (swp G ats roots false).1.2.length (swp G ats roots false).1.2.length,.bool (swp G ats roots false).2]∧Hs base NoB h o.2 [] [rW base a (swp G ats roots false).1.1.old,rW base b (swp G ats roots false).1.1.young,rW base c (swp G ats roots false).1.2] by
  obtain ⟨⟨o1,o2⟩,e,a,b,c,y1,y2⟩:=W
  simp only at y1 y2
  subst y1
  exact ⟨a,b,c,o2,by rw [List.append_nil];exact e,y2⟩
 refine W.of (fun r hx=>Am.r46 hx) ?_
 ((refine W.nD d fun h1 d _ kh1=>?_);(refine W.nD d fun h2 d _ kh2=>?_);(with_reducible repeat refine W.a1 d ?_))
 have x2:SwA base oa ya G aa ats ra roots h2:=d.rs (i:=0) rfl
 obtain ⟨a,b,c,h3,e3,dq⟩:=implSweep_run (base:=base) (all:=false) h2 G ats roots oa ya aa ra hG ha hz hr hrl x2 d.ge
 refine W.bs e3 ?_
 have d:=d.callR dq (by simp)
 generalize swp G ats roots false=X at d ⊢
 ((try simp only [n1,n2,n3,n4,n5,n6] at d);(with_reducible repeat first|refine W.a1 d ?_|refine W.a2 ?_|refine W.a3 ?_|refine W.a5 d fun hw d lw kw=>?_))
 exact W.ret ⟨a,b,c,rfl,(d.takeD 0).subR (List.sublist_append_right [_] [_,_,_])⟩
theorem specMinor_run {base:Nat}:SwpO base 45 false []:=by
 intro h G ats roots oa ya aa ra hG ha hz hr hrl x hb
 have d:=x.start hb
 suffices W:Wp (run (Et base) 45 [.agg (gensV oa ya G).toArray,.slice aa ats.length ats.length,.slice ra roots.length roots.length] h) fun o=>∃ a b c,o.1 = .tuple #[.agg (gensV a b (swp G ats roots false).1.1).toArray,.slice c (swp G ats roots false).1.2.length (swp G ats roots false).1.2.length,.bool (swp G ats roots false).2]∧Hs base NoB h o.2 [] [rW base a (swp G ats roots false).1.1.old,rW base b (swp G ats roots false).1.1.young,rW base c (swp G ats roots false).1.2] by
  obtain ⟨⟨o1,o2⟩,e,a,b,c,y1,y2⟩:=W
  simp only at y1 y2
  subst y1
  exact ⟨a,b,c,o2,by rw [List.append_nil];exact e,y2⟩
 refine W.of (fun r hx=>Am.r45 hx) ?_
 ((refine W.nD d fun h1 d _ kh1=>?_);(refine W.nD d fun h2 d _ kh2=>?_);(with_reducible repeat refine W.a1 d ?_))
 have x2:SwA base oa ya G aa ats ra roots h2:=d.rs (i:=0) rfl
 obtain ⟨a,b,c,h3,e3,dq⟩:=l6Ends_run (base:=base) (all:=false) h2 G ats roots oa ya aa ra hG ha hz hr hrl x2 d.ge
 refine W.bs e3 ?_
 have d:=d.callR dq (by simp)
 generalize swp G ats roots false=X at d ⊢
 ((try simp only [n1,n2,n3,n4,n5,n6] at d);(with_reducible repeat first|refine W.a1 d ?_|refine W.a2 ?_|refine W.a3 ?_|refine W.a5 d fun hw d lw kw=>?_))
 exact W.ret ⟨a,b,c,rfl,(d.takeD 0).subR (List.sublist_append_right [_] [_,_,_])⟩
theorem specMajor_run {base:Nat}:SwpO base 38 true []:=by
 intro h G ats roots oa ya aa ra hG ha hz hr hrl x hb
 have d:=x.start hb
 suffices W:Wp (run (Et base) 38 [.agg (gensV oa ya G).toArray,.slice aa ats.length ats.length,.slice ra roots.length roots.length] h) fun o=>∃ a b c,o.1 = .tuple #[.agg (gensV a b (swp G ats roots true).1.1).toArray,.slice c (swp G ats roots true).1.2.length (swp G ats roots true).1.2.length,.bool (swp G ats roots true).2]∧Hs base NoB h o.2 [] [rW base a (swp G ats roots true).1.1.old,rW base b (swp G ats roots true).1.1.young,rW base c (swp G ats roots true).1.2] by
  obtain ⟨⟨o1,o2⟩,e,a,b,c,y1,y2⟩:=W
  simp only at y1 y2
  subst y1
  exact ⟨a,b,c,o2,by rw [List.append_nil];exact e,y2⟩
 refine W.of (fun r hx=>Am.r38 hx) ?_
 ((refine W.nD d fun h1 d _ kh1=>?_);(refine W.nD d fun h2 d _ kh2=>?_);(with_reducible repeat refine W.a1 d ?_))
 have x2:SwA base oa ya G aa ats ra roots h2:=d.rs (i:=0) rfl
 obtain ⟨a,b,c,h3,e3,dq⟩:=l6Ends_run (base:=base) (all:=true) h2 G ats roots oa ya aa ra hG ha hz hr hrl x2 d.ge
 refine W.bs e3 ?_
 have d:=d.callR dq (by simp)
 generalize swp G ats roots true=X at d ⊢
 ((try simp only [n1,n2,n3,n4,n5,n6] at d);(with_reducible repeat first|refine W.a1 d ?_|refine W.a2 ?_|refine W.a3 ?_|refine W.a5 d fun hw d lw kw=>?_))
 exact W.ret ⟨a,b,c,rfl,(d.takeD 0).subR (List.sublist_append_right [_] [_,_,_])⟩
theorem swp_len {G:Gn} {ats:List ByteArray} {roots:List Int} {all:Bool} (hG:G.Ok) (hrl:roots.length≤1048576):(swp G ats roots all).1.1.old.length≤1048576∧(swp G ats roots all).1.1.young.length≤1048576∧(swp G ats roots all).1.2.length≤1048576:=by
 unfold swp
 split
 ·rename_i ok
  obtain ⟨ho,hy,_,hf⟩:=gOk_parts ok
  split
  ·exact ⟨hG.1,hG.2.1,hrl⟩
  ·have q:=cpAll_in (all:=all) ho hy roots (sw0 G all) hf (sw0_in ho)
   have q1:=q.le true
   have q2:=q.le false
   simp only [Sw.len] at q1 q2
   refine ⟨?_,?_,?_⟩
   ·show (cpAll false G all 133 roots (sw0 G all)).2.old.length≤_
    simp at q1
    omega
   ·show (cpAll false G all 133 roots (sw0 G all)).2.young.length≤_
    simp at q2
    omega
   ·show (cpAll false G all 133 roots (sw0 G all)).1.length≤_
    rw [cpAll_len]
    exact hrl
 ·exact ⟨hG.1,hG.2.1,hrl⟩
def SwW (σ:Sw):Prop:=(∀ n∈σ.old,wOk n)∧∀ n∈σ.young,wOk n
theorem SwW.set {σ:Sw} (x:SwW σ) (o:Bool) (i:Nat) {v:Int} (hv:wOk v):SwW (σ.set o i v):=by
 have core:∀ (l:List Int),(∀ n∈l,wOk n)→∀ n∈l.set i v,wOk n:=fun l hl n hn=>by
  rcases List.mem_or_eq_of_mem_set hn with h|h
  ·exact hl n h
  ·rw [h];exact hv
 cases o
 ·exact ⟨x.1,core _ x.2⟩
 ·exact ⟨core _ x.1,x.2⟩
theorem SwW.app {σ:Sw} (x:SwW σ) (o:Bool) (k:Nat):SwW (σ.app o (List.replicate k 0)):=by
 have core:∀ (l:List Int),(∀ n∈l,wOk n)→∀ n∈l++List.replicate k 0,wOk n:=fun l hl n hn=>by
  rcases List.mem_append.1 hn with h|h
  ·exact hl n h
  ·rw [List.eq_of_mem_replicate h];exact ⟨by omega,by omega⟩
 cases o
 ·exact ⟨x.1,core _ x.2⟩
 ·exact ⟨core _ x.1,x.2⟩
theorem cpLoop_w {G:Gn} (hG:G.Ok) {w:Int} {o:Bool} {at_:Nat} {go:Int→Sw→Int×Sw} (hgo:∀ x,wOk x→∀ σ:Sw,SwW σ→wOk (go x σ).1∧SwW (go x σ).2):∀ (r i:Nat) (σ:Sw),SwW σ→SwW (cpLoop G w o at_ go r i σ)
 | 0,i,σ,x=>x
 | r+1,i,σ,x=>by
  rw [cpLoop]
  split
  ·obtain ⟨q1,q2⟩:=hgo _ (gwd_getD hG (valW w+(i:Int))) σ x
   exact cpLoop_w hG hgo r (i+1) _ (q2.set _ _ q1)
  ·exact cpLoop_w hG hgo r (i+1) _ (x.set _ _ (gwd_getD hG _))
theorem cp_w {G:Gn} (hG:G.Ok) {all:Bool}:∀ (n:Nat) (w:Int) (σ:Sw),wOk w→SwW σ→wOk (cp false G all n w σ).1∧SwW (cp false G all n w σ).2
 | 0,w,σ,h,x=>⟨h,x⟩
 | n+1,w,σ,h,x=>by
  rw [cp]
  split
  ·exact ⟨h,x⟩
  ·split
   ·exact ⟨mkW_ok _ _,x⟩
   ·refine ⟨mkW_ok _ _,cpLoop_w hG (fun y hy σ' x'=>cp_w hG n y σ' hy x') _ 0 _ ?_⟩
    have:=x.app (toO G all w) (wid G w).toNat
    exact this
theorem cpAll_w {G:Gn} (hG:G.Ok) {all:Bool} {n:Nat}:∀ (l:List Int) (σ:Sw),(∀ w∈l,wOk w)→SwW σ→(∀ w∈(cpAll false G all n l σ).1,wOk w)∧SwW (cpAll false G all n l σ).2
 | [],σ,_,x=>⟨fun w hw=>(nomatch hw),x⟩
 | w :: r,σ,h,x=>by
  rw [cpAll]
  obtain ⟨q1,q2⟩:=cp_w hG (all:=all) n w σ (h w (.head _)) x
  obtain ⟨q3,q4⟩:=cpAll_w hG r _ (fun v hv=>h v (.tail _ hv)) q2
  refine ⟨fun v hv=>?_,q4⟩
  rcases List.mem_cons.1 hv with rfl|hv
  ·exact q1
  ·exact q3 v hv
def Gw (X:Gn×List Int):Prop:=X.1.Ok∧(∀ w∈X.2,wOk w)∧X.2.length≤1048576
theorem swp_gw {G:Gn} {ats:List ByteArray} {roots:List Int} {all:Bool} (x:Gw (G,roots)):Gw (swp G ats roots all).1:=by
 obtain ⟨hG,hr,hrl⟩:=x
 obtain ⟨l1,l2,l3⟩:=swp_len (ats:=ats) (all:=all) hG hrl
 have core:(∀ n∈(swp G ats roots all).1.1.old,wOk n)∧(∀ n∈(swp G ats roots all).1.1.young,wOk n)∧∀ w∈(swp G ats roots all).1.2,wOk w:=by
  unfold swp
  split
  ·split
   ·exact ⟨hG.2.2.1,hG.2.2.2,hr⟩
   ·obtain ⟨q1,q2⟩:=cpAll_w hG (all:=all) (n:=133) roots (sw0 G all) hr ⟨fun n hn=>by
     unfold sw0 at hn
     simp only at hn
     split at hn
     ·cases hn
     ·exact hG.2.2.1 n hn,fun n hn=>by cases hn⟩
    exact ⟨q2.1,q2.2,q1⟩
  ·exact ⟨hG.2.2.1,hG.2.2.2,hr⟩
 exact ⟨⟨l1,l2,core.1,core.2.1⟩,core.2.2,l3⟩
theorem swp_not {G:Gn} {ats:List ByteArray} {roots:List Int} {all:Bool} (h:(swp G ats roots all).2=false):(swp G ats roots all).1=(G,roots):=by
 unfold swp at h ⊢
 split
 ·rename_i c
  rw [if_pos c] at h
  split
  ·rfl
  ·rename_i c2
   rw [if_neg c2] at h
   cases h
 ·rfl
def Iswl (G H:Gn) (π:Int→Int) (n:Nat):List Int→List Int→Prop
 | [],[]=>True
 | w :: l,v :: m=>Isw G H π n w v∧Iswl G H π n l m
 | _,_=>False
structure AlP (G:Gn) (all:Bool) (n:Nat) (l:List Int) (σ:Sw) (q:List Int×Sw):Prop where
 mono:∀ o,σ.len o≤q.2.len o
 sum:q.2.len true+q.2.len false=σ.len true+σ.len false+(l.flatMap (plsA G all n)).length
 keep:∀ o j,j<σ.len o→(q.2.l o)[j]? = (σ.l o)[j]?
 yng:(all=true∨G.mark=G.young.length)→q.2.len false=σ.len false
 to:∀ H,Fits G all σ q.2 H→Iswl G H (piS all) n l q.1∧(q.1.flatMap (pls H n)).Perm (rgs σ q.2++l.flatMap (plsS G all n))
theorem cpAll_fo {G:Gn} {all:Bool} {n:Nat} (ho:G.old.length≤1000) (hy:G.young.length≤1000):∀ (l:List Int) (σ:Sw),(∀ x∈l,Fub G n x∧dnW G n x=true)→(l.flatMap (pls G n)).Nodup→(∀ p∈l.flatMap (plsA G all n),σ.wn p=none)→σ.len true+σ.len false+(l.flatMap (plsA G all n)).length≤90000→AlP G all n l σ (cpAll false G all n l σ)
 | [],σ,hF,hn,hw,hb=>by
  rw [cpAll]
  refine ⟨fun _=>Nat.le_refl _,rfl,fun _ _ _=>rfl,fun _=>rfl,fun H _=>⟨trivial,?_⟩⟩
  rw [rgs_self]
  exact .nil
 | w :: r,σ,hF,hn,hw,hb=>by
  rw [cpAll]
  rw [List.flatMap_cons] at hn hw hb
  rw [List.length_append] at hb
  obtain ⟨hn1,hn2,hn3⟩:=List.nodup_append.1 hn
  have hx:=hF w (.head _)
  have P:=cp_fo ho hy n w σ hx.1 hx.2 hn1 (fun p hp=>hw p (List.mem_append_left _ hp)) (by omega)
  generalize cp false G all n w σ=q at P ⊢
  have R:=cpAll_fo ho hy r q.2 (fun x hx=>hF x (.tail _ hx)) hn2 (fun p hp=>by
   rw [P.wn p fun hq=>hn3 p (plsA_sub hq) p (fmA_sub hp) rfl]
   exact hw p (List.mem_append_right _ hp)) (by have:=P.sum;omega)
  generalize cpAll false G all n r q.2=τ at R ⊢
  refine ⟨fun p=>Nat.le_trans (P.mono p) (R.mono p),?_,fun p j hj=>?_,fun hy=>?_,fun H F=>?_⟩
  ·rw [List.flatMap_cons,List.length_append]
   have a:=R.sum
   have b:=P.sum
   simp only
   omega
  ·simp only
   rw [R.keep p j (Nat.lt_of_lt_of_le hj (P.mono p)),P.keep p j hj]
  ·simp only
   rw [R.yng hy,P.yng hy]
  ·have F1:Fits G all σ q.2 H:=⟨fun p j h1 h2=>by
    rw [F.new p j h1 (Nat.lt_of_lt_of_le h2 (R.mono p))]
    exact R.keep p j h2,F.old,fun h=>by have:=F.mrk h;have:=R.mono false;simp only at *;omega⟩
   have F2:Fits G all q.2 τ.2 H:=⟨fun p j h1 h2=>F.new p j (Nat.le_trans (P.mono p) h1) h2,F.old,F.mrk⟩
   obtain ⟨s1,s2⟩:=P.to H F1
   obtain ⟨r1,r2⟩:=R.to H F2
   refine ⟨⟨s1,r1⟩,?_⟩
   simp only
   rw [List.flatMap_cons,List.flatMap_cons]
   rw [List.perm_iff_count] at s2 r2 ⊢
   intro z
   have a:=s2 z
   have b:=r2 z
   have c:=rgs_cnt (σ:=σ) (m:=q.2) (τ:=τ.2) P.mono R.mono z
   simp only [List.count_append] at a b ⊢
   omega
def inG (G:Gn) (p:Int):Prop:=(0≤p∧p<G.old.length∧p<100000)∨(100000≤p∧p<100000+G.young.length)
theorem inG_of {G:Gn} {p:Int} (h:(gwd G p).isSome=true):inG G p:=by
 obtain ⟨v,e⟩:=Option.isSome_iff_exists.1 h
 unfold gwd at e
 split at e
 ·have:=(ati_ok e).2
  exact .inr (by omega)
 ·have:=(ati_ok e).2
  exact .inl (by omega)
theorem pls_in {G:Gn}:∀ (n:Nat) (w:Int),Fub G n w→∀ p∈pls G n w,inG G p
 | 0,w,h,_,_=>h.elim
 | n+1,w,h,p,hp=>by
  rw [pls] at hp
  by_cases l:leadW w=true
  ·rw [if_pos l] at hp
   obtain ⟨nd,b6,hc⟩:=h
   rcases List.mem_append.1 hp with hp|hp
   ·have:=rgI_mem.1 hp
    have hs:=wid_some nd b6 l (i:=(p-valW w).toNat) (by omega)
    rw [show valW w+(((p-valW w).toNat:Nat):Int)=p from by omega] at hs
    exact inG_of hs
   ·obtain ⟨x,hx,hp⟩:=List.mem_flatMap.1 hp
    exact pls_in n x (hc x (ptW_ch hx)) p hp
  ·rw [if_neg l] at hp;cases hp
theorem plsA_young {G:Gn}:∀ (n:Nat) (w p:Int),p∈plsA G false n w→100000≤p
 | 0,w,p,h=>by cases h
 | n+1,w,p,h=>by
  rw [plsA] at h
  by_cases c:stay G false w=true
  ·rw [if_pos c] at h;cases h
  ·rw [if_neg c] at h
   rcases List.mem_append.1 h with h|h
   ·have:=rgI_mem.1 h
    have hp:¬prt G (valW w)=0:=fun e=>c (by unfold stay;rw [stay_lead c,e];rfl)
    unfold prt at hp
    by_cases c1:valW w<100000
    ·rw [if_pos c1] at hp;exact absurd rfl hp
    ·omega
   ·obtain ⟨x,hx,h⟩:=List.mem_flatMap.1 h
    exact plsA_young n x p h
theorem pls_old {G:Gn} (ho:G.old.length≤1000):∀ (n:Nat) (w:Int),Fub G n w→dnW G n w=true→(leadW w=true→prt G (valW w)=0)→∀ p∈pls G n w,p<100000
 | 0,w,h,_,_,_,_=>h.elim
 | n+1,w,h,hd,hp,p,hm=>by
  have hi:=pls_in (n+1) w h p hm
  rw [pls] at hm
  by_cases l:leadW w=true
  ·rw [if_pos l] at hm
   obtain ⟨nd,b6,hc⟩:=h
   have hp0:=prtZ (hp l)
   obtain ⟨w1,w2⟩:=wid_le nd l
   have h0:=inG_of (nd.some l)
   rcases List.mem_append.1 hm with hm|hm
   ·have:=rgI_mem.1 hm
    unfold inG at h0
    omega
   ·obtain ⟨x,hx,hm⟩:=List.mem_flatMap.1 hm
    have hx:=ptW_ch hx
    rw [dnW,l] at hd
    simp only [Bool.not_true,Bool.false_or,List.all_eq_true] at hd
    have q:=hd x hx
    simp only [Bool.and_eq_true,Bool.not_eq_true',Bool.and_eq_false_iff,decide_eq_false_iff_not] at q
    refine pls_old ho n x (hc x hx) q.2 (fun lx=>?_) p hm
    rcases q.1 with q|q
    ·rw [lx] at q;cases q
    ·have:=(prt_le G (valW x)).1
     have:=hp l
     omega
  ·rw [if_neg l] at hm;cases hm
theorem plsS_old {G:Gn} (ho:G.old.length≤1000):∀ (n:Nat) (w:Int),Fub G n w→dnW G n w=true→∀ p∈plsS G false n w,p<100000
 | 0,w,h,_,_,_=>h.elim
 | n+1,w,h,hd,p,hm=>by
  rw [plsS] at hm
  by_cases c:stay G false w=true
  ·rw [if_pos c] at hm
   refine pls_old ho (n+1) w h hd (fun l=>?_) p hm
   unfold stay at c
   rw [l] at c
   simpa using c
  ·rw [if_neg c] at hm
   obtain ⟨x,hx,hm⟩:=List.mem_flatMap.1 hm
   have hx:=ptW_ch hx
   rw [dnW,stay_lead c] at hd
   simp only [Bool.not_true,Bool.false_or,List.all_eq_true] at hd
   have q:=hd x hx
   simp only [Bool.and_eq_true] at q
   exact plsS_old ho n x (h.2.2 x hx) q.2 p hm
theorem plsS_none {G:Gn}:∀ (n:Nat) (w:Int),plsS G true n w = []
 | 0,w=>rfl
 | n+1,w=>by
  rw [plsS]
  by_cases c:stay G true w=true
  ·rw [if_pos c,pls,if_neg]
   intro l
   unfold stay at c
   rw [l] at c
   simp at c
  ·rw [if_neg c]
   rw [fm_congr (g:=fun _=>[]) _ fun x _=>plsS_none n x]
   simp
theorem nd_len:∀ (l m:List Int),l.Nodup→(∀ x∈l,x∈m)→l.length≤m.length
 | [],m,_,_=>Nat.zero_le _
 | x :: l,m,h,hs=>by
  rw [List.nodup_cons] at h
  have hx:=hs x (.head _)
  have:=nd_len l (m.erase x) h.2 fun y hy=>(List.mem_erase_of_ne (show y≠x from fun e=>h.1 (e ▸ hy))).2 (hs y (.tail _ hy))
  rw [List.length_erase_of_mem hx] at this
  have:=List.length_pos_of_mem hx
  rw [List.length_cons]
  omega
theorem inG_len {G:Gn} {l:List Int} (hn:l.Nodup) (h:∀ p∈l,inG G p):l.length≤G.old.length+G.young.length:=by
 have:=nd_len l (rgI 0 G.old.length++rgI 100000 G.young.length) hn fun p hp=>by
  have:=h p hp
  unfold inG at this
  rw [List.mem_append,rgI_mem,rgI_mem]
  omega
 rwa [List.length_append,rgI_len,rgI_len] at this
theorem inG_leny {G:Gn} {l:List Int} (hn:l.Nodup) (h:∀ p∈l,inG G p∧100000≤p):l.length≤G.young.length:=by
 have:=nd_len l (rgI 100000 G.young.length) hn fun p hp=>by
  have:=h p hp
  unfold inG at this
  rw [rgI_mem]
  omega
 rwa [rgI_len] at this
structure Fo (G:Gn) (ats:List ByteArray) (roots:List Int):Prop where
 ok:gOk G ats roots=true
 nd:(roots.flatMap (pls G 133)).Nodup
theorem Fo.root {G:Gn} {ats:List ByteArray} {roots:List Int} (x:Fo G ats roots):∀ w∈roots,rootOk G ats w=true∧Fub G 133 w∧dnW G 133 w=true:=fun w hw=>by
 have h:=x.ok
 unfold gOk at h
 simp only [Bool.and_eq_true,List.all_eq_true] at h
 have r:=h.2 w hw
 have r0:=r
 unfold rootOk at r
 simp only [Bool.and_eq_true] at r
 exact ⟨r0,gOk_fub x.ok w hw,r.2⟩
theorem Fo.pin {G:Gn} {ats:List ByteArray} {roots:List Int} (x:Fo G ats roots):∀ p∈roots.flatMap (pls G 133),inG G p:=fun p hp=>by
 obtain ⟨w,hw,hp⟩:=List.mem_flatMap.1 hp
 exact pls_in 133 w (x.root w hw).2.1 p hp
theorem Fo.ndA {G:Gn} {ats:List ByteArray} {roots:List Int} (x:Fo G ats roots) (all:Bool):(roots.flatMap (plsA G all 133)).Nodup∧(roots.flatMap (plsS G all 133)).Nodup:=by
 have h:=(fm_split (f:=pls G 133) (g:=plsA G all 133) (h:=plsS G all 133) roots fun w _=>pls_split 133 w).nodup_iff.1 x.nd
 have:=List.nodup_append.1 h
 exact ⟨this.1,this.2.1⟩
theorem Fo.lenA {G:Gn} {ats:List ByteArray} {roots:List Int} (x:Fo G ats roots) (all:Bool):(roots.flatMap (plsA G all 133)).length≤G.old.length+G.young.length∧(all=false→(roots.flatMap (plsA G all 133)).length≤G.young.length):=by
 refine ⟨inG_len (x.ndA all).1 fun p hp=>x.pin p (fmA_sub hp),fun e=>inG_leny (x.ndA all).1 fun p hp=>⟨x.pin p (fmA_sub hp),?_⟩⟩
 subst e
 obtain ⟨w,hw,hp⟩:=List.mem_flatMap.1 hp
 exact plsA_young 133 w p hp
theorem Fo.run {G:Gn} {ats:List ByteArray} {roots:List Int} (x:Fo G ats roots) (all:Bool):AlP G all 133 roots (sw0 G all) (cpAll false G all 133 roots (sw0 G all)):=by
 obtain ⟨h1,h2,h3,_⟩:=gOk_parts x.ok
 have hl:=(x.lenA all).1
 have s0:(sw0 G all).len true≤1000:=by cases all with
  | true=>exact Nat.zero_le _
  | false=>exact h1
 have s1:(sw0 G all).len false=0:=rfl
 exact cpAll_fo h1 h2 roots (sw0 G all) (fun w hw=>(x.root w hw).2) x.nd (fun _ _=>rfl) (by omega)
theorem Iswl.mem {G H:Gn} {π:Int→Int} {n:Nat}:∀ {l m:List Int},Iswl G H π n l m→∀ v∈m,∃ w∈l,Isw G H π n w v
 | [],[],_,v,hv=>by cases hv
 | w :: l,u :: m,h,v,hv=>by
  rcases List.mem_cons.1 hv with rfl|hv
  ·exact ⟨w,.head _,h.1⟩
  ·obtain ⟨w',a,b⟩:=Iswl.mem h.2 v hv
   exact ⟨w',.tail _ a,b⟩
 | [],_ :: _,h,_,_=>h.elim
 | _ :: _,[],h,_,_=>h.elim
theorem Iswl.len {G H:Gn} {π:Int→Int} {n:Nat}:∀ {l m:List Int},Iswl G H π n l m→m.length=l.length
 | [],[],_=>rfl
 | w :: l,u :: m,h=>by rw [List.length_cons,List.length_cons,Iswl.len h.2]
 | [],_ :: _,h=>h.elim
 | _ :: _,[],h=>h.elim
theorem Iswl.get {G H:Gn} {π:Int→Int} {n:Nat}:∀ {l m:List Int},Iswl G H π n l m→∀ i (hi:i<l.length) (hj:i<m.length),Isw G H π n l[i] m[i]
 | [],[],_,i,hi,_=>by cases hi
 | w :: l,u :: m,h,0,hi,hj=>h.1
 | w :: l,u :: m,h,i+1,hi,hj=>Iswl.get h.2 i (Nat.lt_of_succ_lt_succ hi) (Nat.lt_of_succ_lt_succ hj)
 | [],_ :: _,h,_,_,_=>h.elim
 | _ :: _,[],h,_,_,_=>h.elim
theorem rd_isw {G H:Gn} {π:Int→Int} {ats:List ByteArray} {w v:Int} (h:Isw G H π 133 w v):gRd H ats v=gRd G ats w:=by
 unfold gRd
 rw [rdT_isw 6 133 w v 0 h]
structure SwO (G:Gn) (ats:List ByteArray) (roots:List Int) (all:Bool) (H:Gn) (ws:List Int):Prop where
 fo:Fo H ats ws
 isw:Iswl G H (piS all) 133 roots ws
 tot:H.old.length+H.young.length=(if all=true then 0 else G.old.length)+(roots.flatMap (plsA G all 133)).length
 yng:(all=true∨G.mark=G.young.length)→H.young.length=0
 mrk:H.mark=H.young.length
 perm:∃ n,(ws.flatMap (pls H 133)).Perm ((rgI (if all=true then 0 else G.old.length) n++rgI 100000 H.young.length)++roots.flatMap (plsS G all 133))∧(n:Int)≤1000
theorem swp_fo {G:Gn} {ats:List ByteArray} {roots:List Int} {all:Bool} (x:Fo G ats roots) (h:(swp G ats roots all).2=true):SwO G ats roots all (swp G ats roots all).1.1 (swp G ats roots all).1.2:=by
 obtain ⟨h1,h2,h3,_⟩:=gOk_parts x.ok
 have L:=x.run all
 unfold swp at h ⊢
 rw [if_pos x.ok] at h ⊢
 by_cases c:((cpAll false G all 133 roots (sw0 G all)).2.old.length:Int)>1000
 ·rw [if_pos (decide_eq_true c)] at h;cases h
 rw [if_neg (by simpa using c)]
 generalize cpAll false G all 133 roots (sw0 G all)=q at L c ⊢
 simp only
 have s0:(sw0 G all).len true=if all=true then 0 else G.old.length:=by cases all<;>rfl
 have s1:(sw0 G all).len false=0:=rfl
 have F:Fits G all (sw0 G all) q.2 ⟨q.2.old,q.2.young,q.2.young.length⟩:=⟨fun o j _ _=>by cases o<;>rfl,fun e j hj=>by
  have:=L.keep true j (by rw [s0,e];exact hj)
  subst e
  exact this,fun _=>Int.le_refl _⟩
 obtain ⟨t1,t2⟩:=L.to _ F
 have sum:=L.sum
 rw [s0,s1] at sum
 have la:=x.lenA all
 have ly:q.2.young.length≤1000:=by
  cases all with
  | true=>
   have:=L.yng (.inl rfl)
   rw [s1] at this
   show q.2.len false≤_
   omega
  | false=>
   have a:=la.2 rfl
   have b:=L.mono true
   rw [s0] at b
   simp only [if_neg (show ¬(false=true) by decide)] at sum b
   show q.2.len false≤_
   omega
 have lo:q.2.old.length≤1000:=by omega
 have fo:Fo ⟨q.2.old,q.2.young,q.2.young.length⟩ ats q.1:=by
  refine ⟨?_,?_⟩
  ·have hk:=x.ok
   unfold gOk at hk ⊢
   simp only [Bool.and_eq_true,Bool.not_eq_true',List.all_eq_true] at hk ⊢
   obtain ⟨_,_,_,ha⟩:=gHead_ok hk.1
   refine ⟨?_,fun v hv=>?_⟩
   ·unfold gHead
    simp only
    rw [if_neg (by simp;omega),if_neg (by simp;omega),if_neg (by unfold inB;simp),ha]
    rfl
   ·obtain ⟨w,hw,i⟩:=t1.mem v hv
    have r:=(x.root w hw).1
    unfold rootOk at r ⊢
    simp only [Bool.and_eq_true] at r ⊢
    exact ⟨by rw [rd_isw i];exact r.1,dnW_isw (piS_mono all) 133 w v i r.2⟩
  ·rw [t2.nodup_iff]
   unfold rgs
   rw [s0,s1]
   rw [List.nodup_append,List.nodup_append]
   refine ⟨⟨rgI_nodup _ _,rgI_nodup _ _,fun a ha b hb e=>?_⟩,(x.ndA all).2,fun a ha b hb e=>?_⟩
   ·have:=rgI_mem.1 ha
    have:=rgI_mem.1 hb
    have:q.2.len true≤1000:=lo
    omega
   ·subst e
    cases all with
    | true=>
     rw [fm_congr (g:=fun _=>[]) _ fun w _=>plsS_none 133 w] at hb
     simp at hb
    | false=>
     have hin:=x.pin a ((fm_split (f:=pls G 133) (g:=plsA G false 133) (h:=plsS G false 133) roots fun w _=>pls_split 133 w).mem_iff.2 (List.mem_append_right _ hb))
     obtain ⟨w,hw,hb⟩:=List.mem_flatMap.1 hb
     have:=plsS_old h1 133 w (x.root w hw).2.1 (x.root w hw).2.2 a hb
     unfold inG at hin
     rw [if_neg (by decide)] at ha
     rcases List.mem_append.1 ha with ha|ha
     ·have:=rgI_mem.1 ha;omega
     ·have:=rgI_mem.1 ha;omega
 refine ⟨fo,t1,sum,fun hy=>?_,rfl,q.2.len true-(if all=true then 0 else G.old.length),?_,?_⟩
 ·have:=L.yng hy
  rw [s1] at this
  exact this
 ·have e:rgs (sw0 G all) q.2=rgI (if all=true then 0 else G.old.length) (q.2.len true-(if all=true then 0 else G.old.length))++rgI 100000 q.2.young.length:=by
   unfold rgs
   rw [s0,s1,Nat.sub_zero]
   congr 1
   split<;>rfl
  rw [← e]
  exact t2
 ·have:q.2.len true≤1000:=lo
  omega
def Hat (H:Gn) (b:Int) (s:List Int):Prop:=∀ i (hi:i<s.length),gwd H (b+(i:Int))=some s[i]
theorem Hat.app {H:Gn} {b:Int} {s t:List Int} (h:Hat H b (s++t)):Hat H b s∧Hat H (b+s.length) t:=by
 refine ⟨fun i hi=>?_,fun i hi=>?_⟩
 ·rw [h i (by rw [List.length_append];omega),List.getElem_append_left hi]
 ·have:=h (s.length+i) (by rw [List.length_append];omega)
  rw [List.getElem_append_right (by omega)] at this
  simp only [Nat.add_sub_cancel_left] at this
  rw [← this]
  congr 1
  omega
theorem Hat.head {H:Gn} {b x:Int} {s:List Int} (h:Hat H b (x :: s)):gwd H b=some x∧Hat H (b+1) s:=by
 refine ⟨?_,fun i hi=>?_⟩
 ·have:=h 0 (by simp)
  rw [show b+((0:Nat):Int)=b from by omega] at this
  exact this
 ·have:=h (i+1) (by simpa using hi)
  rw [show b+((i+1:Nat):Int)=b+1+(i:Int) from by omega] at this
  exact this
def AtP (l l':List ByteArray):Prop:=∀ (i:Nat) (s:ByteArray),l[i]? = some s→l'[i]? = some s
theorem AtP.refl (l:List ByteArray):AtP l l:=fun _ _ h=>h
theorem AtP.trans {a b c:List ByteArray} (h:AtP a b) (k:AtP b c):AtP a c:=fun i s e=>k i s (h i s e)
theorem addA_pre (l:List ByteArray) (s:ByteArray):AtP l (addA l s).1:=by
 unfold addA
 split
 ·exact .refl _
 ·split
  ·exact .refl _
  ·split
   ·exact .refl _
   ·intro i x e
    simp only
    have:=(List.getElem?_eq_some_iff.1 e).1
    rw [List.getElem?_append_left this]
    exact e
theorem ba_ext {a b:ByteArray} (h:a.toList=b.toList):a=b:=by
 rw [toList_data,toList_data] at h
 cases a;cases b
 simp only [ByteArray.mk.injEq]
 exact Array.ext' h
theorem aix_at (s:ByteArray):∀ (l:List ByteArray) (k:Nat),0≤aix s l k→(k:Int)≤aix s l k∧l[(aix s l k).toNat-k]? = some s
 | [],k,h=>by unfold aix at h;omega
 | x :: r,k,h=>by
  rw [aix] at h ⊢
  by_cases c:(x.toList==s.toList)=true
  ·rw [if_pos c]
   have e:x=s:=ba_ext (by simpa using c)
   refine ⟨Int.le_refl _,?_⟩
   rw [show ((k:Int)).toNat-k=0 from by omega,e]
   rfl
  ·rw [if_neg c] at h ⊢
   obtain ⟨a,b⟩:=aix_at s r (k+1) h
   refine ⟨by omega,?_⟩
   rw [show (aix s r (k+1)).toNat-k=((aix s r (k+1)).toNat-(k+1))+1 from by omega,List.getElem?_cons_succ]
   exact b
theorem addA_at {l:List ByteArray} {s:ByteArray} (h:0≤(addA l s).2):(addA l s).1[(addA l s).2.toNat]? = some s∧(addA l s).2≤max l.length 200:=by
 unfold addA at h ⊢
 by_cases c:aix s l 0≥0
 ·rw [if_pos c]
  have:=aix_at s l 0 c
  simp only
  refine ⟨this.2,?_⟩
  have:=(aix_le s l 0).2
  omega
 ·rw [if_neg c] at h ⊢
  by_cases c1:(!atomOk s)=true
  ·rw [if_pos c1] at h;simp only at h;omega
  ·rw [if_neg c1] at h ⊢
   by_cases c2:decide ((l.length:Int)≥200)=true
   ·rw [if_pos c2] at h;simp only at h;omega
   ·rw [if_neg c2]
    simp only
    refine ⟨?_,by omega⟩
    rw [show ((l.length:Nat):Int).toNat=l.length from by omega]
    simp
theorem atAny_iff {l:List ByteArray}:∀ (r i:Nat),atAny l r i=false↔∀ j,i≤j→j<i+r→atBad l j=false
 | 0,i=>⟨fun _ j _ _=>by omega,fun _=>rfl⟩
 | r+1,i=>by
  rw [atAny,Bool.or_eq_false_iff,atAny_iff r (i+1)]
  constructor
  ·rintro ⟨a,b⟩ j h1 h2
   rcases Nat.lt_or_eq_of_le h1 with h|h
   ·exact b j h (by omega)
   ·exact h ▸ a
  ·intro h
   exact ⟨h i (Nat.le_refl _) (by omega),fun j h1 h2=>h j (by omega) (by omega)⟩
theorem addA_ok {l:List ByteArray} {s:ByteArray} (h:atsOk l=true):atsOk (addA l s).1=true:=by
 unfold addA
 by_cases c:aix s l 0≥0
 ·rw [if_pos c];exact h
 rw [if_neg c]
 by_cases c1:(!atomOk s)=true
 ·rw [if_pos c1];exact h
 rw [if_neg c1]
 by_cases c2:decide ((l.length:Int)≥200)=true
 ·rw [if_pos c2];exact h
 rw [if_neg c2]
 have c2:¬(l.length:Int)≥200:=by simpa using c2
 have c1:atomOk s=true:=by simpa using c1
 unfold atsOk at h ⊢
 simp only [Bool.and_eq_true,Bool.not_eq_true',decide_eq_true_eq] at h ⊢
 obtain ⟨h1,h2⟩:=h
 refine ⟨?_,by simp;omega⟩
 rw [atAny_iff] at h1 ⊢
 intro j _ hj
 simp only [List.length_append,List.length_singleton] at hj
 rcases Nat.lt_or_ge j l.length with q|q
 ·have:=h1 j (Nat.zero_le _) (by omega)
  unfold atBad at this ⊢
  have e:(l++[s]).getD j ⟨#[]⟩=l.getD j ⟨#[]⟩:=by simp [List.getD,List.getElem?_append_left q]
  rw [e,List.take_append_of_le_length (by omega)]
  exact this
 ·have ej:j=l.length:=by omega
  subst ej
  unfold atBad
  have e:(l++[s]).getD l.length ⟨#[]⟩=s:=by simp [List.getD]
  rw [e,c1,List.take_append_of_le_length (Nat.le_refl _),List.take_length,← aix_nn s l 0]
  simp
  omega
theorem sh_eq {k n:Int} {s:ByteArray} {l:List Tm} (h:shB k n s l.length=true):(k=1→s=⟨#[]⟩∧l = [])∧(k=2→n=0∧l = [])∧(k=3→s=⟨#[]⟩∧l = [])∧(k=4→n=0∧s=⟨#[]⟩)∧(k=5→n=0∧s=⟨#[]⟩)∧(k=6→n=0∧l = []):=by
 have em:(s.toList==(⟨#[]⟩:ByteArray).toList)=true→s=⟨#[]⟩:=fun h=>ba_ext (by simpa using h)
 have ln:(((l.length:Nat):Int)==(0:Int))=true→l = []:=fun h=>by
  have:((l.length:Nat):Int)=0:=by simpa using h
  exact List.length_eq_zero_iff.1 (by omega)
 have n0:(n==(0:Int))=true→n=0:=fun h=>by simpa using h
 refine ⟨fun e=>?_,fun e=>?_,fun e=>?_,fun e=>?_,fun e=>?_,fun e=>?_⟩
 all_goals
  subst e
  unfold shB at h
  simp only [beq_self_eq_true,if_true,show ((2:Int)==1)=false from by decide,show ((3:Int)==1)=false from by decide,show ((3:Int)==2)=false from by decide,show ((4:Int)==1)=false from by decide,show ((4:Int)==2)=false from by decide,show ((4:Int)==3)=false from by decide,show ((5:Int)==1)=false from by decide,show ((5:Int)==2)=false from by decide,show ((5:Int)==3)=false from by decide,show ((5:Int)==4)=false from by decide,show ((6:Int)==1)=false from by decide,show ((6:Int)==2)=false from by decide,show ((6:Int)==3)=false from by decide,show ((6:Int)==4)=false from by decide,show ((6:Int)==5)=false from by decide,Bool.false_eq_true,if_false,Bool.and_eq_true] at h
 ·exact ⟨em h.1.2,ln h.2⟩
 ·exact ⟨n0 h.1.1,ln h.2⟩
 ·exact ⟨em h.1.2,ln h.2⟩
 ·exact ⟨n0 h.1.1,em h.1.2⟩
 ·exact ⟨n0 h.1.1,em h.1.2⟩
 ·exact ⟨n0 h.1.1,ln h.2⟩
structure RdP (H:Gn) (ats:List ByteArray) (d:Nat) (w:Int) (t:Tm) (c c' b:Int) (m:Nat):Prop where
 rd:rdT chkI H ats d w c=some (t,c')
 pl:∀ n,22*d≤n→(pls H n w).Perm (rgI b m)
 dn:∀ n,100000+H.mark≤b→dnW H n w=true
def RdLs (H:Gn) (ats:List ByteArray) (d:Nat):List Int→List Tm→Int→Int→Int→Nat→Prop
 | [],[],c,c',_,m=>c'=c∧m=0
 | w :: ws,t :: l,c,c',b,m=>∃ c1 m1 m2,RdP H ats d w t c c1 b m1∧RdLs H ats d ws l c1 c' (b+m1) m2∧m=m1+m2
 | _,_,_,_,_,_=>False
theorem RdLs.rds {H:Gn} {ats:List ByteArray} {d:Nat}:∀ {ws:List Int} {l:List Tm} {c c' b:Int} {m:Nat} (p:Int),RdLs H ats d ws l c c' b m→Hat H p ws→rdS H (rdT chkI H ats d) l.length p c=some (l,c')
 | [],[],_,_,_,_,p,h,_=>by rw [h.1];rfl
 | w :: ws,t :: l,c,c',b,m,p,h,hp=>by
  obtain ⟨c1,m1,m2,h1,h2,_⟩:=h
  obtain ⟨e,hp⟩:=hp.head
  rw [List.length_cons,rdS,e,Option.bind_some,h1.rd,Option.bind_some]
  simp only
  rw [RdLs.rds (p+1) h2 hp]
  rfl
 | [],_ :: _,_,_,_,_,_,h,_=>h.elim
 | _ :: _,[],_,_,_,_,_,h,_=>h.elim
theorem RdLs.pls {H:Gn} {ats:List ByteArray} {d n:Nat} (hn:22*d≤n):∀ {ws:List Int} {l:List Tm} {c c' b:Int} {m:Nat},RdLs H ats d ws l c c' b m→(ws.flatMap (Am.pls H n)).Perm (rgI b m)
 | [],[],_,_,_,_,h=>by rw [h.2];exact .nil
 | w :: ws,t :: l,c,c',b,m,h=>by
  obtain ⟨c1,m1,m2,h1,h2,rfl⟩:=h
  rw [List.flatMap_cons,← rgI_app]
  exact (h1.pl n hn).append (RdLs.pls hn h2)
 | [],_ :: _,_,_,_,_,h=>h.elim
 | _ :: _,[],_,_,_,_,h=>h.elim
theorem RdLs.dn {H:Gn} {ats:List ByteArray} {d n:Nat}:∀ {ws:List Int} {l:List Tm} {c c' b:Int} {m:Nat},RdLs H ats d ws l c c' b m→100000+H.mark≤b→∀ w∈ws,dnW H n w=true
 | [],[],_,_,_,_,h,_,w,hw=>by cases hw
 | w :: ws,t :: l,c,c',b,m,h,hb,v,hv=>by
  obtain ⟨c1,m1,m2,h1,h2,rfl⟩:=h
  rcases List.mem_cons.1 hv with rfl|hv
  ·exact h1.dn n hb
  ·exact RdLs.dn h2 (by omega) v hv
 | [],_ :: _,_,_,_,_,h,_,_,_=>h.elim
 | _ :: _,[],_,_,_,_,h,_,_,_=>h.elim
theorem dn_node {H:Gn} {n:Nat} {w:Int} (hm:0≤H.mark) (hp:100000+H.mark≤valW w) (h:∀ x∈chW H w,dnW H n x=true):dnW H (n+1) w=true:=by
 have e:prt H (valW w)=2:=by unfold prt;rw [if_neg (by omega),if_neg (by omega)]
 rw [dnW,e,Bool.or_eq_true]
 refine .inr (List.all_eq_true.2 fun x hx=>?_)
 rw [h x hx,Bool.and_true,Bool.not_eq_true',Bool.and_eq_false_iff]
 refine .inr (decide_eq_false ?_)
 have:=(prt_le H (valW x)).2
 omega
theorem chW_5 {H:Gn} {w x y:Int} (h5:tagW w=5) (e1:gwd H (valW w)=some x) (e2:gwd H (valW w+1)=some y):chW H w = [x,y]:=by
 unfold chW
 rw [if_pos h5,e1,e2]
 rfl
theorem pls_5 {H:Gn} {n:Nat} {w x y:Int} (h5:tagW w=5) (e1:gwd H (valW w)=some x) (e2:gwd H (valW w+1)=some y):pls H (n+1) w=rgI (valW w) 2++(pls H n x++pls H n y):=by
 have hw:wid H w=2:=by unfold wid;rw [if_pos h5]
 have ip:∀ i,isPt w i=true:=fun i=>by unfold isPt;rw [h5];rfl
 rw [pls,if_pos (lead_of (.inr (.inl h5))),hw]
 show rgI _ 2++(ptW H w 2 0).flatMap _=_
 rw [ptW,if_pos (ip 0),ptW,if_pos (ip 1),ptW,show valW w+((0:Nat):Int)=valW w from by omega,e1]
 show rgI _ 2++([x,(gwd H (valW w+((0+1:Nat):Int))).getD 0]:List Int).flatMap _=_
 rw [show valW w+((0+1:Nat):Int)=valW w+1 from by omega,e2]
 simp
theorem RdLs.rdl {H:Gn} {ats:List ByteArray} {d:Nat} (hm:0≤H.mark):∀ {ws:List Int} {l:List Tm} {c c' b:Int} {m:Nat} (q:Int) (k:Nat),RdLs H ats d ws l c c' b m→ws≠[]→ws.length≤k→Hat H q (lnk q ws)→0≤q→q+2*ws.length≤1000000 →
  rdL H (rdT chkI H ats d) k (mkW 5 q) c=some (l,c')∧(∀ n,22*d+ws.length≤n→(Am.pls H n (mkW 5 q)).Perm (rgI q (2*ws.length)++rgI b m))∧(∀ n,100000+H.mark≤b→100000+H.mark≤q→dnW H n (mkW 5 q)=true)
 | [],[],_,_,_,_,_,_,_,h,_,_,_,_=>absurd rfl h
 | w :: ws,t :: l,c,c',b,m,q,0,h,_,hk,_,_,_=>by simp at hk
 | w :: ws,t :: l,c,c',b,m,q,k+1,h,_,hk,hat,q0,q1=>by
  obtain ⟨c1,m1,m2,h1,h2,rfl⟩:=h
  rw [List.length_cons] at hk q1
  obtain ⟨tg,vl,nn,_⟩:=mk_tag (t:=5) (v:=q) (by omega) (by omega)
  rw [lnk] at hat
  obtain ⟨g0,hat⟩:=hat.head
  obtain ⟨g1,hat⟩:=hat.head
  have hne:¬mkW 5 q=3:=fun e=>by rw [e] at tg;exact absurd tg (by decide)
  have hno:¬(mkW 5 q<0∨tagW (mkW 5 q)≠5):=fun h=>h.elim (fun h=>by omega) fun h=>h tg
  have g0:gwd H (valW (mkW 5 q))=some w:=by rw [vl];exact g0
  have g1:gwd H (valW (mkW 5 q)+1)=some (if ws = [] then 3 else mkW 5 (q+2)):=by rw [vl];exact g1
  have step:∀ {y:List Tm×Int},rdL H (rdT chkI H ats d) k (if ws = [] then 3 else mkW 5 (q+2)) c1=some y→rdL H (rdT chkI H ats d) (k+1) (mkW 5 q) c=some (t :: y.1,y.2):=fun {y} e=>by
   rw [rdL_s,if_neg hne,if_neg hno,g0,Option.bind_some,h1.rd,Option.bind_some,g1,Option.bind_some]
   simp only
   rw [e]
   rfl
  have ch:=chW_5 tg g0 g1
  by_cases hw:ws = []
  ·subst hw
   rw [if_pos rfl] at g1 step ch
   cases l with
   | cons _ _=>exact h2.elim
   | nil=>
   obtain ⟨rfl,rfl⟩:=h2
   refine ⟨step (y:=([],_)) (by rw [rdL_off (by decide),if_pos rfl]),fun n hn=>?_,fun n hb hq=>?_⟩
   ·cases n with
    | zero=>simp at hn
    | succ n=>
     simp only [List.length_cons,List.length_nil] at hn
     rw [pls_5 tg g0 g1,vl]
     have e3:Am.pls H n 3 = []:=by
      cases n with
      | zero=>rfl
      | succ n=>rw [Am.pls,if_neg (by decide)]
     rw [e3,List.append_nil,Nat.add_zero]
     exact .append_left _ (h1.pl n (by omega))
   ·cases n with
    | zero=>rfl
    | succ n=>
     refine dn_node hm (by rw [vl];exact hq) fun x hx=>?_
     rw [ch] at hx
     simp only [List.mem_cons,List.not_mem_nil,or_false] at hx
     rcases hx with rfl|rfl
     ·exact h1.dn n hb
     ·cases n with
      | zero=>rfl
      | succ n=>rw [dnW];rfl
  ·rw [if_neg hw] at g1 step ch
   have e2:q+1+1=q+2:=by omega
   rw [e2] at hat
   obtain ⟨r1,r2,r3⟩:=RdLs.rdl hm (q+2) k h2 hw (by omega) hat (by omega) (by omega)
   refine ⟨step r1,fun n hn=>?_,fun n hb hq=>?_⟩
   ·cases n with
    | zero=>simp at hn
    | succ n=>
     rw [List.length_cons] at hn
     rw [pls_5 tg g0 g1,vl]
     have a:=h1.pl n (by omega)
     have b':=r2 n (by omega)
     have e1:rgI q (2*(w :: ws).length)=rgI q 2++rgI (q+2) (2*ws.length):=by
      rw [show q+2=q+((2:Nat):Int) from rfl,rgI_app]
      congr 1
      rw [List.length_cons]
      omega
     rw [e1,← rgI_app b m1 m2]
     rw [List.perm_iff_count] at a b' ⊢
     intro z
     have a:=a z
     have b':=b' z
     simp only [List.count_append] at a b' ⊢
     omega
   ·cases n with
    | zero=>rfl
    | succ n=>
     refine dn_node hm (by rw [vl];exact hq) fun x hx=>?_
     rw [ch] at hx
     simp only [List.mem_cons,List.not_mem_nil,or_false] at hx
     rcases hx with rfl|rfl
     ·exact h1.dn n hb
     ·exact r3 n (by omega) (by omega)
 | [],_ :: _,_,_,_,_,_,_,h,_,_,_,_,_=>h.elim
 | _ :: _,[],_,_,_,_,_,_,h,_,_,_,_,_=>h.elim
theorem sgT_pre {g:Int→List ByteArray→Tm→Sg} (h:∀ b ats t,AtP ats (g b ats t).ats):∀ (l:List Tm) (b:Int) (ats:List ByteArray),AtP ats (sgT g l b ats).ats
 | [],b,ats=>.refl _
 | t :: r,b,ats=>by
  rw [sgT]
  exact (h b ats t).trans (sgT_pre h r _ _)
theorem sg_pre:∀ (f:Nat) (b:Int) (ats:List ByteArray) (t:Tm),AtP ats (sg f b ats t).ats
 | 0,b,ats,t=>.refl _
 | f+1,b,ats,.mk k n s l=>by
  rw [sg]
  split
  ·exact .refl _
  split
  ·exact addA_pre _ _
  split
  ·exact .refl _
  split
  ·exact .refl _
  split
  ·exact sgT_pre (sg_pre f) _ _ _
  split
  ·exact .refl _
  ·exact sgT_pre (sg_pre f) _ _ _
theorem sgT_atsOk {g:Int→List ByteArray→Tm→Sg} (h:∀ b ats t,atsOk ats=true→atsOk (g b ats t).ats=true):∀ (l:List Tm) (b:Int) (ats:List ByteArray),atsOk ats=true→atsOk (sgT g l b ats).ats=true
 | [],b,ats,q=>q
 | t :: r,b,ats,q=>by
  rw [sgT]
  exact sgT_atsOk h r _ _ (h b ats t q)
theorem sg_atsOk:∀ (f:Nat) (b:Int) (ats:List ByteArray) (t:Tm),atsOk ats=true→atsOk (sg f b ats t).ats=true
 | 0,b,ats,t,q=>q
 | f+1,b,ats,.mk k n s l,q=>by
  rw [sg]
  split
  ·exact q
  split
  ·exact addA_ok q
  split
  ·exact q
  split
  ·exact q
  split
  ·exact sgT_atsOk (sg_atsOk f) _ _ _ q
  split
  ·exact q
  ·exact sgT_atsOk (sg_atsOk f) _ _ _ q
def SgRd (H:Gn) (A:List ByteArray) (f:Nat):Prop:=∀ (t:Tm) (b:Int) (ats:List ByteArray) (d:Nat) (c:Int),0≤lk f t (d:Int) (100-c)→0≤c→0≤b→b+(sg f b ats t).seg.length≤1000000→(sg f b ats t).ok=true→Hat H b (sg f b ats t).seg→AtP (sg f b ats t).ats A→ats.length≤1000 →
 RdP H A d (sg f b ats t).word t c (100-lk f t (d:Int) (100-c)) b (sg f b ats t).seg.length
theorem addA_l (l:List ByteArray) (s:ByteArray) (h:l.length≤1000):(addA l s).1.length≤1000:=by
 have:=addA_len l s
 omega
theorem sgT_l {g:Int→List ByteArray→Tm→Sg} (h:∀ b ats t,ats.length≤1000→(g b ats t).ats.length≤1000):∀ (l:List Tm) (b:Int) (ats:List ByteArray),ats.length≤1000→(sgT g l b ats).ats.length≤1000
 | [],b,ats,q=>q
 | t :: r,b,ats,q=>by
  rw [sgT]
  exact sgT_l h r _ _ (h b ats t q)
theorem sg_l:∀ (f:Nat) (b:Int) (ats:List ByteArray) (t:Tm),ats.length≤1000→(sg f b ats t).ats.length≤1000
 | 0,b,ats,t,q=>q
 | f+1,b,ats,.mk k n s l,q=>by
  rw [sg]
  split
  ·exact q
  split
  ·exact addA_l _ _ q
  split
  ·exact q
  split
  ·exact q
  split
  ·exact sgT_l (sg_l f) _ _ _ q
  split
  ·exact q
  ·exact sgT_l (sg_l f) _ _ _ q
theorem sgT_rd {H:Gn} {A:List ByteArray} {f d:Nat} (ih:SgRd H A f):∀ (l:List Tm) (b:Int) (ats:List ByteArray) (c:Int),0≤lkS (lk f) l (d:Int) (100-c)→0≤c→0≤b→b+(sgT (sg f) l b ats).seg.length≤1000000→(sgT (sg f) l b ats).ok=true→Hat H b (sgT (sg f) l b ats).seg→AtP (sgT (sg f) l b ats).ats A→ats.length≤1000 →
  RdLs H A d (sgT (sg f) l b ats).ws l c (100-lkS (lk f) l (d:Int) (100-c)) b (sgT (sg f) l b ats).seg.length
 | [],b,ats,c,h,c0,_,_,_,_,_,_=>by
  rw [lkS]
  exact ⟨by omega,rfl⟩
 | t :: r,b,ats,c,h,c0,b0,hl,hk,hat,hA,ha=>by
  have hge:100-c≥0:=by
   rcases Int.lt_or_le (100-c) 0 with q|q
   ·rw [lkS_neg _ _ _ _ q] at h;omega
   ·exact q
  rw [lkS,if_pos hge] at h ⊢
  rw [sgT] at hl hk hat hA ⊢
  simp only [List.length_append,Bool.and_eq_true] at hl hk hat hA ⊢
  obtain ⟨k1,k2⟩:=hk
  obtain ⟨a1,a2⟩:=hat.app
  have l1:=lk_le f t (d:Int) (100-c) hge
  have h1:0≤lk f t (d:Int) (100-c):=by
   rcases Int.lt_or_le (lk f t (d:Int) (100-c)) 0 with q|q
   ·rw [lkS_neg _ _ _ _ q] at h;omega
   ·exact q
  have P:=ih t b ats d c h1 c0 b0 (by omega) k1 a1 ((sgT_pre (sg_pre f) r _ _).trans hA) ha
  have R:=sgT_rd (d:=d) ih r (b+(sg f b ats t).seg.length) (sg f b ats t).ats (100-lk f t (d:Int) (100-c)) (by rw [show 100-(100-lk f t (d:Int) (100-c))=lk f t (d:Int) (100-c) from by omega];exact h) (by omega) (by omega) (by omega) k2 a2 hA (sg_l f b ats t ha)
  rw [show 100-(100-lk f t (d:Int) (100-c))=lk f t (d:Int) (100-c) from by omega] at R
  exact ⟨_,_,_,P,R,rfl⟩
theorem pls_no {G:Gn} {n:Nat} {w:Int} (h:¬leadW w=true):pls G n w = []:=by
 cases n with
 | zero=>rfl
 | succ n=>rw [pls,if_neg h]
theorem dnW_no {G:Gn} {n:Nat} {w:Int} (h:¬leadW w=true):dnW G n w=true:=by
 cases n with
 | zero=>rfl
 | succ n=>
  have:leadW w=false:=by simpa using h
  rw [dnW,this]
  rfl
theorem RdP.leaf {H:Gn} {A:List ByteArray} {d:Nat} {w:Int} {t:Tm} {c c' b:Int} (h:rdT chkI H A d w c=some (t,c')) (l:¬leadW w=true):RdP H A d w t c c' b 0:=
 ⟨h,fun n _=>by rw [pls_no l];exact .nil,fun n _=>dnW_no l⟩
theorem not_lead {w:Int} (h:tagW w≤3):¬leadW w=true:=fun l=>by
 have:=lead3 l
 omega
theorem ptW_none {G:Gn} {w:Int} (h:∀ i,isPt w i=false):∀ (r i:Nat),ptW G w r i = []
 | 0,_=>rfl
 | r+1,i=>by rw [ptW,if_neg (by rw [h];decide)];exact ptW_none h r (i+1)
theorem ptW_ws {H:Gn} {w:Int} (h4:tagW w=4):∀ (ws:List Int) (i:Nat),Hat H (valW w+(i:Int)) ws→0<i→ptW H w ws.length i=ws
 | [],i,_,_=>rfl
 | x :: ws,i,h,hi=>by
  obtain ⟨e,h⟩:=h.head
  rw [List.length_cons,ptW,if_pos (by unfold isPt;rw [h4];simp;omega),e,ptW_ws h4 ws (i+1) (by rw [show valW w+((i+1:Nat):Int)=valW w+(i:Int)+1 from by omega];exact h) (by omega)]
  rfl
theorem rdB_hat {H:Gn}:∀ (l:List Int) (p:Int),(∀ x∈l,inB x 0 255=true)→Hat H p l→rdB H l.length p=some l
 | [],p,_,_=>rfl
 | x :: l,p,h,hat=>by
  obtain ⟨e,hat⟩:=hat.head
  rw [List.length_cons,rdB,e,Option.bind_some,if_pos (h x (.head _)),rdB_hat l (p+1) (fun y hy=>h y (.tail _ hy)) hat]
  rfl
theorem bsL_in (s:ByteArray):∀ x∈bsL s,inB x 0 255=true:=fun x hx=>by
 obtain ⟨b,_,rfl⟩:=List.mem_map.1 hx
 have:=b.toNat_lt
 unfold inB
 simp
 omega
theorem bstr_bsL (s:ByteArray):bstr (bsL s)=s:=bstr_sb s
theorem sg_rd {H:Gn} {A:List ByteArray} (hm:0≤H.mark):∀ f,SgRd H A f
 | 0=>fun t b ats d c h=>by
  cases t
  rw [lk] at h
  omega
 | f+1=>by
  intro t b ats d c h c0 b0 hl hk hat hA ha
  obtain ⟨k,n,s,l⟩:=t
  rw [lk] at h ⊢
  by_cases hbad:(d:Int)<1∨100-c<1∨shB k n s l.length=false
  ·rw [if_pos hbad] at h;omega
  rw [if_neg hbad] at h ⊢
  have hsh:shB k n s l.length=true:=by
   cases e:shB k n s l.length with
   | true=>rfl
   | false=>exact absurd (.inr (.inr e)) hbad
  obtain ⟨d,rfl⟩:∃ d',d=d'+1:=⟨d-1,by omega⟩
  rw [show ((d+1:Nat):Int)-1=(d:Int) from by omega,show 100-c-1=100-(c+1) from by omega] at h ⊢
  obtain ⟨kk,z45,z1,z3,z4,z5,z6⟩:=sh_kinds hsh
  obtain ⟨q1,q2,q3,q4,q5,q6⟩:=sh_eq hsh
  have hc:¬(100:Int)≤c:=by omega
  have fin:∀ {w:Int} {x:Option (Tm×Int)} {c':Int},0≤w→x=some (.mk k n s l,c')→((x).bind fun y=>if chkI y.1=true then some y else none)=some (.mk k n s l,c'):=fun _ e=>by
   rw [e,Option.bind_some,if_pos (show chkI (.mk k n s l)=true from hsh)]
  rw [sg] at hl hk hat hA ⊢
  rcases kk with rfl|rfl|rfl|rfl|rfl|rfl
  ·obtain ⟨rfl,rfl⟩:=q1 rfl
   have z1:=z1 rfl
   simp only [if_true] at hl hk hat hA ⊢
   rw [lkS]
   obtain ⟨tg,vl,nn,_⟩:=mk_tag (t:=0) (v:=n+1000000) (by omega) (by omega)
   refine RdP.leaf ?_ (not_lead (by omega))
   rw [rdT,if_neg (by omega),tg,vl]
   simp only [if_true]
   rw [if_pos (by omega)]
   refine fin nn ?_
   rw [show n+1000000-1000000=n from by omega,show 100-(100-(c+1))=c+1 from by omega]
  ·obtain ⟨rfl,rfl⟩:=q2 rfl
   simp only [show ¬((2:Int)=1) from by decide,if_false,if_true] at hl hk hat hA ⊢
   rw [lkS]
   have hk:0≤(addA ats s).2:=by simpa using hk
   obtain ⟨a1,a2⟩:=addA_at hk
   obtain ⟨tg,vl,nn,_⟩:=mk_tag (t:=1) (v:=(addA ats s).2) (by omega) (by omega)
   refine RdP.leaf ?_ (not_lead (by omega))
   rw [rdT,if_neg (by omega),tg,vl]
   simp only [show ¬((1:Int)=0) from by decide,if_false,if_true]
   rw [hA _ _ a1,Option.bind_some]
   refine fin nn ?_
   rw [show 100-(100-(c+1))=c+1 from by omega]
  ·obtain ⟨rfl,rfl⟩:=q3 rfl
   have z3:=z3 rfl
   simp only [show ¬((3:Int)=1) from by decide,show ¬((3:Int)=2) from by decide,if_false,if_true] at hl hk hat hA ⊢
   rw [lkS]
   obtain ⟨tg,vl,nn,_⟩:=mk_tag (t:=2) (v:=n) (by omega) (by omega)
   refine RdP.leaf ?_ (not_lead (by omega))
   rw [rdT,if_neg (by omega),tg,vl]
   simp only [show ¬((2:Int)=0) from by decide,show ¬((2:Int)=1) from by decide,if_false,if_true]
   refine fin nn ?_
   rw [show 100-(100-(c+1))=c+1 from by omega]
  ·obtain ⟨rfl,rfl⟩:=q4 rfl
   have z4:=z4 rfl
   simp only [show ¬((4:Int)=1) from by decide,show ¬((4:Int)=2) from by decide,show ¬((4:Int)=3) from by decide,show ¬((4:Int)=6) from by decide,if_false,if_true] at hl hk hat hA ⊢
   obtain ⟨g0,hat⟩:=hat.head
   obtain ⟨a1,a2⟩:=hat.app
   have wl:=sgT_len (g:=sg f) l (b+1+l.length) ats
   rw [wl] at a2
   simp only [List.length_cons,List.length_append,wl] at hl ⊢
   have R:=sgT_rd (d:=d) (sg_rd hm f) l (b+1+l.length) ats (c+1) h (by omega) (by omega) (by omega) hk a2 hA ha
   generalize sgT (sg f) l (b+1+l.length) ats=Z at hl hk a1 a2 wl R ⊢
   obtain ⟨tg,vl,nn,_⟩:=mk_tag (t:=4) (v:=b) (by omega) (by omega)
   have le:leadW (mkW 4 b)=true:=lead_of (.inl tg)
   have wd:wid H (mkW 4 b)=(l.length:Int)+1:=by unfold wid;rw [if_neg (by omega),vl,g0];rfl
   have pw:ptW H (mkW 4 b) (wid H (mkW 4 b)).toNat 0=Z.ws:=by
    rw [wd,show ((l.length:Int)+1).toNat=Z.ws.length+1 from by omega,ptW,if_neg (by unfold isPt;rw [tg];simp)]
    exact ptW_ws tg Z.ws 1 (by rw [vl];exact a1) (by omega)
   refine ⟨?_,fun m hm'=>?_,fun m hb=>?_⟩
   ·rw [rdT,if_neg (by omega),tg,vl]
    simp only [show ¬((4:Int)=0) from by decide,show ¬((4:Int)=1) from by decide,show ¬((4:Int)=2) from by decide,if_false,if_true]
    refine fin nn ?_
    rw [g0,Option.bind_some,if_pos (by unfold inB;simp;omega),Int.toNat_natCast,R.rds (b+1) a1,Option.bind_some]
   ·cases m with
    | zero=>omega
    | succ m=>
     rw [pls,if_pos le,pw,wd,vl]
     rw [show b+1+(l.length:Int)=b+((l.length+1:Nat):Int) from by omega] at R
     have:=R.pls (n:=m) (by omega)
     rw [show ((l.length:Int)+1).toNat=l.length+1 from by omega,show l.length+Z.seg.length+1=(l.length+1)+Z.seg.length from by omega,← rgI_app b (l.length+1) Z.seg.length]
     exact .append_left _ this
   ·cases m with
    | zero=>rfl
    | succ m=>
     refine dn_node hm (by rw [vl];exact hb) fun x hx=>?_
     obtain ⟨i,hi,ip,rfl⟩:=chW_pt hx
     rw [wd] at hi
     have i0:0<i:=by unfold isPt at ip;rw [tg] at ip;simpa using ip
     have hx:(gwd H (valW (mkW 4 b)+(i:Int))).getD 0∈Z.ws:=by
      have:=a1 (i-1) (by omega)
      rw [show b+1+((i-1:Nat):Int)=b+(i:Int) from by omega] at this
      rw [vl,this]
      exact List.getElem_mem _
     exact R.dn (by omega) _ hx
  ·obtain ⟨rfl,rfl⟩:=q5 rfl
   have z5:=z5 rfl
   simp only [show ¬((5:Int)=1) from by decide,show ¬((5:Int)=2) from by decide,show ¬((5:Int)=3) from by decide,show ¬((5:Int)=6) from by decide,show ¬((5:Int)=4) from by decide,if_false] at hl hk hat hA ⊢
   by_cases cl:l = []
   ·subst cl
    simp only [if_true] at hl hk hat hA ⊢
    rw [lkS]
    refine RdP.leaf ?_ (by decide)
    rw [rdT,if_neg (by omega)]
    have t3:tagW 3=3:=by decide
    simp only [t3,show ¬((3:Int)=0) from by decide,show ¬((3:Int)=1) from by decide,show ¬((3:Int)=2) from by decide,show ¬((3:Int)=4) from by decide,show ¬((3:Int)=6) from by decide,show ¬((3:Int)=7) from by decide,if_false]
    refine fin (w:=3) (by decide) ?_
    rw [rdL_off (by decide),if_pos rfl,Option.bind_some,show 100-(100-(c+1))=c+1 from by omega]
   ·rw [if_neg cl] at hl hk hat hA ⊢
    simp only at hl hk hat hA ⊢
    obtain ⟨a1,a2⟩:=hat.app
    have wl:=sgT_len (g:=sg f) l (b+2*l.length) ats
    rw [lnk_len,wl] at a2
    rw [show b+((2*l.length:Nat):Int)=b+2*(l.length:Int) from by omega] at a2
    simp only [List.length_append,lnk_len,wl] at hl ⊢
    have R:=sgT_rd (d:=d) (sg_rd hm f) l (b+2*l.length) ats (c+1) h (by omega) (by omega) (by omega) hk a2 hA ha
    generalize sgT (sg f) l (b+2*l.length) ats=Z at hl hk a1 a2 wl R ⊢
    have hne:Z.ws≠[]:=fun e=>by
     rw [e] at wl
     exact cl (List.length_eq_zero_iff.1 wl.symm)
    obtain ⟨tg,vl,nn,_⟩:=mk_tag (t:=5) (v:=b) (by omega) (by omega)
    obtain ⟨r1,r2,r3⟩:=RdLs.rdl hm b 20 R hne (by omega) a1 b0 (by omega)
    refine ⟨?_,fun m hm'=>?_,fun m hb=>r3 m (by omega) hb⟩
    ·rw [rdT,if_neg (by omega),tg]
     simp only [show ¬((5:Int)=0) from by decide,show ¬((5:Int)=1) from by decide,show ¬((5:Int)=2) from by decide,show ¬((5:Int)=4) from by decide,show ¬((5:Int)=6) from by decide,show ¬((5:Int)=7) from by decide,if_false]
     refine fin nn ?_
     rw [r1,Option.bind_some]
    ·have:=r2 m (by omega)
     rw [wl,show b+2*(l.length:Int)=b+((2*l.length:Nat):Int) from by omega,rgI_app] at this
     exact this
  ·obtain ⟨rfl,rfl⟩:=q6 rfl
   have z6:=z6 rfl
   simp only [show ¬((6:Int)=1) from by decide,show ¬((6:Int)=2) from by decide,show ¬((6:Int)=3) from by decide,if_false,if_true] at hl hk hat hA ⊢
   rw [lkS]
   obtain ⟨g0,hat⟩:=hat.head
   simp only [List.length_cons,bsL_len] at hl ⊢
   obtain ⟨tg,vl,nn,_⟩:=mk_tag (t:=6) (v:=b) (by omega) (by omega)
   have le:leadW (mkW 6 b)=true:=lead_of (.inr (.inr tg))
   have wd:wid H (mkW 6 b)=(s.size:Int)+1:=by unfold wid;rw [if_neg (by omega),vl,g0];rfl
   have ip:∀ i,isPt (mkW 6 b) i=false:=fun i=>by unfold isPt;rw [tg];rfl
   refine ⟨?_,fun m hm'=>?_,fun m hb=>?_⟩
   ·rw [rdT,if_neg (by omega),tg,vl]
    simp only [show ¬((6:Int)=0) from by decide,show ¬((6:Int)=1) from by decide,show ¬((6:Int)=2) from by decide,show ¬((6:Int)=4) from by decide,if_false,if_true]
    refine fin nn ?_
    have rb:=rdB_hat (bsL s) (b+1) (bsL_in s) hat
    rw [bsL_len] at rb
    rw [g0,Option.bind_some,if_pos (by unfold inB;simp;omega),Int.toNat_natCast,rb,Option.bind_some,bstr_bsL,show 100-(100-(c+1))=c+1 from by omega]
   ·cases m with
    | zero=>omega
    | succ m=>
     rw [pls,if_pos le,ptW_none ip,wd,vl,show ((s.size:Int)+1).toNat=s.size+1 from by omega]
     simp
   ·cases m with
    | zero=>rfl
    | succ m=>
     refine dn_node hm (by rw [vl];exact hb) fun x hx=>?_
     obtain ⟨i,_,q,_⟩:=chW_pt hx
     rw [ip] at q
     cases q
theorem gOk_sub {G:Gn} {ats:List ByteArray} {l m:List Int} (h:gOk G ats l=true) (hs:∀ w∈m,w∈l):gOk G ats m=true:=by
 unfold gOk at h ⊢
 simp only [Bool.and_eq_true,List.all_eq_true] at h ⊢
 exact ⟨h.1,fun w hw=>h.2 w (hs w hw)⟩
theorem swp_done {G:Gn} {ats:List ByteArray} {roots:List Int} {all:Bool} (x:Fo G ats roots) (h:G.old.length+G.young.length≤1000):(swp G ats roots all).2=true:=by
 have L:=x.run all
 have s:=L.sum
 have a:=x.lenA all
 have s0:(sw0 G all).len true=if all=true then 0 else G.old.length:=by cases all<;>rfl
 have s1:(sw0 G all).len false=0:=rfl
 rw [s0,s1] at s
 unfold swp
 rw [if_pos x.ok,if_neg]
 have:(cpAll false G all 133 roots (sw0 G all)).2.old.length≤1000:=by
  show (cpAll false G all 133 roots (sw0 G all)).2.len true≤_
  cases all with
  | true=>rw [if_pos rfl] at s;omega
  | false=>have:=a.2 rfl;rw [if_neg (by decide)] at s;omega
 simp
 omega
theorem swp_tot {G:Gn} {ats:List ByteArray} {roots:List Int} {all:Bool} {H:Gn} {ws:List Int} (x:Fo G ats roots) (s:SwO G ats roots all H ws):H.old.length+H.young.length≤G.old.length+G.young.length:=by
 have t:=s.tot
 have a:=x.lenA all
 cases all with
 | true=>rw [if_pos rfl] at t;omega
 | false=>have:=a.2 rfl;rw [if_neg (by decide)] at t;omega
theorem two_sweeps {G:Gn} {ats:List ByteArray} {roots:List Int} {X Y:Gn} {ws vs:List Int} (x:Fo G ats roots) (s1:SwO G ats roots false X ws) (s2:SwO X ats ws false Y vs):Y.young.length=0∧Y.mark=0∧Y.old.length=X.old.length+X.young.length∧vs.length=roots.length∧∀ i (hi:i<roots.length) (hj:i<vs.length),gRd Y ats vs[i]=gRd G ats roots[i]:=by
 have y0:=s2.yng (.inr s1.mrk)
 have l1:=s1.isw.len
 have l2:=s2.isw.len
 refine ⟨y0,by rw [s2.mrk,y0];rfl,?_,by omega,fun i hi hj=>?_⟩
 ·have t:=s2.tot
  rw [if_neg (by decide),y0] at t
  obtain ⟨n,p,hn⟩:=s1.perm
  rw [if_neg (by decide)] at p
  have p2:=fm_split (f:=pls X 133) (g:=plsA X false 133) (h:=plsS X false 133) ws fun w _=>pls_split 133 w
  have e:=(p2.symm.trans p).countP_eq fun q=>decide (100000≤q)
  obtain ⟨h1,_,_,_⟩:=gOk_parts x.ok
  obtain ⟨g1,_,_,_⟩:=gOk_parts s1.fo.ok
  rw [List.countP_append,List.countP_append,List.countP_append] at e
  have c1:(ws.flatMap (plsA X false 133)).countP (fun q=>decide (100000≤q))=(ws.flatMap (plsA X false 133)).length:=List.countP_eq_length.2 fun q hq=>by
   obtain ⟨w,_,hq⟩:=List.mem_flatMap.1 hq
   exact decide_eq_true (plsA_young 133 w q hq)
  have c2:(ws.flatMap (plsS X false 133)).countP (fun q=>decide (100000≤q))=0:=List.countP_eq_zero.2 fun q hq=>by
   obtain ⟨w,hw,hq⟩:=List.mem_flatMap.1 hq
   have:=plsS_old g1 133 w (s1.fo.root w hw).2.1 (s1.fo.root w hw).2.2 q hq
   simp
   omega
  have c3:(roots.flatMap (plsS G false 133)).countP (fun q=>decide (100000≤q))=0:=List.countP_eq_zero.2 fun q hq=>by
   obtain ⟨w,hw,hq⟩:=List.mem_flatMap.1 hq
   have:=plsS_old h1 133 w (x.root w hw).2.1 (x.root w hw).2.2 q hq
   simp
   omega
  have c4:(rgI (G.old.length:Int) n).countP (fun q=>decide (100000≤q))=0:=List.countP_eq_zero.2 fun q hq=>by
   have:=rgI_mem.1 hq
   simp
   omega
  have c5:(rgI 100000 X.young.length).countP (fun q=>decide (100000≤q))=X.young.length:=by
   rw [List.countP_eq_length.2 fun q hq=>decide_eq_true (rgI_mem.1 hq).1,rgI_len]
  omega
 ·have a:=s1.isw.get i hi (by omega)
  have b:=s2.isw.get i (by omega) hj
  rw [rd_isw b,rd_isw a]
theorem and255 (m:Int):0≤Go.bits .and .i64 m (255:Int)∧Go.bits .and .i64 m (255:Int)≤255:=by
 have h:∀ x:BitVec 64,(x &&& BitVec.ofInt 64 (255:Int)).toNat≤255:=fun x=>by
  rw [BitVec.toNat_and]
  exact Nat.le_trans Nat.and_le_right (by decide)
 have h1:=h (BitVec.ofInt 64 m)
 have e:Go.bits .and .i64 m (255:Int)=IntKind.wrap .i64 ((BitVec.ofInt 64 m &&& BitVec.ofInt 64 (255:Int)).toNat:Int):=rfl
 rw [e,w64i (by omega) (by omega)]
 omega
def CurR (base cb:Nat) (h:AH):Prop:=∃ (a:Option Addr) (zs:List Int) (i hh:Int),Own base 154 h (at0 cb) [.slice a zs.length zs.length,.int .i64 i,.int .i64 hh]∧Sl h a (iv .u8 zs)∧(zs = []∨∀ b,blk a b→b<base)∧zs.length≤9223372036854775806∧0≤i
theorem CurR.lt {base cb:Nat} {h:AH} (x:CurR base cb h):base≤cb∧cb<h.length:=by
 obtain ⟨a,zs,i,hh,o,_⟩:=x
 exact o.lt (blk_at0.2 rfl)
theorem l1Byte_run {base cb:Nat} {h:AH} (x:CurR base cb h):∃ z h',run (Et base) 173 [.pointer (at0 cb)] h=some (.int .i64 z,h')∧0≤z∧z≤255∧CurR base cb h'∧KB (· = cb) h h'∧h'.length=h.length:=by
 have hlt:=x.lt
 obtain ⟨a,zs,i,hh,o,s,hz,hl,hi⟩:=x
 obtain ⟨h4,e4,o4,k4,n4⟩:=o.wr0 (i:=2) (new:=[.int .i64 (IntKind.wrap .i64 ((IntKind.wrap .i64 (hh*(6364136223846793005:Int)))+(1442695040888963407:Int)))]) (by simp) (by simp)
 generalize hg:IntKind.wrap .i64 ((IntKind.wrap .i64 (hh*(6364136223846793005:Int)))+(1442695040888963407:Int))=hn at e4 o4
 have hset:setAt [.slice a zs.length zs.length,.int .i64 i,.int .i64 hh] 2 [.int .i64 hn] = [.slice a zs.length zs.length,.int .i64 i,Value.int .i64 hn]:=rfl
 rw [hset] at o4
 have s4:Sl h4 a (iv .u8 zs):=by
  rcases hz with e|hz
  ·subst e;exact .inl rfl
  ·exact s.keep k4 fun b hb hu=>by have:=hz b hb;omega
 by_cases c:i<(zs.length:Int)
 ·obtain ⟨ad,rfl,g⟩:=s4.int (i:=i.toNat) (by omega)
  obtain ⟨h5,e5,o5,k5,n5⟩:=o4.wr0 (i:=1) (new:=[.int .i64 (IntKind.wrap .i64 (i+1))]) (by simp) (by simp)
  have hset:setAt [.slice (some ad) zs.length zs.length,.int .i64 i,.int .i64 hn] 1 [.int .i64 (IntKind.wrap .i64 (i+1))] = [.slice (some ad) zs.length zs.length,.int .i64 (IntKind.wrap .i64 (i+1)),Value.int .i64 hn]:=rfl
  rw [hset] at o5
  have bz:=and255 (IntKind.wrap .i64 ((Go.bits .and .i64 (Go.bits .xor .i64 (Int.fdiv hn (2 ^ min ((33:Int)).toNat 64)) (Int.fdiv hn (2 ^ min ((47:Int)).toNat 64))) (255:Int))+(IntKind.wrap .i64 zs[i.toNat])))
  refine ⟨_,h5,Am.r173 (bs rfl (bI (o.at0 (i:=2) rfl) (bs rfl ?_))),bz.1,bz.2,⟨_,zs,IntKind.wrap .i64 (i+1),hn,o5,?_,hz,hl,by rw [w64i (by omega) (by omega)];omega⟩,KB.trans k4 k5 (fun _ _ h=>h) (fun _ _ h=>h),by omega⟩
  ·rw [hg]
   refine bs e4 (bs rfl (bI (o4.at0 (i:=2) rfl) (bs rfl (bI (o4.at0 (i:=2) rfl) ?_))))
   refine bj (q:=([some (.int .i64 (Go.bits .and .i64 (IntKind.wrap .i64 ((Go.bits .and .i64 (Go.bits .xor .i64 (Int.fdiv hn (2 ^ min ((33:Int)).toNat 64)) (Int.fdiv hn (2 ^ min ((47:Int)).toNat 64))) (255:Int))+(IntKind.wrap .i64 zs[i.toNat]))) (255:Int)))],h5)) ?_ (bI rfl rfl)
   refine bs rfl (bI (o4.at0 (i:=1) rfl) (bs rfl (bS (o4.at0 (i:=0) rfl) (ifT (decide_eq_true c) (bs rfl (bS (o4.at0 (i:=0) rfl) (bs rfl (bI (o4.at0 (i:=1) rfl) (ifT ⟨hi,c⟩ (bs rfl ?_))))))))))
   rw [Nat.mul_one]
   exact bs g (bs rfl (bI (o4.at0 (i:=1) rfl) (bs rfl (bs e5 rfl))))
  ·rcases hz with e|hz
   ·subst e;exact .inl rfl
   ·exact s4.keep k5 fun b hb hu=>by have:=hz b hb;omega
 ·have bz:=and255 (Go.bits .xor .i64 (Int.fdiv hn (2 ^ min ((33:Int)).toNat 64)) (Int.fdiv hn (2 ^ min ((47:Int)).toNat 64)))
  refine ⟨_,h4,Am.r173 (bs rfl (bI (o.at0 (i:=2) rfl) (bs rfl ?_))),bz.1,bz.2,⟨_,zs,i,hn,o4,s4,hz,hl,hi⟩,k4,n4⟩
  rw [hg]
  refine bs e4 (bs rfl (bI (o4.at0 (i:=2) rfl) (bs rfl (bI (o4.at0 (i:=2) rfl) ?_))))
  refine bj (q:=([some (.int .i64 (Go.bits .and .i64 (Go.bits .xor .i64 (Int.fdiv hn (2 ^ min ((33:Int)).toNat 64)) (Int.fdiv hn (2 ^ min ((47:Int)).toNat 64))) (255:Int)))],h4)) ?_ (bI rfl rfl)
  exact bs rfl (bI (o4.at0 (i:=1) rfl) (bs rfl (bS (o4.at0 (i:=0) rfl) (ifF (by simpa using c) rfl))))
theorem l1Below_run {base cb:Nat} {h:AH} {n:Int} (x:CurR base cb h) (hn:n≤256):∃ z h',run (Et base) 133 [.pointer (at0 cb),.int .i64 n] h=some (.int .i64 z,h')∧0≤z∧(0<n→z<n)∧z≤255∧CurR base cb h'∧KB (· = cb) h h'∧h'.length=h.length:=by
 by_cases c:n≤0
 ·exact ⟨0,h,Am.r133 (ifT (decide_eq_true c) rfl),by omega,fun h=>by omega,by omega,x,KB.refl _ _,rfl⟩
 ·obtain ⟨z,h',e,z0,z1,x',k,l⟩:=l1Byte_run x
  have t0:=Int.tmod_nonneg n z0
  have t1:Int.tmod z n<n:=Int.tmod_lt_of_pos z (by omega)
  refine ⟨Int.tmod z n,h',Am.r133 (ifF (by simpa using c) (ifT (decide_eq_true hn) (bs e (bI rfl (ifF (by omega) rfl))))),t0,fun _=>t1,?_,x',k,l⟩
  have t2:=Int.tmod_eq_emod_of_nonneg (b:=n) z0
  have t3:z % n≤z:=by
   by_cases cc:z<n
   ·rw [Int.emod_eq_of_lt z0 cc];omega
   ·omega
  omega
theorem l1Once_run {base cb:Nat} {h:AH} {n:Int} (x:CurR base cb h) (hn:n≤256):∃ b h',run (Et base) 156 [.pointer (at0 cb),.int .i64 n] h=some (.bool b,h')∧CurR base cb h'∧KB (· = cb) h h'∧h'.length=h.length:=by
 obtain ⟨z,h',e,_,_,_,x',k,l⟩:=l1Below_run (n:=n) x hn
 exact ⟨_,h',Am.r156 (bs e (bI rfl rfl)),x',k,l⟩
theorem l1Int_run {base cb:Nat} {h:AH} {a:Option Addr} {zs:List Int} (x:CurR base cb h) (s:Sl h a (iv .i64 zs)) (ha:∀ b,blk a b→b≠cb) (h0:0<zs.length) (h1:zs.length≤256):∃ z h',run (Et base) 135 [.pointer (at0 cb),.slice a zs.length zs.length] h=some (.int .i64 z,h')∧z∈zs∧CurR base cb h'∧KB (· = cb) h h'∧h'.length=h.length:=by
 obtain ⟨z,h',e,z0,z1,_,x',k,l⟩:=l1Below_run (n:=(zs.length:Int)) x (by omega)
 have z2:=z1 (by omega)
 obtain ⟨ad,rfl,g⟩:=(s.keep k fun b hb hu=>ha b hb hu).int (i:=z.toNat) (by omega)
 have hz:z.toNat<zs.length:=by omega
 refine ⟨zs[z.toNat],h',Am.r135 (bs e (bI rfl (ifT ⟨z0,z2⟩ (bs rfl ?_)))),List.getElem_mem hz,x',k,l⟩
 rw [Nat.mul_one]
 exact bs g rfl
theorem l1Str_run {base cb:Nat} {h:AH} {a:Option Addr} {ss:List ByteArray} (x:CurR base cb h) (s:Sl h a (ss.map Value.string)) (ha:∀ b,blk a b→b≠cb) (h0:0<ss.length) (h1:ss.length≤256):∃ z h',run (Et base) 172 [.pointer (at0 cb),.slice a ss.length ss.length] h=some (.string z,h')∧z∈ss∧CurR base cb h'∧KB (· = cb) h h'∧h'.length=h.length:=by
 obtain ⟨z,h',e,z0,z1,_,x',k,l⟩:=l1Below_run (n:=(ss.length:Int)) x (by omega)
 have z2:=z1 (by omega)
 obtain ⟨ad,rfl,g⟩:=(s.keep k fun b hb hu=>ha b hb hu).cell (i:=z.toNat) (v:=.string (ss[z.toNat]'(by omega))) (by simp)
 have hz:z.toNat<ss.length:=by omega
 refine ⟨ss[z.toNat],h',Am.r172 (bs e (bI rfl (ifT ⟨z0,z2⟩ (bs rfl ?_)))),List.getElem_mem hz,x',k,l⟩
 rw [Nat.mul_one]
 exact bT g rfl
theorem l1New_loop {base:Nat} {a:Option Addr} {zs:List Int} {h:AH} (hl:zs.length≤9223372036854775806) (s:Sl h a (iv .u8 zs)):∀ (d i:Nat) (k:Int),i+d=zs.length→∃ k',loopL (B78_0 base) [some (.slice a zs.length zs.length),some (.int .i64 k),some (.int .i64 (i:Int))] h=some (2,[some (.slice a zs.length zs.length),some (.int .i64 k')],h):=by
 intro d
 induction d with
 | zero=>
  intro i k hi
  refine ⟨k,loop_off (by decide) ?_⟩
  rw [B78_0_eq]
  refine bj (q:=([some (.slice a zs.length zs.length),some (.int .i64 k),some (.int .i64 (i:Int)),some (.bool false)],h)) (ifF (by simp;omega) rfl) ?_
  exact bS rfl (bI rfl (bI rfl (bB rfl (ifF (by decide) rfl))))
 | succ d ih=>
  intro i k hi
  by_cases c:(i:Int)<4000
  ·obtain ⟨ad,rfl,g⟩:=s.int (i:=i) (by omega)
   obtain ⟨k',e⟩:=ih (i+1) (Go.bits .and .i64 (IntKind.wrap .i64 ((IntKind.wrap .i64 ((IntKind.wrap .i64 (k*(137:Int)))+(IntKind.wrap .i64 zs[i])))+(11:Int))) (1073741823:Int)) (by omega)
   refine ⟨k',loop_on ?_ e⟩
   rw [B78_0_eq]
   refine bj (q:=([some (.slice (some ad) zs.length zs.length),some (.int .i64 k),some (.int .i64 (i:Int)),some (.bool true)],h)) (ifT (decide_eq_true (by omega)) (by rw [decide_eq_true c])) ?_
   refine bS rfl (bI rfl (bI rfl (bB rfl (ifT rfl (ifT ⟨by omega,by simp;omega⟩ (bs rfl ?_))))))
   simp only [Int.toNat_natCast,Nat.mul_one]
   refine bs g ?_
   rw [w64i (n:=(i:Int)+1) (by omega) (by omega)]
   rfl
  ·refine ⟨k,loop_off (by decide) ?_⟩
   rw [B78_0_eq]
   refine bj (q:=([some (.slice a zs.length zs.length),some (.int .i64 k),some (.int .i64 (i:Int)),some (.bool false)],h)) (ifT (decide_eq_true (by omega)) (by rw [decide_eq_false c])) ?_
   exact bS rfl (bI rfl (bI rfl (bB rfl (ifF (by decide) rfl))))
theorem l1New_run {base:Nat} {h:AH} {a:Option Addr} {zs:List Int} (s:Sl h a (iv .u8 zs)) (hz:zs = []∨∀ b,blk a b→b<base) (hl:zs.length≤9223372036854775806) (hb:base≤h.length) :
  ∃ h',run (Et base) 78 [.slice a zs.length zs.length] h=some (.pointer (at0 h.length),h')∧CurR base h.length h'∧KB NoB h h'∧h'.length=h.length+1:=by
 obtain ⟨k',e⟩:=l1New_loop (base:=base) hl s zs.length 0 (IntKind.wrap .i64 ((384384:Int)+((zs.length:Nat):Int))) (by omega)
 rw [show ((0:Nat):Int)=0 from rfl] at e
 obtain ⟨o1,k1,q1⟩:=box_own (base:=base) (t:=154) (h:=h) (cs:=[.slice a zs.length zs.length,.int .i64 0,.int .i64 k']) hb rfl
 generalize hh1:h++[some (⟨[.slice a zs.length zs.length,.int .i64 0,.int .i64 k'],154⟩:Blk)]=h1 at o1 k1 q1
 refine ⟨h1,Am.r78 (bs e (ifT rfl (bS rfl (bI rfl (lets fun y ey=>?_))))),⟨a,zs,0,k',o1,s.keepN k1,hz,hl,by omega⟩,k1,q1⟩
 rw [hh1] at ey
 subst ey
 rfl
section
abbrev rArg (base:Nat) (hX:AH):Rs:=⟨fun b=>b<base,false,fun y=>base≤y.length∧∀ b,b<base→hget y b=hget hX b⟩
def CurK (base cb:Nat) (hX:AH) (y:AH):Prop:=∃ (a:Option Addr) (zs:List Int) (i hh:Int),Own base 154 y (at0 cb) [.slice a zs.length zs.length,.int .i64 i,.int .i64 hh]∧Sl hX a (iv .u8 zs)∧(zs = []∨∀ b,blk a b→b<base)∧zs.length≤9223372036854775806∧0≤i
abbrev rCur (base cb:Nat) (hX:AH):Rs:=⟨fun b=>b=cb,true,CurK base cb hX⟩
theorem Sl.other {base:Nat} {h h':AH} {a:Option Addr} {zs:List Int} (s:Sl h a (iv .u8 zs)) (hz:zs = []∨∀ b,blk a b→b<base) (e:∀ b,b<base→hget h' b=hget h b):Sl h' a (iv .u8 zs):=by
 rcases hz with hz|hz
 ·subst hz;exact .inl rfl
 ·rcases s with s|⟨ad,k,e1,e2,e3,e4⟩
  ·exact .inl s
  ·exact .inr ⟨ad,k,e1,by rw [e _ (hz _ ⟨ad,e1,rfl⟩)];exact e2,e3,e4⟩
theorem CurR.k {base cb:Nat} {hX y:AH} (x:CurR base cb y) (e:∀ b,b<base→hget y b=hget hX b):CurK base cb hX y:=by
 obtain ⟨a,zs,i,hh,o,s,hz,hl,hi⟩:=x
 exact ⟨a,zs,i,hh,o,s.other hz fun b hb=>(e b hb).symm,hz,hl,hi⟩
theorem CurK.r {base cb:Nat} {hX y:AH} (x:CurK base cb hX y) (e:∀ b,b<base→hget y b=hget hX b):CurR base cb y:=by
 obtain ⟨a,zs,i,hh,o,s,hz,hl,hi⟩:=x
 exact ⟨a,zs,i,hh,o,s.other hz e,hz,hl,hi⟩
theorem CurK.kp {base cb:Nat} {hX:AH}:∀ (U:Fp) (h h':AH),KB U h h'→(∀ b,b=cb→¬U b)→CurK base cb hX h→CurK base cb hX h':=fun U h h' k hs ⟨a,zs,i,hh,o,q⟩=>⟨a,zs,i,hh,o.keep k fun b hb=>hs b (blk_at0.1 hb),q⟩
theorem argOk {base:Nat} {hX:AH}:(rArg base hX).Ok:=fun U y y' k hs q=>⟨Nat.le_trans q.1 k.1,fun b hb=>by rw [k.2 b (Nat.lt_of_lt_of_le hb q.1) (hs b hb)];exact q.2 b hb⟩
namespace Hs
variable {base:Nat} {W:Fp} {h0 h:AH} {D:Ds} {R:List Rs}
theorem startC {cb:Nat} (x:CurR base cb h) (hb:base≤h.length):Hs base (· = cb) h h [] [rArg base h,rCur base cb h]:=by
 refine ⟨hb,KB.refl _ _,fun x hx=>(nomatch hx),by simp,fun r hr=>?_,?_⟩
 ·simp only [List.mem_cons,List.not_mem_nil,or_false] at hr
  rcases hr with rfl|rfl
  ·exact ⟨⟨hb,fun _ _=>rfl⟩,argOk,fun b hb2=>Nat.lt_of_lt_of_le hb2 hb,fun m=>(nomatch m),fun x hx=>nomatch hx⟩
  ·exact ⟨x.k fun _ _=>rfl,CurK.kp,fun b hb2=>by simp only at hb2;subst hb2;exact x.lt.2,fun _ b hb2=>.inl hb2,fun x hx=>nomatch hx⟩
 ·simp only [List.pairwise_cons,List.mem_cons,List.not_mem_nil,or_false]
  refine ⟨fun r hr=>?_,?_⟩
  ·subst hr
   intro _ b h1 h2
   simp only at h1 h2
   have:=x.lt.1
   omega
  ·simp
theorem cur {cb i j:Nat} {hX:AH} (d:Hs base W h0 h D R) (ej:R[j]? = some (rArg base hX)) (ei:R[i]? = some (rCur base cb hX)):CurR base cb h:=CurK.r (d.rs ei) (d.rs ej).2
theorem drawn {cb i j:Nat} {hX h':AH} (d:Hs base W h0 h D R) (ej:R[j]? = some (rArg base hX)) (ei:R[i]? = some (rCur base cb hX)) (x:CurR base cb h') (k:KB (· = cb) h h'):Hs base W h0 h' D R:=by
 have hcb:=x.lt.1
 have e:∀ b,b<base→hget h' b=hget hX b:=fun b hb=>by
  have q:=d.rs ej
  rw [k.2 b (Nat.lt_of_lt_of_le hb q.1) (by omega)]
  exact q.2 b hb
 have d1:=d.upd (r:=rCur base cb hX) (r':=rCur base cb hX) (Upd.at ei) rfl rfl k (fun b hb=>.inl hb) (x.k e) CurK.kp (fun b hb=>.inl hb)
 have:R.set i (rCur base cb hX)=R:=by
  obtain ⟨hi,e⟩:=List.getElem?_eq_some_iff.1 ei
  rw [← e,List.set_getElem_self]
 rwa [this] at d1
theorem drawC {cb i j:Nat} {hX h':AH} (d:Hs base W h0 h D R) (ej:R[j]? = some (rArg base hX)) (ei:R[i]? = some (rCur base cb hX)) (x:CurR base cb h') (k:KB (· = cb) h h') (S:Fp) (A:AH→Prop) (hA:A h') (ok:∀ (U:Fp) (h h':AH),KB U h h'→(∀ b,S b→¬U b)→A h→A h') (hS:∀ b,S b→h.length≤b∧b<h'.length):Hs base W h0 h' D (R++[⟨S,true,A⟩]):=by
 have d':=d.drawn ej ei x k
 refine ⟨d'.ge,d'.kb,d'.own,d'.nd,fun r hr=>?_,?_⟩
 ·rcases List.mem_append.1 hr with hr|hr
  ·exact d'.res r hr
  ·rw [List.mem_singleton] at hr
   subst hr
   refine ⟨hA,ok,fun b hb=>(hS b hb).2,fun _ b hb=>.inr ?_,fun x hx hS'=>?_⟩
   ·have:=(hS b hb).1
    have:=d.kb.1
    omega
   ·have:=((d.own x hx).1.lt (blk_at0.2 rfl)).2
    have:=(hS _ hS').1
    omega
 ·rw [List.pairwise_append]
  refine ⟨d'.dj,by simp,fun r hr s hs e b h1 h2=>?_⟩
  rw [List.mem_singleton] at hs
  subst hs
  have:=(d.res r hr).2.2.1 b h1
  have:=(hS b h2).1
  omega
end Hs
end
def Tm.len:Tm→Nat
 | .mk _ _ _ l=>l.length
section
def capT:Nat→Int
 | 0=>1
 | n+1=>1+3*capT n
theorem capT_pos:∀ n,1≤capT n
 | 0=>by decide
 | n+1=>by have:=capT_pos n;rw [capT];omega
def Gt (n:Nat) (t:Tm):Prop:=∀ (F:Nat) (d x:Int),n+1≤F→(n:Int)+1≤d→capT n≤x→x-capT n≤lk F t d x
theorem Gt.leaf {k m:Int} {s:ByteArray} (h:shB k m s 0=true) (n:Nat):Gt n (.mk k m s []):=by
 intro F d x hF hd hx
 have:=capT_pos n
 cases F with
 | zero=>omega
 | succ F=>
  rw [lk,if_neg (by simp [h];omega),lkS]
  omega
theorem Gt.lks {n:Nat} {F:Nat} {d:Int} (hF:n+1≤F) (hd:(n:Int)+1≤d):∀ (l:List Tm) (x:Int),(∀ t∈l,Gt n t)→(l.length:Int)*capT n≤x→x-(l.length:Int)*capT n≤lkS (lk F) l d x
 | [],x,_,h=>by simp [lkS]
 | t :: r,x,hl,h=>by
  have hc:=capT_pos n
  have e:((t :: r).length:Int)*capT n=capT n+(r.length:Int)*capT n:=by rw [List.length_cons,Int.natCast_succ,Int.add_mul];omega
  rw [e] at h ⊢
  have hr:0≤(r.length:Int)*capT n:=Int.mul_nonneg (by omega) (by omega)
  have h1:=hl t (.head _) F d x hF hd (by omega)
  rw [lkS,if_pos (by omega)]
  have h2:=Gt.lks hF hd r (lk F t d x) (fun u hu=>hl u (.tail _ hu)) (by omega)
  omega
theorem Gt.node {n:Nat} {k:Int} {l:List Tm} (hk:k=4∨k=5) (hl:l.length≤3) (h:∀ t∈l,Gt n t):Gt (n+1) (.mk k 0 ⟨#[]⟩ l):=by
 intro F d x hF hd hx
 have hc:=capT_pos n
 cases F with
 | zero=>omega
 | succ F=>
  rw [capT] at hx ⊢
  have hs:shB k 0 ⟨#[]⟩ l.length=true:=by
   have h8:decide (((l.length:Nat):Int)≤(8:Int))=true:=by simp;omega
   have h20:decide (((l.length:Nat):Int)≤(20:Int))=true:=by simp;omega
   rcases hk with rfl|rfl
   ·unfold shB;simp [h8]
   ·unfold shB;simp [h20]
  rw [lk,if_neg (by simp [hs];omega)]
  have hm:(l.length:Int)*capT n≤3*capT n:=Int.mul_le_mul_of_nonneg_right (by omega) (by omega)
  have:=Gt.lks (F:=F) (d:=d-1) (by omega) (by omega) l (x-1) h (by omega)
  omega
theorem Gt.ok {t:Tm} (h:Gt 2 t) {F:Nat} (hF:3≤F):tOk F t=true:=decide_eq_true (by
 have:=h F 6 100 (by omega) (by omega) (by decide)
 have e:capT 2=13:=by decide
 omega)
def capN:Nat→Nat
 | 0=>6
 | n+1=>6+3*capN n
theorem capN_6 (n:Nat):6≤capN n:=by cases n<;>simp [capN]
def Gy (n:Nat) (t:Tm):Prop:=Gt n t∧needT (n+1) t≤capN n
theorem Gy.leaf {k m:Int} {s:ByteArray} (h:shB k m s 0=true) (hz:s.size≤5) (n:Nat):Gy n (.mk k m s []):=by
 refine ⟨Gt.leaf h n,Nat.le_trans ?_ (capN_6 n)⟩
 rw [needT,sumL,ndN]
 simp only [List.length_nil]
 split
 ·omega
 ·split
  ·omega
  ·split<;>omega
theorem sumL_cap {f:Tm→Nat} {c:Nat}:∀ (l:List Tm),(∀ t∈l,f t≤c)→sumL f l≤l.length*c
 | [],_=>by rw [sumL];omega
 | t :: r,h=>by
  have a:=h t (.head _)
  have b:=sumL_cap r fun u hu=>h u (.tail _ hu)
  rw [sumL,List.length_cons,Nat.succ_mul]
  omega
theorem Gy.node {n:Nat} {k:Int} {l:List Tm} (hk:k=4∨k=5) (hl:l.length≤3) (h:∀ t∈l,Gy n t):Gy (n+1) (.mk k 0 ⟨#[]⟩ l):=by
 refine ⟨Gt.node hk hl fun t ht=>(h t ht).1,?_⟩
 rw [needT,capN]
 have a:=sumL_cap (f:=needT (n+1)) (c:=capN n) l fun t ht=>(h t ht).2
 have b:l.length*capN n≤3*capN n:=Nat.mul_le_mul_right _ hl
 have c:ndN k ⟨#[]⟩ l.length≤6:=by
  unfold ndN
  rcases hk with rfl|rfl
  ·rw [if_pos rfl];omega
  ·rw [if_neg (by decide),if_pos rfl];omega
 omega
namespace Hs
variable {base cb:Nat} {W:Fp} {hX h0 h:AH} {D:Ds} {R:List Rs}
theorem cur0 (d:Hs base W h0 h D (rArg base hX :: rCur base cb hX :: R)):CurR base cb h:=d.cur (j:=0) (i:=1) rfl rfl
theorem drawn0 {h':AH} (d:Hs base W h0 h D (rArg base hX :: rCur base cb hX :: R)) (x:CurR base cb h') (k:KB (· = cb) h h'):Hs base W h0 h' D (rArg base hX :: rCur base cb hX :: R):=d.drawn (j:=0) (i:=1) rfl rfl x k
theorem neC {b t:Nat} {cs:List Value} (d:Hs base W h0 h D (rArg base hX :: rCur base cb hX :: R)) (m:(b,t,cs)∈D):b≠cb:=(d.res _ (.tail _ (.head _))).2.2.2.2 _ m
theorem below {n:Int} (d:Hs base W h0 h D (rArg base hX :: rCur base cb hX :: R)) (hn:n≤256):∃ z h',run (Et base) 133 [.pointer (at0 cb),.int .i64 n] h=some (.int .i64 z,h')∧0≤z∧(0<n→z<n)∧z≤255∧Hs base W h0 h' D (rArg base hX :: rCur base cb hX :: R)∧KB (· = cb) h h':=by
 obtain ⟨z,h',e,a,b,c,x,k,_⟩:=l1Below_run (n:=n) d.cur0 hn
 exact ⟨z,h',e,a,b,c,d.drawn0 x k,k⟩
theorem once {n:Int} (d:Hs base W h0 h D (rArg base hX :: rCur base cb hX :: R)) (hn:n≤256):∃ b h',run (Et base) 156 [.pointer (at0 cb),.int .i64 n] h=some (.bool b,h')∧Hs base W h0 h' D (rArg base hX :: rCur base cb hX :: R)∧KB (· = cb) h h':=by
 obtain ⟨z,h',e,x,k,_⟩:=l1Once_run (n:=n) d.cur0 hn
 exact ⟨z,h',e,d.drawn0 x k,k⟩
theorem pick {b:Nat} {zs:List Int} (d:Hs base W h0 h D (rArg base hX :: rCur base cb hX :: R)) (m:(b,3,iv .i64 zs)∈D) (l0:0<zs.length) (l1:zs.length≤256):∃ z h',run (Et base) 135 [.pointer (at0 cb),.slice (at0 b) zs.length zs.length] h=some (.int .i64 z,h')∧z∈zs∧Hs base W h0 h' D (rArg base hX :: rCur base cb hX :: R)∧KB (· = cb) h h':=by
 obtain ⟨z,h',e,a,x,k,_⟩:=l1Int_run d.cur0 (d.ol m).sl (fun c hc=>by rw [blk_at0] at hc;subst hc;exact d.neC m) l0 l1
 exact ⟨z,h',e,a,d.drawn0 x k,k⟩
theorem pickS {b:Nat} {zs:List ByteArray} (d:Hs base W h0 h D (rArg base hX :: rCur base cb hX :: R)) (m:(b,9,zs.map .string)∈D) (l0:0<zs.length) (l1:zs.length≤256):∃ z h',run (Et base) 172 [.pointer (at0 cb),.slice (at0 b) zs.length zs.length] h=some (.string z,h')∧z∈zs∧Hs base W h0 h' D (rArg base hX :: rCur base cb hX :: R)∧KB (· = cb) h h':=by
 obtain ⟨z,h',e,a,x,k,_⟩:=l1Str_run d.cur0 (d.ol m).sl (fun c hc=>by rw [blk_at0] at hc;subst hc;exact d.neC m) l0 l1
 exact ⟨z,h',e,a,d.drawn0 x k,k⟩
end Hs
def DrawQ (base cb n:Nat):Prop:=∀ h,CurR base cb h→∃ t cs h',run (Et base) 132 [.pointer (at0 cb),.int .i64 (n:Int)] h=some (.agg cs.toArray,h')∧TmG base (n+1) (iS h.length h'.length) h' t cs∧Gy n t∧CurR base cb h'∧KB (· = cb) h h'
theorem Hs.drawY {base cb n:Nat} {W:Fp} {hX h0 h:AH} {D:Ds} {R:List Rs} (q:DrawQ base cb n) (d:Hs base W h0 h D (rArg base hX :: rCur base cb hX :: R)):∃ t cs h' S,run (Et base) 132 [.pointer (at0 cb),.int .i64 (n:Int)] h=some (.agg cs.toArray,h')∧Gy n t∧Hs base W h0 h' D (rArg base hX :: rCur base cb hX :: R++[⟨S,true,fun y=>TmG base (n+1) S y t cs⟩])∧KB (· = cb) h h':=by
 obtain ⟨t,cs,h',e,g,gt,x,k⟩:=q h d.cur0
 exact ⟨t,cs,h',_,e,gt,d.drawC (j:=0) (i:=1) rfl rfl x k _ (fun y=>TmG base (n+1) (iS h.length h'.length) y t cs) g (fun U y y' ky hs z=>TmG.kp _ _ _ U y y' _ _ ky hs z) (fun b hb=>hb),k⟩
theorem drawQ_loop {base cb zb tb m:Nat} {kk:Int} {hX h0:AH} {V:Fp} (hm:m≤100) (ih:∀ n,m=n+1→DrawQ base cb n):∀ (k:Nat) (h:AH) (l:List Tm) (ao:Option Addr) (S2:Fp),l.length+k≤3→(∀ n,m=n+1→∀ t∈l,Gy n t)→(m=0→l = [])→Hs base V h0 h [(tb,42,termV kk 0 ⟨#[]⟩ ao l.length),(zb,42,termV 0 0 ⟨#[]⟩ none 0)] [rArg base hX,rCur base cb hX,⟨S2,true,fun y=>RowO base 42 4 (TmG base m) S2 y l ao⟩] →
  Wp (loopL (B132_0 base) [some (.pointer (at0 cb)),some (.int .i64 (m:Int)),some (.pointer (at0 zb)),some (.pointer (at0 tb)),some (.int .i64 (k:Int))] h) fun o=>∃ l' a' S',o.1=3∧o.2.1 = [some (.pointer (at0 zb)),some (.pointer (at0 tb))]∧l'.length≤3∧(∀ n,m=n+1→∀ t∈l',Gy n t)∧(m=0→l' = [])∧Hs base V h0 o.2.2 [(tb,42,termV kk 0 ⟨#[]⟩ a' l'.length),(zb,42,termV 0 0 ⟨#[]⟩ none 0)] [rArg base hX,rCur base cb hX,⟨S',true,fun y=>RowO base 42 4 (TmG base m) S' y l' a'⟩]:=by
 intro k
 induction k with
 | zero=>
  intro h l ao S2 hl hg h0l d
  suffices w:Wp (B132_0 base [some (.pointer (at0 cb)),some (.int .i64 (m:Int)),some (.pointer (at0 zb)),some (.pointer (at0 tb)),some (.int .i64 ((0:Nat):Int))] h) fun o=>o=(3,[some (.pointer (at0 zb)),some (.pointer (at0 tb))],h) by
   obtain ⟨o,e,rfl⟩:=w
   exact ⟨_,loop_off (by decide) e,l,ao,S2,rfl,rfl,by omega,hg,h0l,d⟩
  rw [B132_0_eq]
  refine W.join (W.ifF (by decide) (W.il ?_))
  ((with_reducible repeat refine W.a2 ?_))
  exact W.ifF (by decide) (W.ret rfl)
 | succ k ihk=>
  intro h l ao S2 hl hg h0l d
  cases m with
  | zero=>
   suffices w:Wp (B132_0 base [some (.pointer (at0 cb)),some (.int .i64 ((0:Nat):Int)),some (.pointer (at0 zb)),some (.pointer (at0 tb)),some (.int .i64 ((k+1:Nat):Int))] h) fun o=>o=(3,[some (.pointer (at0 zb)),some (.pointer (at0 tb))],h) by
    obtain ⟨o,e,rfl⟩:=w
    exact ⟨_,loop_off (by decide) e,l,ao,S2,rfl,rfl,by omega,hg,h0l,d⟩
   rw [B132_0_eq]
   refine W.join (W.ifT (decide_eq_true (by omega)) (W.il ?_))
   ((with_reducible repeat refine W.a2 ?_))
   exact W.ifF (by decide) (W.ret rfl)
  | succ n=>
   suffices w:Wp (B132_0 base [some (.pointer (at0 cb)),some (.int .i64 ((n+1:Nat):Int)),some (.pointer (at0 zb)),some (.pointer (at0 tb)),some (.int .i64 ((k+1:Nat):Int))] h) fun o=>∃ t a' S',o.1=0∧o.2.1 = [some (.pointer (at0 cb)),some (.int .i64 ((n+1:Nat):Int)),some (.pointer (at0 zb)),some (.pointer (at0 tb)),some (.int .i64 (k:Int))]∧Gy n t∧Hs base V h0 o.2.2 [(tb,42,termV kk 0 ⟨#[]⟩ a' (l.length+1)),(zb,42,termV 0 0 ⟨#[]⟩ none 0)] [rArg base hX,rCur base cb hX,⟨S',true,fun y=>RowO base 42 4 (TmG base (n+1)) S' y (l++[t]) a'⟩] by
    obtain ⟨⟨o1,o2,h'⟩,e,t,a',S',y1,y2,gt,d'⟩:=w
    simp only at y1 y2 d'
    subst y1;subst y2
    have el:(l++[t]).length=l.length+1:=by simp
    obtain ⟨o,eo,q⟩:=ihk h' (l++[t]) a' S' (by omega) (fun n' e' u hu=>by
     have:n=n':=by omega
     subst this
     rcases List.mem_append.1 hu with hu|hu
     ·exact hg n rfl u hu
     ·rw [List.mem_singleton] at hu;subst hu;exact gt) (fun e'=>by omega) (by rw [el];exact d')
    exact ⟨o,loop_on e eo,q⟩
   rw [B132_0_eq]
   refine W.join (W.ifT (decide_eq_true (by omega)) (W.il ?_))
   ((with_reducible repeat refine W.a2 ?_))
   refine W.ifT (decide_eq_true (by omega)) ?_
   ((with_reducible repeat refine W.a1 d ?_))
   rw [w64i (n:=((n+1:Nat):Int)-1) (by omega) (by omega),show ((n+1:Nat):Int)-1=(n:Int) from by omega]
   obtain ⟨t,cs,h2,S',e2,gt,d,_⟩:=d.drawY (ih n rfl)
   refine W.bs e2 ?_
   obtain ⟨k1,k2,k3,k4,k5,rfl⟩:=(d.rs (i:=3) rfl:TmG base (n+1) S' h2 t _).form
   ((try simp only [n1,n2,n3,n4,n5,n6] at d);(with_reducible repeat first|refine W.a2 ?_|refine W.a6 d ?_|refine W.a7 ?_);(refine W.nD d fun h4 d _ kh4=>?_))
   obtain ⟨a5,h5,S5,e5,d,_,_,_⟩:=d.app1 (i:=2) (j:=3) (bytes:=56) (TmG.kp _ _) rfl rfl (by decide) (.head _) rfl (by decide) rfl (by omega) (by omega)
   refine W.bs e5 ?_
   ((try simp only [n1,n2,n3,n4,n5,n6] at d);(with_reducible repeat first|refine W.a2 ?_|refine W.a5 d fun hw d lw kw=>?_))
   have d:=(d.tl).takeR 3
   rw [w64i (n:=((k+1:Nat):Int)-1) (by omega) (by omega),show ((k+1:Nat):Int)-1=(k:Int) from by omega]
   exact W.ret ⟨t,a5,S5,rfl,rfl,gt,d⟩
theorem drawQ_key {base cb m:Nat} (hm:m≤100) (ih:∀ n,m=n+1→DrawQ base cb n):DrawQ base cb m:=by
 intro h x
 have hlt:=x.lt
 have hb:base≤h.length:=by omega
 have d:=Hs.startC x hb
 suffices w:Wp (run (Et base) 132 [.pointer (at0 cb),.int .i64 (m:Int)] h) fun o=>∃ t cs S,o.1 = .agg cs.toArray∧Gy m t∧TmG base (m+1) S o.2 t cs∧(∀ b,S b→h.length≤b∧b<o.2.length)∧CurR base cb o.2∧KB (· = cb) h o.2 by
  obtain ⟨⟨o1,o2⟩,e,t,cs,S,y1,y2,y3,y4,y5,y6⟩:=w
  simp only at y1 y3 y4 y5 y6
  subst y1
  exact ⟨t,cs,o2,e,TmG.mo _ _ _ _ _ _ _ (fun b hb=>y4 b hb) y3,y2,y5,y6⟩
 have leafE:∀ {h':AH} {D:Ds} {k n:Int} {s:ByteArray},Hs base (· = cb) h h' D [rArg base h,rCur base cb h]→s.size≤5→shB k n s 0=true→∃ t cs S,Value.agg (termV k n s none 0).toArray = .agg cs.toArray∧Gy m t∧TmG base (m+1) S h' t cs∧(∀ b,S b→h.length≤b∧b<h'.length)∧CurR base cb h'∧KB (· = cb) h h':=fun d hs hsh=>
  ⟨.mk _ _ _ [],_,fun _=>False,rfl,Gy.leaf hsh hs m,⟨Nat.le_trans hs (by decide),by decide,none,rfl,RowO.nil⟩,fun _ h=>h.elim,d.cur0,d.kb⟩
 refine W.of (fun r hx=>Am.r132 hx) ?_
 ((refine W.nD d fun h1 d _ kh1=>?_))
 obtain ⟨n,h2,e2,z0,z1,z2,d,k2⟩:=d.below (n:=9) (by omega)
 have z1:=z1 (by omega)
 refine W.bs e2 ?_
 ((with_reducible repeat refine W.a2 ?_))
 apply W.jb (decide (n=0∨n=1∨n=2)) d
 ·refine W.ite (fun c=>?_) (fun c=>?_)
  ·have c:n=0:=by simpa using c
   exact W.lb rfl (by simp [c]) (KB.refl _ _)
  refine W.ite (fun c1=>?_) (fun c1=>?_)
  ·have c1:n=1:=by simpa using c1
   exact W.lb rfl (by simp [c1]) (KB.refl _ _)
  ·have c:¬n=0:=by simpa using c
   have c1:¬n=1:=by simpa using c1
   refine W.lb rfl ?_ (KB.refl _ _)
   by_cases c2:n=2
   ·simp [c2]
   ·simp [c,c1,c2]
 intro h3 d n3
 ((with_reducible repeat refine W.a2 ?_))
 refine W.ite (fun cB=>?_) (fun cB=>?_)
 ·obtain ⟨v,h4,e4,v0,v1,v2,d,k4⟩:=d.below (n:=100) (by omega)
  have v1:=v1 (by omega)
  refine W.bs e4 ?_
  ((with_reducible repeat refine W.a2 ?_);(refine W.nD d fun h5 d _ kh5=>?_))
  obtain ⟨u,h6,e6,hu,d,k6⟩:=d.pick (b:=h4.length) (zs:=[0,1,-1,7,1000000,-1000000,v]) (.head _) (by simp) (by simp)
  refine W.bs e6 ?_
  ((with_reducible repeat first|refine W.a1 d ?_|refine W.a2 ?_|refine W.a5 d fun hw d lw kw=>?_))
  refine W.ret (leafE d (by decide) ?_)
  have : -1000000≤u∧u≤1000000:=by
   simp only [List.mem_cons,List.not_mem_nil,or_false] at hu
   omega
  unfold shB inB
  simp [this.1,this.2]
 apply W.jb (decide (n=3∨n=4)) d
 ·refine W.ite (fun c=>?_) (fun c=>?_)
  ·have c:n=3:=by simpa using c
   exact W.lb rfl (by simp [c]) (KB.refl _ _)
  ·have c:¬n=3:=by simpa using c
   refine W.lb rfl ?_ (KB.refl _ _)
   by_cases c2:n=4
   ·simp [c2]
   ·simp [c,c2]
 intro h4 d n4
 ((with_reducible repeat refine W.a2 ?_))
 refine W.ite (fun cC=>?_) (fun cC=>?_)
 ·((refine W.nD d fun h5 d _ kh5=>?_))
  obtain ⟨u,h6,e6,hu,d,k6⟩:=d.pickS (b:=h4.length) (zs:=[⟨#[111,107]⟩,⟨#[97]⟩,⟨#[115,116,111,112]⟩,⟨#[104,105,50]⟩]) (.head _) (by simp) (by simp)
  refine W.bs e6 ?_
  ((with_reducible repeat first|refine W.a1 d ?_|refine W.a2 ?_|refine W.a5 d fun hw d lw kw=>?_))
  have hq:∀ s∈([⟨#[111,107]⟩,⟨#[97]⟩,⟨#[115,116,111,112]⟩,⟨#[104,105,50]⟩]:List ByteArray),s.size≤5∧shB 2 0 s 0=true:=by
   simp only [List.forall_mem_cons]
   exact ⟨⟨by decide,by decide⟩,⟨by decide,by decide⟩,⟨by decide,by decide⟩,⟨by decide,by decide⟩,fun _ h=>nomatch h⟩
  exact W.ret (leafE d (hq u hu).1 (hq u hu).2)
 refine W.ite (fun c5=>?_) (fun c5=>?_)
 ·obtain ⟨v,h5,e5,v0,v1,v2,d,k5⟩:=d.below (n:=4) (by omega)
  have v1:=v1 (by omega)
  refine W.bs e5 ?_
  ((with_reducible repeat first|refine W.a1 d ?_|refine W.a2 ?_|refine W.a5 d fun hw d lw kw=>?_))
  refine W.ret (leafE d (by decide) ?_)
  have:0≤v∧v≤99999:=by omega
  unfold shB inB
  simp [this.1,this.2]
 refine W.ite (fun c6=>?_) (fun c6=>?_)
 ·((refine W.nD d fun h5 d _ kh5=>?_))
  obtain ⟨u,h6,e6,hu,d,k6⟩:=d.pickS (b:=h4.length) (zs:=[⟨#[]⟩,⟨#[120]⟩,⟨#[0,255]⟩,⟨#[104,101,108,108,111]⟩]) (.head _) (by simp) (by simp)
  refine W.bs e6 ?_
  ((with_reducible repeat first|refine W.a1 d ?_|refine W.a2 ?_|refine W.a5 d fun hw d lw kw=>?_))
  have hq:∀ s∈([⟨#[]⟩,⟨#[120]⟩,⟨#[0,255]⟩,⟨#[104,101,108,108,111]⟩]:List ByteArray),s.size≤5∧shB 6 0 s 0=true:=by
   simp only [List.forall_mem_cons]
   exact ⟨⟨by decide,by decide⟩,⟨by decide,by decide⟩,⟨by decide,by decide⟩,⟨by decide,by decide⟩,fun _ h=>nomatch h⟩
  exact W.ret (leafE d (hq u hu).1 (hq u hu).2)
 ((refine W.nD d fun h5 d _ kh5=>?_))
 obtain ⟨u,h6,e6,hu,d,k6⟩:=d.pick (b:=h4.length) (zs:=[4,5]) (.head _) (by simp) (by simp)
 have hu:u=4∨u=5:=by simpa using hu
 refine W.bs e6 ?_
 ((with_reducible repeat refine W.a2 ?_);(refine W.nD d fun h7 d _ kh7=>?_);(with_reducible repeat refine W.a5 d fun hw d lw kw=>?_))
 obtain ⟨v,h8,e8,v0,v1,v2,d,k8⟩:=d.below (n:=4) (by omega)
 have v1:=v1 (by omega)
 refine W.bs e8 ?_
 ((try simp only [n1,n2,n3,n4,n5,n6] at d);(with_reducible repeat refine W.a2 ?_))
 have d:Hs base (· = cb) h h8 [(h6.length,42,termV u 0 ⟨#[]⟩ none 0),(h4.length,3,iv .i64 [4,5]),(h.length,42,termV 0 0 ⟨#[]⟩ none 0)] [rArg base h,rCur base cb h]:=d
 have d:=d.front (Del.at (i:=2) rfl)
 simp only [n5,n6] at d
 have d:=d.front (Del.at (i:=1) rfl)
 simp only [n5,n6] at d
 have d:=d.takeD 2
 have d:=d.call (KB.refl NoB _) (fun _=>False) (fun y=>RowO base 42 4 (TmG base m) (fun _=>False) y [] none) RowO.nil (fun U y y' k hs x=>x.keep (TmG.kp _ _) k hs) (fun _ h=>h.elim)
 have wl:=drawQ_loop (base:=base) (kk:=u) (m:=m) hm ih v.toNat h8 [] none (fun _=>False) (by simp;omega) (fun _ _ t ht=>nomatch ht) (fun _=>rfl) d
 rw [show ((v.toNat:Nat):Int)=v from by omega] at wl
 refine W.wb wl ?_
 rintro ⟨o1,o2,h9⟩ ⟨l',a',S',y1,y2,y3,y4,y5,d⟩
 simp only at y1 y2 d
 subst y1;subst y2
 refine W.ifT rfl ?_
 ((with_reducible repeat first|refine W.a1 d ?_|refine W.a2 ?_|refine W.a5 d fun hw d lw kw=>?_))
 have row:RowO base 42 4 (TmG base m) S' hw l' a':=d.rs (i:=2) rfl
 have fr:=d.rfr (i:=2) rfl rfl
 have lt:=d.rlt (i:=2) rfl
 have hdj:∀ b,S' b→b≠cb:=fun b hb e=>by
  have dj:=d.dj
  simp only [List.pairwise_cons] at dj
  exact dj.2.1 _ (.head _) rfl b e hb
 refine W.ret ⟨.mk u 0 ⟨#[]⟩ l',_,S',rfl,?_,⟨by decide,Nat.le_trans y3 (by decide),a',rfl,row⟩,fun b hb=>⟨(fr b hb).resolve_left (hdj b hb),lt b hb⟩,d.cur0,d.kb⟩
 cases m with
 | zero=>
  rw [y5 rfl]
  refine Gy.leaf ?_ (by decide) 0
  rcases hu with rfl|rfl<;>(unfold shB;simp)
 | succ n=>exact Gy.node hu y3 (y4 n rfl)
theorem drawQ {base cb:Nat}:∀ m,m≤100→DrawQ base cb m
 | 0,_=>drawQ_key (by omega) fun n e=>by omega
 | m+1,h=>drawQ_key h fun n e=>by
  have:m=n:=by omega
  subst this
  exact drawQ m (by omega)
end
theorem isw_ext {G H:Gn} (hm:H.mark=G.mark) (hH:∀ p v,gwd G p=some v→gwd H p=some v):∀ (n:Nat) (w:Int),Fub G n w→Isw G H id n w w∧pls H n w=pls G n w
 | 0,w,h=>h.elim
 | n+1,w,h=>by
  rw [Isw,pls,pls]
  by_cases l:leadW w=true
  ·rw [if_pos l,if_pos l,if_pos l]
   obtain ⟨nd,b6,hc⟩:=h
   obtain ⟨w1,w2⟩:=wid_le nd l
   have old:∀ k:Nat,(k:Int)<wid G w→gwd H (valW w+(k:Int))=gwd G (valW w+(k:Int)):=fun k hk=>by
    obtain ⟨v,e⟩:=Option.isSome_iff_exists.1 (wid_some nd b6 l hk)
    rw [e,hH _ _ e]
   have ew:wid H w=wid G w:=by
    unfold wid
    split
    ·rfl
    ·have:=old 0 (by omega)
     rw [show valW w+((0:Nat):Int)=valW w from by omega] at this
     rw [this]
   refine ⟨⟨rfl,?_,ew,w1,fun i hi=>?_⟩,?_⟩
   ·unfold prt;rw [hm];rfl
   ·obtain ⟨v,e⟩:=Option.isSome_iff_exists.1 (wid_some nd b6 l hi)
    refine ⟨v,v,e,hH _ _ e,fun _=>rfl,fun ip=>?_⟩
    have:=chW_at (G:=G) (w:=w) hi ip
    rw [e] at this
    exact (isw_ext hm hH n v (hc v this)).1
   ·rw [ew,ptW_congr (G:=G) (H:=H) _ _ fun k _ hk=>old k (by omega)]
    congr 1
    exact fm_congr _ fun x hx=>(isw_ext hm hH n x (hc x (ptW_ch hx))).2
  ·rw [if_neg l,if_neg l,if_neg l]
   exact ⟨rfl,rfl⟩
theorem rdS_ats {G:Gn} {g g':Int→Int→Option (Tm×Int)} (h:∀ w c y,g w c=some y→g' w c=some y):∀ (n:Nat) (p c:Int) (y:List Tm×Int),rdS G g n p c=some y→rdS G g' n p c=some y
 | 0,p,c,y,e=>e
 | n+1,p,c,y,e=>by
  rw [rdS] at e ⊢
  obtain ⟨w,e1,e⟩:=Option.bind_eq_some_iff.1 e
  obtain ⟨x,e2,e⟩:=Option.bind_eq_some_iff.1 e
  obtain ⟨z,e3,e⟩:=Option.bind_eq_some_iff.1 e
  rw [e1,Option.bind_some,h _ _ _ e2,Option.bind_some,rdS_ats h n _ _ _ e3]
  exact e
theorem rdL_ats {G:Gn} {g g':Int→Int→Option (Tm×Int)} (h:∀ w c y,g w c=some y→g' w c=some y):∀ (n:Nat) (w c:Int) (y:List Tm×Int),rdL G g n w c=some y→rdL G g' n w c=some y
 | 0,w,c,y,e=>by rw [rdL_0] at e ⊢;exact e
 | n+1,w,c,y,e=>by
  rw [rdL_s] at e ⊢
  split at e
  ·rename_i h1;rw [if_pos h1];exact e
  rename_i h1
  rw [if_neg h1]
  split at e
  ·cases e
  rename_i h2
  rw [if_neg h2]
  obtain ⟨x,e1,e⟩:=Option.bind_eq_some_iff.1 e
  obtain ⟨t,e2,e⟩:=Option.bind_eq_some_iff.1 e
  obtain ⟨v,e3,e⟩:=Option.bind_eq_some_iff.1 e
  obtain ⟨z,e4,e⟩:=Option.bind_eq_some_iff.1 e
  rw [e1,Option.bind_some,h _ _ _ e2,Option.bind_some,e3,Option.bind_some,rdL_ats h n _ _ _ e4]
  exact e
theorem rdT_ats {G:Gn} {chk:Tm→Bool} {ats A:List ByteArray} (hA:AtP ats A):∀ (f:Nat) (w c:Int) (y:Tm×Int),rdT chk G ats f w c=some y→rdT chk G A f w c=some y
 | 0,w,c,y,e=>by rw [rdT] at e;cases e
 | f+1,w,c,y,e=>by
  have ih:=rdT_ats (G:=G) (chk:=chk) hA f
  rw [rdT] at e ⊢
  by_cases h1:w<0∨100≤c
  ·rw [if_pos h1] at e;cases e
  rw [if_neg h1] at e ⊢
  obtain ⟨x,e1,e⟩:=Option.bind_eq_some_iff.1 e
  refine Option.bind_eq_some_iff.2 ⟨x,?_,e⟩
  by_cases c0:tagW w=0
  ·rw [if_pos c0] at e1 ⊢;exact e1
  rw [if_neg c0] at e1 ⊢
  by_cases c1:tagW w=1
  ·rw [if_pos c1] at e1 ⊢
   obtain ⟨s,e2,e1⟩:=Option.bind_eq_some_iff.1 e1
   rw [hA _ _ e2]
   exact e1
  rw [if_neg c1] at e1 ⊢
  by_cases c2:tagW w=2
  ·rw [if_pos c2] at e1 ⊢;exact e1
  rw [if_neg c2] at e1 ⊢
  by_cases c4:tagW w=4
  ·rw [if_pos c4] at e1 ⊢
   obtain ⟨v,q1,e1⟩:=Option.bind_eq_some_iff.1 e1
   rw [q1,Option.bind_some]
   by_cases hv:inB v 0 8=true
   ·rw [if_pos hv] at e1 ⊢
    obtain ⟨z,q2,e1⟩:=Option.bind_eq_some_iff.1 e1
    rw [rdS_ats ih _ _ _ _ q2]
    exact e1
   ·rw [if_neg hv] at e1;cases e1
  rw [if_neg c4] at e1 ⊢
  by_cases c6:tagW w=6
  ·rw [if_pos c6] at e1 ⊢;exact e1
  rw [if_neg c6] at e1 ⊢
  by_cases c7:tagW w=7
  ·rw [if_pos c7] at e1 ⊢;exact e1
  rw [if_neg c7] at e1 ⊢
  obtain ⟨z,q2,e1⟩:=Option.bind_eq_some_iff.1 e1
  rw [rdL_ats ih _ _ _ _ q2]
  exact e1
theorem put_fo {G:Gn} {ats:List ByteArray} {roots:List Int} {t:Tm} (x:Fo G ats roots) (gt:Gt 2 t) (h:(putT 100000 1000 3 G.young ats t).2.2=true) :
  Fo ⟨G.old,(putT 100000 1000 3 G.young ats t).1.1,G.mark⟩ (putT 100000 1000 3 G.young ats t).1.2 (roots++[(putT 100000 1000 3 G.young ats t).2.1])∧(putT 100000 1000 3 G.young ats t).1.1.length=G.young.length+needT 3 t:=by
 obtain ⟨h1,h2,h3,_⟩:=gOk_parts x.ok
 have hk:=x.ok
 unfold gOk at hk
 simp only [Bool.and_eq_true,Bool.not_eq_true',List.all_eq_true] at hk
 obtain ⟨_,_,_,hat⟩:=gHead_ok hk.1
 have hal:ats.length≤200:=by
  unfold atsOk at hat
  simp only [Bool.and_eq_true,decide_eq_true_eq] at hat
  omega
 have t3:tOk 3 t=true:=gt.ok (by decide)
 have t7:tOk 7 t=true:=gt.ok (by decide)
 have lk3:0≤lk 3 t ((6:Nat):Int) (100-0):=of_decide_eq_true t3
 unfold putT at h ⊢
 by_cases c:(roomT 1000 3 G.young t&&(pt 100000 3 (G.young,ats) t).2.2)=true
 ·rw [if_pos c] at h ⊢
  simp only
  have e:=pt_sg (fr:=100000) 3 t G.young ats
  have ln:=(pt_ok (fr:=100000) 3 t (Wf.of t3) (G.young,ats)).1
  rw [e] at c ln ⊢
  simp only [Bool.and_eq_true] at c ln ⊢
  obtain ⟨cr,ck⟩:=c
  have room:(G.young.length:Int)+needT 3 t≤1000:=by
   unfold roomT at cr
   simp only [Bool.and_eq_true,decide_eq_true_eq] at cr
   exact cr.2
  have sl:(sg 3 (100000+(G.young.length:Int)) ats t).seg.length=needT 3 t:=by
   rw [List.length_append] at ln
   omega
  refine ⟨?_,by rw [List.length_append,sl]⟩
  have H1:∀ p v,gwd G p=some v→gwd ⟨G.old,G.young++(sg 3 (100000+(G.young.length:Int)) ats t).seg,G.mark⟩ p=some v:=fun p v e=>by
   unfold gwd at e ⊢
   split at e
   ·rename_i c1
    rw [if_pos c1]
    have:=(ati_ok e).2
    unfold ati at e ⊢
    rw [if_pos this.1] at e ⊢
    rw [List.getElem?_append_left (by omega)]
    exact e
   ·rename_i c1
    rw [if_neg c1]
    exact e
  have P:=sg_rd (H:=⟨G.old,G.young++(sg 3 (100000+(G.young.length:Int)) ats t).seg,G.mark⟩) (A:=(sg 3 (100000+(G.young.length:Int)) ats t).ats) h3.1 3 t (100000+(G.young.length:Int)) ats 6 0 lk3 (by omega) (by omega) (by omega) ck (fun i hi=>by
   unfold gwd ati
   rw [if_pos (by omega),if_pos (by omega)]
   simp only
   rw [show (100000+(G.young.length:Int)+(i:Int)-100000).toNat=G.young.length+i from by omega,List.getElem?_append_right (by omega),Nat.add_sub_cancel_left,List.getElem?_eq_getElem hi]) (.refl _) (by omega)
  have pre:=sg_pre 3 (100000+(G.young.length:Int)) ats t
  have aok:=sg_atsOk 3 (100000+(G.young.length:Int)) ats t hat
  generalize sg 3 (100000+(G.young.length:Int)) ats t=S at *
  have ext:∀ w∈roots,_:=fun w hw=>isw_ext (G:=G) (H:=⟨G.old,G.young++S.seg,G.mark⟩) rfl H1 133 w (x.root w hw).2.1
  refine ⟨?_,?_⟩
  ·unfold gOk
   simp only [Bool.and_eq_true,Bool.not_eq_true',List.all_eq_true]
   refine ⟨?_,fun v hv=>?_⟩
   ·unfold gHead
    simp only
    rw [if_neg (by simp;omega),if_neg (by simp;omega),if_neg (by unfold inB;simp;omega),aok]
    rfl
   ·unfold rootOk
    rw [Bool.and_eq_true]
    rcases List.mem_append.1 hv with hv|hv
    ·have r:=(x.root v hv).1
     unfold rootOk at r
     rw [Bool.and_eq_true] at r
     refine ⟨?_,dnW_isw (fun _ _ h=>h) 133 v v (ext v hv).1 r.2⟩
     have q:=r.1
     rw [← rd_isw (ext v hv).1] at q
     unfold gRd at q ⊢
     cases e2:rdT chkI ⟨G.old,G.young++S.seg,G.mark⟩ ats 6 v 0 with
     | none=>rw [e2] at q;cases q
     | some y=>
      rw [e2] at q
      rw [rdT_ats pre 6 v 0 y e2]
      exact q
    ·rw [List.mem_singleton] at hv
     subst hv
     refine ⟨?_,P.dn 133 (by simp only;omega)⟩
     unfold gRd
     rw [P.rd]
     simp only
     rw [if_pos t7]
  ·rw [List.flatMap_append,List.nodup_append]
   have e1:roots.flatMap (pls ⟨G.old,G.young++S.seg,G.mark⟩ 133)=roots.flatMap (pls G 133):=fm_congr _ fun w hw=>(ext w hw).2
   have e2 : [S.word].flatMap (pls ⟨G.old,G.young++S.seg,G.mark⟩ 133)=pls ⟨G.old,G.young++S.seg,G.mark⟩ 133 S.word:=by simp
   have pp:=P.pl 133 (by omega)
   rw [e1,e2]
   refine ⟨x.nd,pp.nodup_iff.2 (rgI_nodup _ _),fun a ha b hb e=>?_⟩
   subst e
   have i1:=x.pin a ha
   have i2:=rgI_mem.1 (pp.mem_iff.1 hb)
   unfold inG at i1
   omega
 ·rw [if_neg c] at h;cases h
theorem fo_start:Fo ⟨[],[],0⟩ [] []:=⟨by decide,by simp⟩
theorem fo_tail {G:Gn} {ats:List ByteArray} {w:Int} {roots:List Int} (x:Fo G ats (w :: roots)):Fo G ats roots:=
 ⟨gOk_sub x.ok fun v hv=>.tail _ hv,by have:=x.nd;rw [List.flatMap_cons] at this;exact (List.nodup_append.1 this).2.1⟩
theorem lnk_w:∀ (b:Int) (ws:List Int),(∀ n∈ws,wOk n)→∀ n∈lnk b ws,wOk n
 | b,[],_,n,h=>by cases h
 | b,w :: r,hw,n,h=>by
  rw [lnk] at h
  rcases List.mem_cons.1 h with rfl|h
  ·exact hw _ (.head _)
  rcases List.mem_cons.1 h with rfl|h
  ·split
   ·exact ⟨by decide,by decide⟩
   ·exact mkW_ok _ _
  ·exact lnk_w (b+2) r (fun n hn=>hw n (.tail _ hn)) n h
theorem sgT_w {f:Nat} (ih:∀ b ats t,Wf f t→(∀ n∈(sg f b ats t).seg,wOk n)∧wOk (sg f b ats t).word):∀ (l:List Tm) (b:Int) (ats:List ByteArray),(∀ t∈l,Wf f t)→(∀ n∈(sgT (sg f) l b ats).ws,wOk n)∧∀ n∈(sgT (sg f) l b ats).seg,wOk n
 | [],b,ats,_=>⟨fun n h=>(nomatch h),fun n h=>(nomatch h)⟩
 | t :: r,b,ats,h=>by
  obtain ⟨a1,a2⟩:=ih b ats t (h t (.head _))
  obtain ⟨b1,b2⟩:=sgT_w ih r (b+(sg f b ats t).seg.length) (sg f b ats t).ats fun u hu=>h u (.tail _ hu)
  rw [sgT]
  refine ⟨fun n hn=>?_,fun n hn=>?_⟩
  ·rcases List.mem_cons.1 hn with rfl|hn
   ·exact a2
   ·exact b1 n hn
  ·rcases List.mem_append.1 hn with hn|hn
   ·exact a1 n hn
   ·exact b2 n hn
theorem w_0:wOk 0:=⟨by decide,by decide⟩
theorem w_3:wOk 3:=⟨by decide,by decide⟩
theorem nat_w {n:Nat} (h:n≤1000):wOk (n:Int):=⟨by omega,by omega⟩
theorem sg_w:∀ (f:Nat) (b:Int) (ats:List ByteArray) (t:Tm),Wf f t→(∀ n∈(sg f b ats t).seg,wOk n)∧wOk (sg f b ats t).word
 | 0,b,ats,t,h=>⟨fun n h=>(nomatch h),w_0⟩
 | f+1,b,ats,.mk k n s l,h=>by
  obtain ⟨hsh,hch⟩:=h.open
  obtain ⟨_,_,_,_,z4,_,z6⟩:=sh_kinds hsh
  have no:∀ n∈([]:List Int),wOk n:=fun n h=>(nomatch h)
  rw [sg]
  split
  ·exact ⟨no,by dsimp only;exact mkW_ok _ _⟩
  split
  ·exact ⟨no,by dsimp only;exact mkW_ok _ _⟩
  split
  ·exact ⟨no,by dsimp only;exact mkW_ok _ _⟩
  split
  ·rename_i e6
   have:=z6 e6
   refine ⟨fun n hn=>?_,by dsimp only;exact mkW_ok _ _⟩
   rcases List.mem_cons.1 hn with rfl|hn
   ·exact nat_w (by omega)
   ·have:=bsL_in s n hn
    unfold inB at this
    have:0≤n∧n≤255:=by simpa using this
    exact ⟨by omega,by omega⟩
  split
  ·rename_i e4
   have:=z4 e4
   obtain ⟨a,c⟩:=sgT_w (sg_w f) l (b+1+l.length) ats hch
   refine ⟨fun n hn=>?_,by dsimp only;exact mkW_ok _ _⟩
   rcases List.mem_cons.1 hn with rfl|hn
   ·exact nat_w (by omega)
   rcases List.mem_append.1 hn with hn|hn
   ·exact a n hn
   ·exact c n hn
  split
  ·exact ⟨no,w_3⟩
  ·obtain ⟨a,c⟩:=sgT_w (sg_w f) l (b+2*l.length) ats hch
   refine ⟨fun n hn=>?_,by dsimp only;exact mkW_ok _ _⟩
   rcases List.mem_append.1 hn with hn|hn
   ·exact lnk_w _ _ a n hn
   ·exact c n hn
structure Dr (m:Nat) (G:Gn) (ats:List ByteArray) (roots:List Int):Prop where
 fo:Fo G ats roots
 gw:Gw (G,roots)
 tot:G.old.length+G.young.length≤78*m
 rl:roots.length≤m
theorem Dr.start:Dr 0 ⟨[],[],0⟩ [] []:=⟨fo_start,⟨⟨by decide,by decide,fun n h=>(nomatch h),fun n h=>(nomatch h)⟩,fun n h=>(nomatch h),by decide⟩,by decide,by decide⟩
theorem Dr.up {m:Nat} {G:Gn} {ats:List ByteArray} {roots:List Int} (x:Dr m G ats roots):Dr (m+1) G ats roots:=⟨x.fo,x.gw,by have:=x.tot;omega,by have:=x.rl;omega⟩
theorem Dr.sz {m:Nat} {G:Gn} {ats:List ByteArray} {roots:List Int} (x:Dr m G ats roots):ats.length≤200∧∀ s∈ats,s.size≤maxLen:=by
 have hk:=x.fo.ok
 unfold gOk at hk
 simp only [Bool.and_eq_true,Bool.not_eq_true'] at hk
 obtain ⟨_,_,_,hat⟩:=gHead_ok hk.1
 unfold atsOk at hat
 simp only [Bool.and_eq_true,Bool.not_eq_true',decide_eq_true_eq] at hat
 refine ⟨by omega,fun s hs=>?_⟩
 obtain ⟨j,hj,rfl⟩:=List.getElem_of_mem hs
 have b:=(atAny_iff _ _).1 hat.1 j (Nat.zero_le _) (by omega)
 unfold atBad at b
 rw [Bool.or_eq_false_iff] at b
 have e:ats.getD j ⟨#[]⟩=ats[j]:=by simp [hj]
 rw [e] at b
 have c:atomOk ats[j]=true:=by simpa using b.1
 unfold atomOk inB at c
 simp only [Bool.and_eq_true,decide_eq_true_eq] at c
 exact Nat.le_trans (show ats[j].size≤12 by omega) (by decide)
theorem Dr.swp {m:Nat} {G:Gn} {ats:List ByteArray} {roots:List Int} (x:Dr m G ats roots) (all:Bool):Dr m (Am.swp G ats roots all).1.1 ats (Am.swp G ats roots all).1.2:=by
 cases h:(Am.swp G ats roots all).2 with
 | false=>rw [swp_not h];exact x
 | true=>
  have s:=swp_fo x.fo h
  refine ⟨s.fo,swp_gw x.gw,Nat.le_trans (swp_tot x.fo s) x.tot,?_⟩
  rw [s.isw.len]
  exact x.rl
theorem Dr.tail {m:Nat} {G:Gn} {ats:List ByteArray} {w:Int} {roots:List Int} (x:Dr m G ats (w :: roots)):Dr m G ats roots:=
 ⟨fo_tail x.fo,⟨x.gw.1,fun v hv=>x.gw.2.1 v (.tail _ hv),by have:=x.rl;have:=x.gw.2.2;simp only [List.length_cons] at *;omega⟩,x.tot,by have:=x.rl;simp only [List.length_cons] at *;omega⟩
theorem Dr.put {m:Nat} {G:Gn} {ats:List ByteArray} {roots:List Int} {t:Tm} (hm:m≤1000) (x:Dr m G ats roots) (g:Gy 2 t) (h:(putT 100000 1000 3 G.young ats t).2.2=true) :
  Dr (m+1) ⟨G.old,(putT 100000 1000 3 G.young ats t).1.1,G.mark⟩ (putT 100000 1000 3 G.young ats t).1.2 (roots++[(putT 100000 1000 3 G.young ats t).2.1]):=by
 obtain ⟨a,b⟩:=put_fo x.fo g.1 h
 obtain ⟨hg,hr,hl⟩:=x.gw
 have n78:needT 3 t≤78:=g.2
 obtain ⟨h1,h2,_,_⟩:=gOk_parts a.ok
 have tot:=x.tot
 have rl:=x.rl
 refine ⟨a,⟨⟨hg.1,by simp only;omega,hg.2.2.1,?_⟩,?_,?_⟩,by simp only;omega,by rw [List.length_append,List.length_singleton];omega⟩
 ·have t3:tOk 3 t=true:=g.1.ok (by decide)
  have e:=pt_sg (fr:=100000) 3 t G.young ats
  have w:=sg_w 3 (100000+(G.young.length:Int)) ats t (Wf.of t3)
  unfold putT
  split
  ·rw [e]
   intro n hn
   rcases List.mem_append.1 hn with hn|hn
   ·exact hg.2.2.2 n hn
   ·exact w.1 n hn
  ·exact hg.2.2.2
 ·have t3:tOk 3 t=true:=g.1.ok (by decide)
  have e:=pt_sg (fr:=100000) 3 t G.young ats
  have w:=sg_w 3 (100000+(G.young.length:Int)) ats t (Wf.of t3)
  intro n hn
  rcases List.mem_append.1 hn with hn|hn
  ·exact hr n hn
  ·rw [List.mem_singleton] at hn
   subst hn
   unfold putT
   split
   ·rw [e];exact w.2
   ·exact w_0
 ·rw [List.length_append,List.length_singleton];omega
section
namespace Hs
variable {base:Nat} {W:Fp} {h0 h:AH} {D:Ds} {R:List Rs}
end Hs
end
def okA (k n:Int) (s:ByteArray) (m:Nat):Bool:=isA k n s m (⟨#[111,107]⟩:ByteArray)
section
variable {F:Nat} {P:Pl}
end
section
variable {F:Nat} {P:Pl}
end
section
variable {F:Nat} {P:Pl}
end
section
namespace Hs
variable {base cb:Nat} {V:Fp} {hX h0 h:AH} {D:Ds}
end Hs
end
section
variable {F:Nat} {P:Pl}
def QB (P:Pl):Prop:=P.code.length≤200∧(∀ y∈P.code,y.s.size≤1048576)∧P.acs.length≤20∧(∀ A∈P.acs,A.regs.length≤8∧A.box.length≤30∧A.links.length≤50)∧P.out.length≤501
theorem QB.m (x:QB P):PlM P:=by
 obtain ⟨h1,h2,h3,h4,h5⟩:=x
 exact ⟨by omega,fun y hy=>by have:=h2 y hy;omega,by omega,fun A hA=>by obtain ⟨a1,a2,a3⟩:=h4 A hA;exact ⟨by omega,by omega,by omega⟩,by omega⟩
end
theorem Hs.newD {base:Nat} {W:Fp} {h0 h h':AH} {D:Ds} (d:Hs base W h0 h D []) (x:CurR base h.length h') (k:KB NoB h h'):Hs base W h0 h' D [rArg base h',rCur base h.length h']:=by
 have d':=d.kN k
 refine ⟨d'.ge,d'.kb,d'.own,d'.nd,fun r hr=>?_,?_⟩
 ·simp only [List.mem_cons,List.not_mem_nil,or_false] at hr
  have hb:=d.ge
  have hk:=k.1
  rcases hr with rfl|rfl
  ·refine ⟨⟨Nat.le_trans hb hk,fun _ _=>rfl⟩,argOk,fun b (hb2:b<base)=>by omega,fun m=>(nomatch m),fun x hx=>?_⟩
   have:=((d.own x hx).1.lt (blk_at0.2 rfl)).1
   show ¬x.1<base
   omega
  ·refine ⟨x.k fun _ _=>rfl,CurK.kp,fun b hb2=>by simp only at hb2;subst hb2;exact x.lt.2,fun _ b hb2=>by simp only at hb2;subst hb2;exact .inr d.kb.1,fun x hx=>?_⟩
   have:=((d.own x hx).1.lt (blk_at0.2 rfl)).2
   show ¬x.1=h.length
   omega
 ·simp only [List.pairwise_cons,List.mem_cons,List.not_mem_nil,or_false]
  refine ⟨fun r hr=>?_,?_⟩
  ·subst hr
   intro _ b h1 h2
   simp only at h1 h2
   have:=x.lt.1
   omega
  ·simp
theorem Hs.callC {base cb:Nat} {W:Fp} {hX h0 h h':AH} {D:Ds} {R R':List Rs} (d:Hs base W h0 h D (rArg base hX :: rCur base cb hX :: R)) (z:Hs base (· = cb) h h' [] (rArg base h :: rCur base cb h :: R')) (hm:∀ r∈R',r.mu=true):Hs base W h0 h' D (rArg base hX :: rCur base cb hX :: (R++R')):=by
 have d':=d.drawn0 z.cur0 z.kb
 have hz:∀ r∈R',∀ b,r.S b→h.length≤b∧b<h'.length:=fun r hr b hb=>by
  obtain ⟨_,_,x3,x4,_⟩:=z.res r (.tail _ (.tail _ hr))
  refine ⟨(x4 (hm r hr) b hb).resolve_left fun e=>?_,x3 b hb⟩
  have dj:=(List.pairwise_cons.1 (List.pairwise_cons.1 z.dj).2).1 r hr rfl b e
  exact dj hb
 refine ⟨d'.ge,d'.kb,d'.own,d'.nd,fun r hr=>?_,?_⟩
 ·rw [← List.cons_append,← List.cons_append] at hr
  rcases List.mem_append.1 hr with hr|hr
  ·exact d'.res r hr
  ·obtain ⟨x1,x2,x3,x4,_⟩:=z.res r (.tail _ (.tail _ hr))
   refine ⟨x1,x2,x3,fun _ b hb=>.inr ?_,fun x hx hS=>?_⟩
   ·have:=(hz r hr b hb).1
    have:=d.kb.1
    omega
   ·have:=((d.own x hx).1.lt (blk_at0.2 rfl)).2
    have:=(hz r hr _ hS).1
    omega
 ·rw [← List.cons_append,← List.cons_append,List.pairwise_append]
  refine ⟨d'.dj,(List.pairwise_cons.1 (List.pairwise_cons.1 z.dj).2).2,fun r hr s hs e b h1 h2=>?_⟩
  have:=(d.res r hr).2.2.1 b h1
  have:=(hz s hs b h2).1
  omega
theorem Own.cut {base t:Nat} {h:AH} {a:Option Addr} {v:Value} {vs:List Value} (x:Own base t h a (v :: vs)):Own base t h (shiftA a 1) vs:=by
 rcases x with ⟨_,e⟩|⟨ad,k,rfl,h1,h2,h3,h4,h5⟩
 ·cases e
 ·refine .inr ⟨⟨ad.block,ad.off+1,none⟩,k,rfl,h1,h2,h3,?_,fun i w e=>?_⟩
  ·simp only [List.length_cons] at h4 ⊢
   omega
  ·have:=h5 (i+1) w (by simpa using e)
   rw [show ad.off+1+i=ad.off+(i+1) from by omega]
   exact this
theorem Hs.cutW {base i:Nat} {V:Fp} {h0 h:AH} {D:Ds} {R:List Rs} {a:Option Addr} {v:Int} {l:List Int} (d:Hs base V h0 h D R) (ei:R[i]? = some (rW base a (v :: l))):Hs base V h0 h D (R.set i (rW base (shiftA a 1) l)):=by
 have hb:∀ b,blk (shiftA a 1) b→blk a b:=fun b ⟨ad,e,eb⟩=>by
  cases a with
  | none=>cases e
  | some x=>
   injection e with e
   subst e
   exact ⟨x,rfl,eb⟩
 exact d.upd (U:=NoB) (r:=rW base a (v :: l)) (r':=rW base (shiftA a 1) l) (Upd.at ei) rfl rfl (KB.refl _ _) (fun b hb=>hb.elim) (Own.cut (d.rs ei)) (fun U y y' k hs x=>Own.keep x k hs) (fun b h=>.inl (hb b h))
abbrev gdR (base cb:Nat) (hX:AH) (oa ya aa ra:Option Addr) (G:Gn) (ats:List ByteArray) (roots:List Int):List Rs:=[rArg base hX,rCur base cb hX,rW base oa G.old,rW base ya G.young,rSt base aa ats,rW base ra roots]
abbrev gdD (gb zb:Nat) (oa ya:Option Addr) (G:Gn):Ds:=[(gb,63,gensV oa ya G),(zb,63,[.slice none 0 0,.slice none 0 0,.int .i64 0])]
def GdQ (base cb gb zb:Nat) (V:Fp) (hX h0:AH) (m:Nat) (f:Option Addr→Nat→Option Addr→Nat→Slots) (q:Slots×AH):Prop:=∃ G ats roots oa ya aa ra,Dr m G ats roots∧q.1=f aa ats.length ra roots.length∧Hs base V h0 q.2 (gdD gb zb oa ya G) (gdR base cb hX oa ya aa ra G ats roots)
theorem mkSwA {base:Nat} {y:AH} {oa ya aa ra:Option Addr} {G:Gn} {ats:List ByteArray} {roots:List Int} (a:Own base 3 y oa (iv .i64 G.old)) (b:Own base 3 y ya (iv .i64 G.young)) (c:Own base 9 y aa (stV ats)) (e:Own base 3 y ra (iv .i64 roots)):SwA base oa ya G aa ats ra roots y:=
 ⟨⟨TyOk.own a,TyOk.own b,TyOk.own c,⟨Own.sl a,Own.sl b⟩,Own.sl c⟩,Own.sl e,TyOk.own e⟩
theorem Hs.re9 {base:Nat} {V:Fp} {h0 h:AH} {D:Ds} {x0 x1 x2 x3 x4 x5 x6 x7 x8:Rs} (d:Hs base V h0 h D [x0,x1,x2,x3,x4,x5,x6,x7,x8]):Hs base V h0 h D [x0,x1,x6,x7,x4,x8]:=
 ((((((d.frontR (Del.at (i:=8) rfl)).frontR (Del.at (i:=5) rfl)).frontR (Del.at (i:=8) rfl)).frontR (Del.at (i:=8) rfl)).frontR (Del.at (i:=5) rfl)).frontR (Del.at (i:=5) rfl)).takeR 6
theorem Hs.re10 {base:Nat} {V:Fp} {h0 h:AH} {D:Ds} {x0 x1 x2 x3 x4 x5 x6 x7 x8 x9:Rs} (d:Hs base V h0 h D [x0,x1,x2,x3,x4,x5,x6,x7,x8,x9]):Hs base V h0 h D [x0,x1,x7,x8,x9,x5]:=
 ((((((d.frontR (Del.at (i:=5) rfl)).frontR (Del.at (i:=9) rfl)).frontR (Del.at (i:=9) rfl)).frontR (Del.at (i:=9) rfl)).frontR (Del.at (i:=5) rfl)).frontR (Del.at (i:=5) rfl)).takeR 6
theorem l6Draw_step {base cb gb zb m k:Nat} {V:Fp} {hX h0 h:AH} {G:Gn} {ats:List ByteArray} {roots:List Int} {oa ya aa ra:Option Addr} (hm:m≤100) (hk:k≤100) (dr:Dr m G ats roots) (d:Hs base V h0 h (gdD gb zb oa ya G) (gdR base cb hX oa ya aa ra G ats roots)) :
  Wp (B106_0 base [some (.pointer (at0 cb)),some (.pointer (at0 zb)),some (.pointer (at0 gb)),some (.slice aa ats.length ats.length),some (.slice ra roots.length roots.length),some (.int .i64 ((k+1:Nat):Int))] h) fun o=>o.1=0∧GdQ base cb gb zb V hX h0 (m+1) (fun a n r l=>[some (.pointer (at0 cb)),some (.pointer (at0 zb)),some (.pointer (at0 gb)),some (.slice a n n),some (.slice r l l),some (.int .i64 (k:Int))]) o.2:=by
 have hsz:=dr.sz
 have gw:=dr.gw
 have lr:=dr.rl
 rw [B106_0_eq]
 refine W.ifT (decide_eq_true (by omega)) ?_
 refine W.joinP (fun q=>GdQ base cb gb zb V hX h0 (m+1) (fun a n r l=>[some (.pointer (at0 cb)),some (.pointer (at0 zb)),some (.pointer (at0 gb)),some (.slice a n n),some (.slice r l l),some (.int .i64 ((k+1:Nat):Int))]) q) ?_ ?_
 ·obtain ⟨z2,h2,e2,y0,y1,y2,d,_⟩:=d.below (n:=6) (by omega)
  refine W.bs e2 ?_
  ((with_reducible repeat refine W.a2 ?_))
  refine W.ite (fun c=>?_) (fun c=>?_)
  ·((with_reducible repeat refine W.a1 d ?_))
   obtain ⟨a,b,c',h3,e3,dq⟩:=specMinor_run (base:=base) h2 G ats roots oa ya aa ra gw.1 (by omega) hsz.2 gw.2.1 gw.2.2 (mkSwA (d.rs (i:=2) rfl) (d.rs (i:=3) rfl) (d.rs (i:=4) rfl) (d.rs (i:=5) rfl)) d.ge
   rw [List.append_nil] at e3
   refine W.bs e3 ?_
   have d:=d.callR dq (by simp)
   have dr':=(dr.swp false).up
   generalize swp G ats roots false=X at d dr' ⊢
   ((try simp only [n1,n2,n3,n4,n5,n6] at d);(with_reducible repeat first|refine W.a2 ?_|refine W.a3 ?_|refine W.a5 d fun hw d lw kw=>?_))
   exact W.inl ⟨X.1.1,ats,X.1.2,a,b,aa,c',dr',rfl,d.re9⟩
  refine W.ite (fun c1=>?_) (fun c1=>?_)
  ·refine W.ite (fun c2=>?_) (fun c2=>?_)
   ·have c2:(1:Int)<(roots.length:Int):=by simpa using c2
    cases roots with
    | nil=>simp at c2
    | cons v l=>
    have ty:=TyOk.own (d.rs (i:=5) rfl:Own base 3 h2 ra (iv .i64 (v :: l)))
    refine W.ifT ⟨by omega,by omega,by omega,?_⟩ ?_
    ·exact ty.ok _
    ·have d:=d.cutW (i:=5) rfl
     exact W.inl ⟨G,ats,l,oa,ya,aa,shiftA ra 1,dr.tail.up,rfl,d⟩
   ·exact W.inl ⟨G,ats,roots,oa,ya,aa,ra,dr.up,rfl,d⟩
  refine W.ite (fun c3=>?_) (fun c3=>?_)
  ·obtain ⟨b3,h3,e3,d,_⟩:=d.once (n:=3) (by omega)
   refine W.bs e3 ?_
   ((with_reducible repeat refine W.a2 ?_))
   refine W.ite (fun c4=>?_) (fun c4=>?_)
   ·((with_reducible repeat refine W.a1 d ?_))
    obtain ⟨a,b,c',h4,e4,dq⟩:=specMajor_run (base:=base) h3 G ats roots oa ya aa ra gw.1 (by omega) hsz.2 gw.2.1 gw.2.2 (mkSwA (d.rs (i:=2) rfl) (d.rs (i:=3) rfl) (d.rs (i:=4) rfl) (d.rs (i:=5) rfl)) d.ge
    rw [List.append_nil] at e4
    refine W.bs e4 ?_
    have d:=d.callR dq (by simp)
    have dr':=(dr.swp true).up
    generalize swp G ats roots true=X at d dr' ⊢
    ((try simp only [n1,n2,n3,n4,n5,n6] at d);(with_reducible repeat first|refine W.a2 ?_|refine W.a3 ?_|refine W.a5 d fun hw d lw kw=>?_))
    exact W.inl ⟨X.1.1,ats,X.1.2,a,b,aa,c',dr',rfl,d.re9⟩
   ·exact W.inl ⟨G,ats,roots,oa,ya,aa,ra,dr.up,rfl,d⟩
  ·((with_reducible repeat refine W.a1 d ?_))
   obtain ⟨t,tcs,h3,S,e3,gy,d,_⟩:=d.drawY (drawQ 2 (by omega))
   refine W.bs e3 ?_
   have tg:TmG base 3 S h3 t tcs:=d.rs (i:=6) rfl
   obtain ⟨k1,k2,s3,l4,n5',rfl⟩:=tg.form
   ((try simp only [n1,n2,n3,n4,n5,n6] at d);(with_reducible repeat first|refine W.a2 ?_|refine W.a6 d ?_))
   obtain ⟨a,b,aa',h4,e4,dq⟩:=specGPut_run (base:=base) (f:=3) h3 S t _ G ats oa ya aa (TmG.tmR tg) (d.rlt (i:=6) rfl) ⟨Own.sl (d.rs (i:=2) rfl),Own.sl (d.rs (i:=3) rfl)⟩ (Own.sl (d.rs (i:=4) rfl)) gw.1.1 gw.1.2.1 (by omega) d.ge
   refine W.bs e4 ?_
   have d:=d.callR dq (by simp)
   have dr':=fun h=>dr.put (by omega) gy h
   generalize putT 100000 1000 3 G.young ats t=q at d dr' ⊢
   ((try simp only [n1,n2,n3,n4,n5,n6] at d);(with_reducible repeat first|refine W.a2 ?_|refine W.a3 ?_|refine W.a7 ?_);(refine W.nD d fun h5 d _ kh5=>?_);(with_reducible repeat refine W.a5 d fun hw d lw kw=>?_))
   refine W.ite (fun c5=>?_) (fun c5=>?_)
   ·have dr':=dr' c5
    ((try simp only [n1,n2,n3,n4,n5,n6] at d);(with_reducible repeat first|refine W.a1 d ?_|refine W.a5 d fun hw d lw kw=>?_);(refine W.nD d fun h6 d _ kh6=>?_))
    obtain ⟨a7,h7,e7,d⟩:=d.app1W (i:=5) rfl rfl (by omega)
    refine W.bs e7 ?_
    ((try simp only [n1,n2,n3,n4,n5,n6] at d);(with_reducible repeat refine W.a2 ?_))
    exact W.inl ⟨_,_,_,a,b,aa',a7,dr',by rw [List.length_append];rfl,((d.tl).tl).re10⟩
   ·((try simp only [n1,n2,n3,n4,n5,n6] at d))
    exact W.inl ⟨G,ats,roots,oa,ya,aa,ra,dr.up,rfl,(d.tl).takeR 6⟩
 ·rintro ⟨q1,q2⟩ ⟨G',ats',roots',oa',ya',aa',ra',dr',e,d'⟩
  simp only at e d'
  subst e
  ((with_reducible repeat refine W.a2 ?_))
  dsimp only
  rw [show IntKind.wrap .i64 (((k+1:Nat):Int)-(1:Int))=(k:Int) from by rw [w64i (by omega) (by omega)];omega]
  exact W.ret ⟨rfl,G',ats',roots',oa',ya',aa',ra',dr',rfl,d'⟩
end Go.Proofs.Ytkdenmdijdmnjaa.Am
